/- Splitting a text at its slashes, in plain words. Conditions: none. -/
import Derived.Test.YtnimmkfkijcbbaaDoorStx
import Derived.Lib.Split
import Derived.Lib.SplitLaws
import Derived.Lib.Replace
namespace Go.Proofs.YtnimmkfkijcbbaaDoor

/-- The parts of a text between its slashes. -/
def parts : List UInt8 → List (List UInt8)
  | [] => [[]]
  | b :: r => if b = 47 then [] :: parts r else match parts r with
    | [] => [[b]]
    | p :: q => (b :: p) :: q
theorem parts_ne (l : List UInt8) : parts l ≠ [] := by
  cases l with
  | nil => simp [parts]
  | cons b r => rw [parts]; split; simp; split <;> simp
theorem parts_eq (r : List UInt8) : parts (47 :: r) = [] :: parts r := by rw [parts, if_pos rfl]
theorem parts_cons {b : UInt8} {r p : List UInt8} {q : List (List UInt8)} (hb : b ≠ 47) (h : parts r = p :: q) : parts (b :: r) = (b :: p) :: q := by
  rw [parts, if_neg hb, h]
theorem parts_snoc_eq (l : List UInt8) : parts (l ++ [47]) = parts l ++ [[]] := by
  induction l with
  | nil => rfl
  | cons b r ih =>
    by_cases hb : b = 47
    · subst hb; rw [List.cons_append, parts_eq, parts_eq, ih]; rfl
    · obtain ⟨p, q, hp⟩ := List.exists_cons_of_ne_nil (parts_ne r)
      rw [List.cons_append, parts_cons hb hp, parts_cons (p := p) (q := q ++ [[]]) hb (by rw [ih, hp]; rfl)]; rfl
theorem parts_snoc_ne (l : List UInt8) : ∀ (c : List (List UInt8)) (x : List UInt8) (b : UInt8), b ≠ 47 → parts l = c ++ [x] → parts (l ++ [b]) = c ++ [x ++ [b]] := by
  induction l with
  | nil =>
    intro c x b hb h
    have : c = [] ∧ x = [] := by
      cases c with
      | nil => simp [parts] at h; exact ⟨rfl, h⟩
      | cons y c => simp [parts] at h
    obtain ⟨rfl, rfl⟩ := this
    rw [List.nil_append, parts_cons hb (p := []) (q := []) rfl]; rfl
  | cons d r ih =>
    intro c x b hb h
    by_cases hd : d = 47
    · subst hd
      rw [parts_eq] at h
      cases c with
      | nil => simp at h; exact absurd h.2 (parts_ne r)
      | cons y c =>
        simp only [List.cons_append, List.cons.injEq] at h
        obtain ⟨rfl, h⟩ := h
        rw [List.cons_append, parts_eq, ih c x b hb h]; rfl
    · obtain ⟨p, q, hp⟩ := List.exists_cons_of_ne_nil (parts_ne r)
      rw [parts_cons hd hp] at h
      cases c with
      | nil =>
        simp only [List.nil_append, List.cons.injEq] at h
        obtain ⟨rfl, rfl⟩ := h
        rw [List.cons_append, parts_cons hd (p := p ++ [b]) (q := []) (ih [] p b hb hp)]; rfl
      | cons y c =>
        simp only [List.cons_append, List.cons.injEq] at h
        obtain ⟨rfl, rfl⟩ := h
        rw [List.cons_append, parts_cons hd (p := p) (q := c ++ [x ++ [b]]) (ih (p :: c) x b hb hp)]; rfl
theorem join_cons2 {r : List (List UInt8)} (x sep : List UInt8) (h : r ≠ []) : Lib.join (x :: r) sep = x ++ sep ++ Lib.join r sep := by
  obtain ⟨y, q, rfl⟩ := List.exists_cons_of_ne_nil h
  rw [Lib.join_cons, Lib.join_cons, Lib.joinTail, List.map_cons, List.flatten_cons, ← Lib.joinTail]; simp
theorem join_parts (l : List UInt8) : Lib.join (parts l) [47] = l := by
  induction l with
  | nil => rw [parts, Lib.join_one]
  | cons b r ih =>
    by_cases hb : b = 47
    · subst hb; rw [parts_eq, join_cons2 _ _ (parts_ne r), ih]; rfl
    · obtain ⟨p, q, hp⟩ := List.exists_cons_of_ne_nil (parts_ne r)
      rw [parts_cons hb hp, Lib.join_cons, List.cons_append, ← Lib.join_cons, ← hp, ih]
theorem parts_len (l : List UInt8) : (parts l).length ≤ l.length + 1 := by
  induction l with
  | nil => simp [parts]
  | cons b r ih =>
    by_cases hb : b = 47
    · subst hb; rw [parts_eq]; simp; exact ih
    · obtain ⟨p, q, hp⟩ := List.exists_cons_of_ne_nil (parts_ne r)
      rw [hp] at ih
      rw [parts_cons hb hp]
      simp at ih ⊢; omega
theorem part_len {l p : List UInt8} (h : p ∈ parts l) : p.length ≤ l.length := by
  induction l generalizing p with
  | nil => simp [parts] at h; subst h; simp
  | cons b r ih =>
    by_cases hb : b = 47
    · subst hb
      rw [parts_eq] at h
      rcases List.mem_cons.1 h with rfl | h
      · simp
      · have := ih h; simp; omega
    · obtain ⟨p', q, hp⟩ := List.exists_cons_of_ne_nil (parts_ne r)
      rw [parts_cons hb hp] at h
      rcases List.mem_cons.1 h with rfl | h
      · have := ih (p := p') (by rw [hp]; simp); simp; omega
      · have := ih (p := p) (by rw [hp]; simp [h]); simp; omega
/-- What strings.Split gives. -/
theorem split_parts (l : List UInt8) : Lib.splitK [47] 0 (Lib.count l [47]) l = parts l := by
  induction l with
  | nil => rfl
  | cons b r ih =>
    by_cases hb : b = 47
    · subst hb
      have hi : Lib.index (47 :: r) [47] = 0 := by simp [Lib.index]
      rw [Lib.count_cons_eq, Nat.add_comm, parts_eq, ← ih]
      simp [Lib.splitK, hi]
    · have hpre : ([47] : List UInt8).isPrefixOf (b :: r) = false := by simp [List.isPrefixOf]; exact fun h => hb h.symm
      rw [Lib.count_cons_ne _ _ _ hb]
      cases hk : Lib.count r [47] with
      | zero =>
        rw [hk] at ih
        have h2 : parts r = [r] := by rw [← ih]; rfl
        rw [parts_cons hb h2]; rfl
      | succ k =>
        rw [hk] at ih
        obtain ⟨i, hi⟩ := Lib.index_of_count (s := r) (old := [47]) (by omega)
        have hi2 : Lib.index (b :: r) [47] = (i + 1 : Nat) := by
          rw [Lib.index, hpre, hi]
          have : ¬ ((i : Int) == -1) = true := fun e => by have := beq_iff_eq.1 e; omega
          simp only [Bool.false_eq_true, if_false, if_neg this]; omega
        have e1 : ¬ ((i : Int) == -1) = true := fun e => by have := beq_iff_eq.1 e; omega
        have e2 : ¬ (((i + 1 : Nat) : Int) == -1) = true := fun e => by have := beq_iff_eq.1 e; omega
        rw [Lib.splitK, hi, if_neg e1] at ih
        rw [parts_cons hb ih.symm, Lib.splitK, hi2, if_neg e2]
        simp
end Go.Proofs.YtnimmkfkijcbbaaDoor
