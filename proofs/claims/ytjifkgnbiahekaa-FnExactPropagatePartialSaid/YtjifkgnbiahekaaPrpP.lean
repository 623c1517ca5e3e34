/- Filling cells that have one candidate, in plain words. Conditions: none. -/
import Derived.Test.YtjifkgnbiahekaaCandP
import Derived.Test.YtjifkgnbiahekaaSet2
namespace Go.Proofs.Ytjifkgnbiahekaa
open Go.RowKit

/-- Cell c, counted row by row. -/
def atc (p : List (List Int)) (n c : Nat) : Int := at2 p (c / n) (c % n)
noncomputable def candc (p : List (List Int)) (n c : Nat) : List Int := cands p (c / n) (c % n)
/-- An empty cell that has one candidate. -/
def Sgl (p : List (List Int)) (n c : Nat) : Prop := atc p n c = -1 ∧ (candc p n c).length = 1
noncomputable def fil1 (p : List (List Int)) (n c : Nat) : List (List Int) := set2 p (c / n) (c % n) (gi (candc p n c) 0)
/-- The first such cell below a bound. -/
noncomputable def frs (p : List (List Int)) (n : Nat) : Nat → Option Nat
  | 0 => none
  | k + 1 => match frs p n k with
    | some c => some c
    | none => if pb (Sgl p n k) then some k else none

theorem frs_none {p : List (List Int)} {n : Nat} : ∀ {k : Nat}, frs p n k = none ↔ ∀ c, c < k → ¬ Sgl p n c := by
  intro k
  induction k with
  | zero => exact ⟨fun _ c h => absurd h (Nat.not_lt_zero _), fun _ => rfl⟩
  | succ k ih =>
    rw [frs]
    constructor
    · intro h
      match hf : frs p n k with
      | some c => rw [hf] at h; cases h
      | none =>
        rw [hf] at h
        by_cases hs : Sgl p n k
        · rw [pb_true hs] at h; cases h
        · intro c hc
          by_cases e : c = k
          · subst e; exact hs
          · exact ih.1 hf c (by omega)
    · intro h
      rw [ih.2 (fun c hc => h c (by omega))]
      dsimp only
      rw [pb_false (h k (by omega))]
      rfl

theorem frs_some {p : List (List Int)} {n c : Nat} (h1 : ∀ d, d < c → ¬ Sgl p n d) (h2 : Sgl p n c) : ∀ {N : Nat}, c < N → frs p n N = some c := by
  intro N
  induction N with
  | zero => intro h; exact absurd h (Nat.not_lt_zero _)
  | succ N ih =>
    intro h
    rw [frs]
    by_cases e : c = N
    · subst e
      rw [frs_none.2 h1]
      dsimp only
      rw [pb_true h2]
      rfl
    · rw [ih (by omega)]

theorem frs_lt {p : List (List Int)} {n c : Nat} : ∀ {N : Nat}, frs p n N = some c → c < N ∧ Sgl p n c := by
  intro N
  induction N with
  | zero => intro h; cases h
  | succ N ih =>
    intro h
    rw [frs] at h
    match hf : frs p n N with
    | some d =>
      rw [hf] at h
      dsimp only at h
      cases h
      have := ih hf
      exact ⟨by omega, this.2⟩
    | none =>
      rw [hf] at h
      dsimp only at h
      by_cases hs : Sgl p n N
      · rw [pb_true hs] at h
        cases h
        exact ⟨by omega, hs⟩
      · rw [pb_false hs] at h; cases h

/-- The number of empty cells below a bound. -/
def nEmp (p : List (List Int)) (n : Nat) : Nat → Nat
  | 0 => 0
  | k + 1 => nEmp p n k + if atc p n k = -1 then 1 else 0
theorem nEmp_le (p : List (List Int)) (n k : Nat) : nEmp p n k ≤ k := by
  induction k with
  | zero => exact Nat.le_refl _
  | succ k ih => rw [nEmp]; split <;> omega

/-- What both keep. -/
def Kept (p : List (List Int)) (n : Nat) : Prop := Rect p n n ∧ ∀ x y, x < n → y < n → -1 ≤ at2 p x y

theorem cell_lt {n c : Nat} (h : c < n * n) : c / n < n ∧ c % n < n := by
  have h0 : 0 < n := by
    rcases Nat.eq_zero_or_pos n with h4 | h4
    · subst h4; omega
    · exact h4
  exact ⟨Nat.div_lt_of_lt_mul h, Nat.mod_lt _ h0⟩

theorem cand0 {p : List (List Int)} {n c : Nat} (h : Sgl p n c) : ∃ v : Nat, candc p n c = [(v : Int)] := by
  obtain ⟨v, hv⟩ := List.length_eq_one_iff.1 h.2
  have hm : v ∈ candc p n c := by rw [hv]; simp
  obtain ⟨s, rfl, _, _⟩ := candsTo_mem hm
  exact ⟨s, hv⟩
theorem fil1_eq {p : List (List Int)} {n c v : Nat} (h : candc p n c = [(v : Int)]) : fil1 p n c = set2 p (c / n) (c % n) (v : Int) := by
  rw [fil1, h]; rfl

theorem atc_fil1 {p : List (List Int)} {n c d : Nat} (hr : Rect p n n) (hc : c < n * n) (h : Sgl p n c) :
    atc (fil1 p n c) n d = if d = c then gi (candc p n c) 0 else atc p n d := by
  obtain ⟨h1, h2⟩ := cell_lt hc
  rw [atc, fil1, at2_set2 hr _ h1 h2]
  by_cases e : d = c
  · subst e; rw [if_pos ⟨rfl, rfl⟩, if_pos rfl]
  · rw [if_neg e, if_neg (fun hh => e ?_)]
    · rfl
    · have k1 := Nat.div_add_mod d n
      have k2 := Nat.div_add_mod c n
      rw [hh.1, hh.2] at k1
      omega

theorem Kept.fil1 {p : List (List Int)} {n c : Nat} (h : Kept p n) (hc : c < n * n) (hs : Sgl p n c) : Kept (fil1 p n c) n ∧ tot (fil1 p n c) = tot p := by
  obtain ⟨h1, h2⟩ := cell_lt hc
  obtain ⟨v, hv⟩ := cand0 hs
  rw [fil1_eq hv]
  refine ⟨⟨rect_set2 h.1 _ _ _ h1, fun x y hx hy => ?_⟩, tot_set2 _ _ _ _ (by rw [h.1.1]; exact h1)⟩
  rw [at2_set2 h.1 _ h1 h2]
  split
  · omega
  · exact h.2 x y hx hy

theorem nEmp_fil1 {p : List (List Int)} {n c : Nat} (hr : Rect p n n) (hc : c < n * n) (hs : Sgl p n c) : ∀ k, nEmp (fil1 p n c) n k + (if c < k then 1 else 0) = nEmp p n k := by
  intro k
  induction k with
  | zero => rfl
  | succ k ih =>
    rw [nEmp, nEmp, atc_fil1 hr hc hs]
    by_cases e : k = c
    · subst e
      obtain ⟨v, hv⟩ := cand0 hs
      rw [if_neg (Nat.lt_irrefl _)] at ih
      rw [if_pos rfl, hv, show gi [(v : Int)] 0 = (v : Int) from rfl, if_neg (by omega), if_pos (by omega), if_pos hs.1]
      omega
    · rw [if_neg e]
      by_cases e2 : c < k
      · rw [if_pos e2] at ih
        rw [show (if c < k + 1 then 1 else 0 : Nat) = 1 from if_pos (by omega)]
        omega
      · rw [if_neg e2] at ih
        rw [show (if c < k + 1 then 1 else 0 : Nat) = 0 from if_neg (by omega)]
        omega

/-- All cells with one candidate filled, one after the other. -/
noncomputable def prp : Nat → List (List Int) → List (List Int)
  | 0, p => p
  | k + 1, p => match frs p p.length (p.length * p.length) with
    | none => p
    | some c => prp k (fil1 p p.length c)
noncomputable def prpF (p : List (List Int)) : List (List Int) := prp (nEmp p p.length (p.length * p.length)) p

theorem prp_stop {p : List (List Int)} {n : Nat} (hn : n = p.length) (h : frs p n (n * n) = none) : prpF p = p := by
  subst hn
  rw [prpF]
  match nEmp p p.length (p.length * p.length) with
  | 0 => rfl
  | k + 1 => rw [prp, h]
theorem prp_step {p : List (List Int)} {n c : Nat} (hr : Rect p n n) (h : frs p n (n * n) = some c) : prpF p = prpF (fil1 p n c) := by
  obtain ⟨h1, h2⟩ := frs_lt h
  have hn : p.length = n := hr.1
  have hl : (fil1 p n c).length = n := by rw [fil1, set2_length, hn]
  have hk := nEmp_fil1 hr h1 h2 (n * n)
  rw [if_pos h1] at hk
  rw [prpF, hn, ← hk, prp, hn, h]
  dsimp only
  rw [prpF, hl]

theorem Kept.frs {p : List (List Int)} {n c : Nat} (h : Kept p n) (hf : frs p n (n * n) = some c) : Kept (Go.Proofs.Ytjifkgnbiahekaa.fil1 p n c) n ∧ tot (Go.Proofs.Ytjifkgnbiahekaa.fil1 p n c) = tot p := h.fil1 (frs_lt hf).1 (frs_lt hf).2

theorem prp_kept {n : Nat} : ∀ (k : Nat) (p : List (List Int)), Kept p n → Kept (prp k p) n ∧ tot (prp k p) = tot p := by
  intro k
  induction k with
  | zero => intro p h; exact ⟨h, rfl⟩
  | succ k ih =>
    intro p h
    have hl : p.length = n := h.1.1
    rw [prp, hl]
    match hf : Go.Proofs.Ytjifkgnbiahekaa.frs p n (n * n) with
    | none => exact ⟨h, rfl⟩
    | some c =>
      dsimp only
      obtain ⟨h1, h2⟩ := h.frs hf
      obtain ⟨h3, h4⟩ := ih _ h1
      exact ⟨h3, h4.trans h2⟩

/-- An empty cell without a candidate. -/
def Dead (p : List (List Int)) (n : Nat) : Prop := ∃ c, c < n * n ∧ atc p n c = -1 ∧ (candc p n c).length = 0
noncomputable def prpM (p : List (List Int)) : List (List Int) := if pb (POk p) then (if pb (Dead (prpF p) p.length) then [] else prpF p) else []
noncomputable def prpC (p : List (List Int)) : Int := if pb (POk p) then (if pb (Dead (prpF p) p.length) then 3 else 0) else 1

theorem POk.kept {p : List (List Int)} {n : Nat} (h : POk p) (hn : n = p.length) : Kept p n := by
  subst hn
  exact ⟨h.2.2.1, fun x y hx hy => (h.2.2.2 x y hx hy).1⟩
theorem prpM_tot (p : List (List Int)) (h : p.length + tot p ≤ 1048576) : tot (prpM p) ≤ 1048576 := by
  rw [prpM]
  split
  · rename_i h0
    split
    · simp [tot]
    · have := (prp_kept (n := p.length) (nEmp p p.length (p.length * p.length)) p ((pb_iff.1 h0).kept rfl)).2
      rw [prpF, this]; omega
  · simp [tot]

/-- The empty cells' numbers below a bound. -/
def fltr (p : List (List Int)) (n : Nat) : Nat → List Int
  | 0 => []
  | k + 1 => if atc p n k = -1 then fltr p n k ++ [(k : Int)] else fltr p n k
theorem fltr_row {p : List (List Int)} {n x : Nat} : ∀ y, y ≤ n → fltr p n (x * n + y) = fltr p n (x * n) ++ emptyIn p n x y := by
  intro y
  induction y with
  | zero => intro _; rw [emptyIn, List.append_nil]; rfl
  | succ y ih =>
    intro hy
    have h0 : 0 < n := by omega
    have e1 : (x * n + y) / n = x := by rw [Nat.mul_comm, Nat.mul_add_div h0, Nat.div_eq_of_lt (by omega)]; omega
    have e2 : (x * n + y) % n = y := by rw [Nat.mul_comm, Nat.mul_add_mod, Nat.mod_eq_of_lt (by omega)]
    rw [← Nat.add_assoc, fltr, emptyIn, ih (by omega), atc, e1, e2]
    split
    · rw [List.append_assoc]
      congr 3
    · rfl
theorem fltr_to {p : List (List Int)} {n : Nat} (x : Nat) : emptyTo p n x = fltr p n (x * n) := by
  induction x with
  | zero => rw [Nat.zero_mul]; rfl
  | succ x ih => rw [emptyTo, ih, Nat.succ_mul, fltr_row n (Nat.le_refl _)]
theorem empt_fltr {p : List (List Int)} {n : Nat} (hn : n = p.length) : empt p = fltr p n (n * n) := by
  subst hn; exact fltr_to _

/-- Each number of the list is an empty cell; all empty cells ahead of it stand ahead in the list. -/
theorem fltr_at {p : List (List Int)} {n : Nat} : ∀ {k j : Nat}, j < (fltr p n k).length → ∃ c : Nat, gi (fltr p n k) j = c ∧ c < k ∧ atc p n c = -1 ∧ ∀ d, d < c → atc p n d = -1 → ∃ i, i < j ∧ gi (fltr p n k) i = d := by
  intro k
  induction k with
  | zero => intro j h; simp [fltr] at h
  | succ k ih =>
    intro j h
    have all : ∀ m, m ≤ k → ∀ d, d < m → atc p n d = -1 → ∃ i, i < (fltr p n m).length ∧ gi (fltr p n m) i = d := by
      intro m
      induction m with
      | zero => intro _ d hd; exact absurd hd (Nat.not_lt_zero _)
      | succ m ihm =>
        intro hm d hd hz
        rw [fltr]
        by_cases e : d = m
        · subst e
          rw [if_pos hz]
          exact ⟨(fltr p n d).length, by simp, gi_of (by simp)⟩
        · obtain ⟨i, hi, he⟩ := ihm (by omega) d (by omega) hz
          split
          · refine ⟨i, by simp; omega, ?_⟩
            exact gi_of (by rw [List.getElem?_append_left hi, gi_get hi, he])
          · exact ⟨i, hi, he⟩
    have lift : ∀ i, i < (fltr p n k).length → gi (fltr p n (k + 1)) i = gi (fltr p n k) i := by
      intro i hi
      rw [fltr]
      split
      · exact gi_of (by rw [List.getElem?_append_left hi, gi_get hi])
      · rfl
    by_cases hj : j < (fltr p n k).length
    · obtain ⟨c, h1, h2, h3, h4⟩ := ih hj
      refine ⟨c, by rw [lift j hj, h1], by omega, h3, fun d hd hz => ?_⟩
      obtain ⟨i, hi, he⟩ := h4 d hd hz
      exact ⟨i, hi, by rw [lift i (by omega), he]⟩
    · by_cases hz : atc p n k = -1
      · have hj2 : j = (fltr p n k).length := by rw [fltr, if_pos hz, List.length_append] at h; simp at h; omega
        refine ⟨k, ?_, by omega, hz, fun d hd hz2 => ?_⟩
        · rw [fltr, if_pos hz]
          exact gi_of (by rw [hj2]; simp)
        · obtain ⟨i, hi, he⟩ := all k (Nat.le_refl _) d hd hz2
          exact ⟨i, by omega, by rw [lift i hi, he]⟩
      · rw [fltr, if_neg hz] at h; omega
theorem fltr_all {p : List (List Int)} {n : Nat} : ∀ {k d : Nat}, d < k → atc p n d = -1 → ∃ i, i < (fltr p n k).length ∧ gi (fltr p n k) i = d := by
  intro k
  induction k with
  | zero => intro d h; exact absurd h (Nat.not_lt_zero _)
  | succ k ih =>
    intro d hd hz
    rw [fltr]
    by_cases e : d = k
    · subst e
      rw [if_pos hz]
      exact ⟨(fltr p n d).length, by simp, gi_of (by simp)⟩
    · obtain ⟨i, hi, he⟩ := ih (show d < k by omega) hz
      split
      · exact ⟨i, by simp; omega, gi_of (by rw [List.getElem?_append_left hi, gi_get hi, he])⟩
      · exact ⟨i, hi, he⟩
end Go.Proofs.Ytjifkgnbiahekaa
