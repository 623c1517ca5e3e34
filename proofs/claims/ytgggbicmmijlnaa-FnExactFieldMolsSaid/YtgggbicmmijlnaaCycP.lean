/- Cycles of permutations and their signs, in plain words. Conditions: none. -/
import Derived.Test.YtgggbicmmijlnaaPm
import Derived.Test.YtgggbicmmijlnaaSqP
namespace Go.Proofs.Ytgggbicmmijlnaa
open Go.RowKit

def sn (s : List Bool) (y : Nat) : Bool := s.getD y true
theorem sn_of {s : List Bool} {y : Nat} {b : Bool} (h : s[y]? = some b) : sn s y = b := by rw [sn, List.getD_eq_getElem?_getD, h]; rfl
/-- The numbers not seen yet. -/
def uns (s : List Bool) : Nat := s.count false
/-- A run through a cycle, until a number is seen that was seen before. -/
def run (p : List Int) : Nat → List Bool → Nat → List Int × List Bool
  | 0, s, _ => ([], s)
  | k + 1, s, y => if sn s y then ([], s) else ((y : Int) :: (run p k (s.set y true) (gi p y).toNat).1, (run p k (s.set y true) (gi p y).toNat).2)
/-- The cycles from the first k numbers, and what was seen. -/
def cyTo (p : List Int) (n : Nat) : Nat → List (List Int) × List Bool
  | 0 => ([], List.replicate n false)
  | k + 1 => if sn (cyTo p n k).2 k then cyTo p n k else ((cyTo p n k).1 ++ [(run p (uns (cyTo p n k).2) (cyTo p n k).2 k).1], (run p (uns (cyTo p n k).2) (cyTo p n k).2 k).2)
def cyc (p : List Int) : List (List Int) := (cyTo p p.length p.length).1

theorem uns_set {s : List Bool} {y : Nat} (hy : y < s.length) (h : sn s y = false) : uns s = uns (s.set y true) + 1 := by
  have h1 : s[y] = false := by
    have := sn_of (List.getElem?_eq_getElem hy)
    rw [← this]; exact h
  rw [uns, uns, List.count_set hy, h1]
  have hp : 0 < s.count false := List.count_pos_iff.2 (by rw [← h1]; exact List.getElem_mem hy)
  simp
  omega
theorem run_len (p : List Int) (k : Nat) (s : List Bool) (y : Nat) : (run p k s y).2.length = s.length := by
  induction k generalizing s y with
  | zero => rfl
  | succ k ih =>
    rw [run]
    split
    · rfl
    · rw [ih, List.length_set]
theorem run_uns {p : List Int} {n : Nat} (hp : Below_ p n) (hpl : p.length = n) (k : Nat) (s : List Bool) (y : Nat) (hs : s.length = n) (hy : y < n) : uns s = uns (run p k s y).2 + (run p k s y).1.length := by
  induction k generalizing s y with
  | zero => simp [run]
  | succ k ih =>
    rw [run]
    split
    · simp
    · rename_i h
      obtain ⟨v, hv, hl⟩ := hp y (by omega)
      have := ih (s.set y true) (gi p y).toNat (by rw [List.length_set]; exact hs) (by rw [hv]; exact hl)
      rw [uns_set (s := s) (y := y) (by omega) (by simpa using h)]
      simp only [List.length_cons]
      omega
theorem run_keeps {p : List Int} (k : Nat) (s : List Bool) (y i : Nat) (h : sn s i = true) : sn (run p k s y).2 i = true := by
  induction k generalizing s y with
  | zero => exact h
  | succ k ih =>
    rw [run]
    split
    · exact h
    · refine ih _ _ ?_
      rw [sn, List.getD_eq_getElem?_getD] at h ⊢
      rw [List.getElem?_set]
      split
      · split <;> rfl
      · exact h
theorem run_sees {p : List Int} {k : Nat} {s : List Bool} {y : Nat} (hk : 0 < k) : sn (run p k s y).2 y = true := by
  obtain ⟨k, rfl⟩ : ∃ j, k = j + 1 := ⟨k - 1, by omega⟩
  rw [run]
  split
  · assumption
  · refine run_keeps _ _ _ _ ?_
    rw [sn, List.getD_eq_getElem?_getD, List.getElem?_set]
    split
    · split <;> rfl
    · contradiction

theorem tot_snoc (p : List (List Int)) (x : List Int) : tot (p ++ [x]) = tot p + x.length := by
  induction p with
  | nil => simp [tot]
  | cons a p ih => simp only [List.cons_append, tot, ih]; omega

theorem cyTo_all {p : List Int} {n : Nat} (hp : Below_ p n) (hpl : p.length = n) (k : Nat) (hk : k ≤ n) :
    (cyTo p n k).2.length = n ∧ (∀ i, i < k → sn (cyTo p n k).2 i = true) ∧ uns (cyTo p n k).2 + tot (cyTo p n k).1 = n ∧ (cyTo p n k).1.length + uns (cyTo p n k).2 ≤ n := by
  induction k with
  | zero => simp [cyTo, uns, tot]
  | succ k ih =>
    obtain ⟨h1, h2, h3, h4⟩ := ih (by omega)
    rw [cyTo]
    split
    · rename_i h
      refine ⟨h1, fun i hi => ?_, h3, h4⟩
      by_cases e : i = k
      · subst e; exact h
      · exact h2 i (by omega)
    · rename_i h
      have h0 : sn (cyTo p n k).2 k = false := by simpa using h
      have hu := uns_set (s := (cyTo p n k).2) (y := k) (by omega) h0
      have hr := run_uns hp hpl (uns (cyTo p n k).2) (cyTo p n k).2 k h1 (by omega)
      have hs := run_sees (p := p) (s := (cyTo p n k).2) (y := k) (show 0 < uns (cyTo p n k).2 by omega)
      have hl : 0 < (run p (uns (cyTo p n k).2) (cyTo p n k).2 k).1.length := by
        rw [hu, run, h0]
        simp
      refine ⟨by rw [run_len]; exact h1, fun i hi => ?_, ?_, ?_⟩
      · by_cases e : i = k
        · subst e; exact hs
        · exact run_keeps _ _ _ _ (h2 i (by omega))
      · show uns (run p (uns (cyTo p n k).2) (cyTo p n k).2 k).2 + tot ((cyTo p n k).1 ++ [_]) = n
        rw [tot_snoc]; omega
      · show ((cyTo p n k).1 ++ [_]).length + uns (run p (uns (cyTo p n k).2) (cyTo p n k).2 k).2 ≤ n
        rw [List.length_append, List.length_singleton]; omega
theorem uns_zero {s : List Bool} (h : ∀ i, i < s.length → sn s i = true) : uns s = 0 := by
  rw [uns, List.count_eq_zero]
  intro hm
  obtain ⟨i, hi, e⟩ := List.mem_iff_getElem.1 hm
  have := h i hi
  rw [sn_of (List.getElem?_eq_getElem hi), e] at this
  cases this
theorem cyc_tot {p : List Int} (hp : IsPerm p) : tot (cyc p) = p.length ∧ (cyc p).length ≤ p.length := by
  obtain ⟨h1, h2, h3, h4⟩ := cyTo_all hp.below rfl p.length (Nat.le_refl _)
  have := uns_zero (s := (cyTo p p.length p.length).2) (fun i hi => h2 i (by omega))
  rw [cyc]; omega

/-- How many lists have an even length. -/
def evs : List (List Int) → Nat
  | [] => 0
  | x :: p => (if x.length % 2 = 0 then 1 else 0) + evs p
theorem evs_par (p : List (List Int)) : (evs p + tot p + p.length) % 2 = 0 := by
  induction p with
  | nil => simp [evs, tot]
  | cons x p ih =>
    simp only [evs, tot, List.length_cons]
    split <;> omega
theorem evs_snoc (p : List (List Int)) (x : List Int) : evs (p ++ [x]) = evs p + (if x.length % 2 = 0 then 1 else 0) := by
  induction p with
  | nil => simp [evs]
  | cons a p ih => simp only [List.cons_append, evs, ih]; omega

/-- Odd: the sign is -1. -/
def oddP (p : List Int) : Bool := evs (cyc p) % 2 == 1
theorem oddP_sub {p : List Int} (hp : IsPerm p) : ((p.length - (cyc p).length) % 2 = 0) ↔ oddP p = false := by
  obtain ⟨h1, h2⟩ := cyc_tot hp
  have h3 := evs_par (cyc p)
  rw [oddP, beq_eq_false_iff_ne]
  omega
end Go.Proofs.Ytgggbicmmijlnaa
