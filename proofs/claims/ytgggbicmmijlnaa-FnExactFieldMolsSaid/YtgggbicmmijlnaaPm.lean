/- Inverse and composition of permutations, by both. Conditions: none. -/
import Derived.Test.YtgggbicmmijlnaaPermP
import Derived.Test.YtgggbicmmijlnaaTo
namespace Go.Proofs.Ytgggbicmmijlnaa
open Go.RowKit

/-- All numbers lie below m. -/
def Below_ (xs : List Int) (m : Nat) : Prop := ∀ i, i < xs.length → ∃ y : Nat, gi xs i = y ∧ y < m

theorem IsPerm.below {xs : List Int} (h : IsPerm xs) : Below_ xs xs.length := fun i hi => by
  have := h.2 _ (gi_mem hi)
  exact ⟨(gi xs i).toNat, by omega, by omega⟩

/-- The inverse, as far as the first k points. -/
def invTo (xs : List Int) (n : Nat) : Nat → List Int
  | 0 => List.replicate n 0
  | k + 1 => (invTo xs n k).set (gi xs k).toNat (k : Int)
def inv (xs : List Int) : List Int := invTo xs xs.length xs.length

theorem invTo_length (xs : List Int) (n k : Nat) : (invTo xs n k).length = n := by
  induction k with
  | zero => simp [invTo]
  | succ k ih => rw [invTo, List.length_set, ih]
theorem inv_length (xs : List Int) : (inv xs).length = xs.length := invTo_length _ _ _
theorem invTo_below {xs : List Int} {n m : Nat} (hm : n ≤ m) (k : Nat) (hk : k ≤ n) : Below_ (invTo xs n k) m := by
  induction k with
  | zero => intro i hi; simp [invTo] at hi; exact ⟨0, by rw [gi_of (v := 0) (by simp [invTo, hi])]; rfl, by omega⟩
  | succ k ih =>
    intro i hi
    rw [invTo, List.length_set] at hi
    obtain ⟨y, h1, h2⟩ := ih (by omega) i hi
    by_cases e : (gi xs k).toNat = i
    · refine ⟨k, gi_of ?_, by omega⟩
      rw [invTo, e, List.getElem?_set_self hi]
    · refine ⟨y, ?_, h2⟩
      rw [← h1, invTo]
      apply gi_of
      rw [List.getElem?_set_ne e, gi_get hi]
theorem inv_below (xs : List Int) : Below_ (inv xs) xs.length := invTo_below (Nat.le_refl _) _ (Nat.le_refl _)

/-- First p, then q. -/
def cmpTo (p q : List Int) : Nat → List Int
  | 0 => []
  | k + 1 => cmpTo p q k ++ [gi q (gi p k).toNat]
def cmp (p q : List Int) : List Int := cmpTo p q p.length
theorem cmpTo_length (p q : List Int) (k : Nat) : (cmpTo p q k).length = k := by
  induction k with
  | zero => rfl
  | succ k ih => rw [cmpTo, List.length_append, ih]; rfl
theorem cmp_length (p q : List Int) : (cmp p q).length = p.length := cmpTo_length _ _ _

theorem made_nil (n : Nat) : List.replicate n (0 : Int) = ([] : List Int) ++ List.replicate (n - 0) 0 := rfl




end Go.Proofs.Ytgggbicmmijlnaa
