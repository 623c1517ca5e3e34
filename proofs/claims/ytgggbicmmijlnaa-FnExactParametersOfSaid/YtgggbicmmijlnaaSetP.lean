/- Rising lists, in plain words. Conditions: none. -/
import Derived.Test.YtgggbicmmijlnaaGet
namespace Go.Proofs.Ytgggbicmmijlnaa

/-- The first k numbers rise, within bounds. -/
def RisesTo (xs : List Int) (lo hi : Int) (k : Nat) : Prop := ∀ i, i < k → (lo ≤ gi xs i ∧ gi xs i ≤ hi) ∧ (0 < i → gi xs (i - 1) < gi xs i)
def Rises (xs : List Int) (lo hi : Int) : Prop := RisesTo xs lo hi xs.length
def SetOk (xs : List Int) (n : Int) : Prop := (0 ≤ n ∧ n ≤ 32) ∧ Rises xs 0 (n - 1)

theorem RisesTo.succ {xs : List Int} {lo hi : Int} {k : Nat} (h : RisesTo xs lo hi k) (h1 : lo ≤ gi xs k ∧ gi xs k ≤ hi) (h2 : 0 < k → gi xs (k - 1) < gi xs k) : RisesTo xs lo hi (k + 1) := fun i hi => by
  by_cases e : i = k
  · subst e; exact ⟨h1, h2⟩
  · exact h i (by omega)

theorem RisesTo.lt {xs : List Int} {lo hi : Int} {k : Nat} (h : RisesTo xs lo hi k) {i j : Nat} (hij : i < j) (hj : j < k) : gi xs i < gi xs j := by
  induction j with
  | zero => omega
  | succ j ih =>
    have h1 := (h (j + 1) hj).2 (by omega)
    rw [Nat.add_sub_cancel] at h1
    by_cases e : i = j
    · subst e; exact h1
    · have := ih (by omega) (by omega); omega

/-- A rising list within 0 .. n-1 is no longer than n. -/
theorem RisesTo.len {xs : List Int} {hi : Int} {k : Nat} (h : RisesTo xs 0 hi k) (hk : 0 < k) : (k : Int) ≤ hi + 1 := by
  have key : ∀ i, i < k → (i : Int) ≤ gi xs i := by
    intro i
    induction i with
    | zero => intro h0; have := (h 0 h0).1.1; omega
    | succ i ih => intro hi; have := ih (by omega); have := h.lt (show i < i + 1 by omega) hi; omega
  have := key (k - 1) (by omega)
  have := (h (k - 1) (by omega)).1.2
  omega

theorem Rises.nodup {xs : List Int} {lo hi : Int} (h : Rises xs lo hi) : xs.Nodup := by
  rw [List.Nodup, List.pairwise_iff_getElem]
  intro i j hi hj hij e
  have := RisesTo.lt h hij hj
  rw [gi_of (List.getElem?_eq_getElem hi), gi_of (List.getElem?_eq_getElem hj)] at this
  omega

end Go.Proofs.Ytgggbicmmijlnaa
