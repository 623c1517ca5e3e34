/- The order of lists, in plain words. Conditions: none. -/
import Derived.Test.YtgggbicmmijlnaaGet
namespace Go.Proofs.Ytgggbicmmijlnaa
open Go.RowKit

/-- The order of lists: -1, 0 or 1. -/
def cmpL : List Int → List Int → Int
  | [], [] => 0
  | [], _ :: _ => -1
  | _ :: _, [] => 1
  | x :: xs, y :: ys => if x < y then -1 else if y < x then 1 else cmpL xs ys

theorem cmpL_range (xs ys : List Int) : cmpL xs ys = -1 ∨ cmpL xs ys = 0 ∨ cmpL xs ys = 1 := by
  induction xs generalizing ys with
  | nil => cases ys <;> simp [cmpL]
  | cons x xs ih =>
    cases ys with
    | nil => simp [cmpL]
    | cons y ys =>
      rw [cmpL]
      split
      · simp
      · split
        · simp
        · exact ih ys

theorem cmpL_neg (xs ys : List Int) : cmpL xs ys = - cmpL ys xs := by
  induction xs generalizing ys with
  | nil => cases ys <;> simp [cmpL]
  | cons x xs ih =>
    cases ys with
    | nil => simp [cmpL]
    | cons y ys =>
      rw [cmpL, cmpL]
      by_cases h1 : x < y
      · rw [if_pos h1, if_neg (by omega), if_pos h1]
      · rw [if_neg h1]
        by_cases h2 : y < x
        · rw [if_pos h2, if_pos h2]; rfl
        · rw [if_neg h2, if_neg h2, if_neg h1]; exact ih ys

theorem cmpL_zero {xs ys : List Int} : cmpL xs ys = 0 ↔ xs = ys := by
  induction xs generalizing ys with
  | nil => cases ys <;> simp [cmpL]
  | cons x xs ih =>
    cases ys with
    | nil => simp [cmpL]
    | cons y ys =>
      rw [cmpL]
      by_cases h1 : x < y
      · rw [if_pos h1]; simp; intro e; omega
      · rw [if_neg h1]
        by_cases h2 : y < x
        · rw [if_pos h2]; simp; intro e; omega
        · rw [if_neg h2, ih]
          have : x = y := by omega
          simp [this]
theorem cmpL_self (xs : List Int) : cmpL xs xs = 0 := cmpL_zero.2 rfl

/-- xs comes ahead of ys, or is ys. -/
def leL (xs ys : List Int) : Prop := cmpL xs ys ≤ 0
def ltL (xs ys : List Int) : Prop := cmpL xs ys < 0
theorem leL_total (xs ys : List Int) : leL xs ys ∨ leL ys xs := by
  have := cmpL_neg xs ys
  unfold leL; omega
theorem leL_antisymm {xs ys : List Int} (h1 : leL xs ys) (h2 : leL ys xs) : xs = ys := by
  have := cmpL_neg xs ys
  unfold leL at *
  exact cmpL_zero.1 (by omega)
theorem ltL_trans {xs ys zs : List Int} (h1 : ltL xs ys) (h2 : ltL ys zs) : ltL xs zs := by
  unfold ltL at *
  induction xs generalizing ys zs with
  | nil =>
    cases ys with
    | nil => simp [cmpL] at h1
    | cons y ys =>
      cases zs with
      | nil => simp [cmpL] at h2
      | cons z zs => simp [cmpL]
  | cons x xs ih =>
    cases ys with
    | nil => simp [cmpL] at h1
    | cons y ys =>
      cases zs with
      | nil => simp [cmpL] at h2
      | cons z zs =>
        rw [cmpL] at h1 h2 ⊢
        by_cases e1 : x < y
        · by_cases e2 : y < z
          · rw [if_pos (by omega)]; omega
          · rw [if_neg e2] at h2
            by_cases e3 : z < y
            · rw [if_pos e3] at h2; omega
            · rw [if_pos (by omega)]; omega
        · rw [if_neg e1] at h1
          by_cases e4 : y < x
          · rw [if_pos e4] at h1; omega
          · rw [if_neg e4] at h1
            by_cases e2 : y < z
            · rw [if_pos (by omega)]; omega
            · rw [if_neg e2] at h2
              by_cases e3 : z < y
              · rw [if_pos e3] at h2; omega
              · rw [if_neg e3] at h2
                rw [if_neg (by omega), if_neg (by omega)]
                exact ih h1 h2
theorem ltL_irrefl (xs : List Int) : ¬ ltL xs xs := by unfold ltL; rw [cmpL_self]; omega
theorem leL_iff {xs ys : List Int} : leL xs ys ↔ ltL xs ys ∨ xs = ys := by
  unfold leL ltL
  constructor
  · intro h
    by_cases e : cmpL xs ys = 0
    · exact .inr (cmpL_zero.1 e)
    · exact .inl (by omega)
  · rintro (h | rfl)
    · omega
    · rw [cmpL_self]; omega
theorem leL_trans {xs ys zs : List Int} (h1 : leL xs ys) (h2 : leL ys zs) : leL xs zs := by
  rcases leL_iff.1 h1 with h1 | rfl
  · rcases leL_iff.1 h2 with h2 | rfl
    · exact leL_iff.2 (.inl (ltL_trans h1 h2))
    · exact leL_iff.2 (.inl h1)
  · exact h2

/-- Behind equal beginnings. -/
theorem cmpL_drop {xs ys : List Int} {k : Nat} {x y : Int} (h : cmpL xs ys = cmpL (xs.drop k) (ys.drop k)) (hx : xs[k]? = some x) (hy : ys[k]? = some y) :
    cmpL xs ys = if x < y then -1 else if y < x then 1 else cmpL (xs.drop (k + 1)) (ys.drop (k + 1)) := by
  obtain ⟨h1, rfl⟩ := List.getElem?_eq_some_iff.1 hx
  obtain ⟨h2, rfl⟩ := List.getElem?_eq_some_iff.1 hy
  rw [h, List.drop_eq_getElem_cons h1, List.drop_eq_getElem_cons h2, cmpL]
theorem cmpL_end {xs ys : List Int} {k : Nat} (h : cmpL xs ys = cmpL (xs.drop k) (ys.drop k)) (hk : k = xs.length ∨ k = ys.length) (hk1 : k ≤ xs.length) (hk2 : k ≤ ys.length) :
    cmpL xs ys = if xs.length < ys.length then -1 else if ys.length < xs.length then 1 else 0 := by
  rw [h]
  rcases hk with hk | hk
  · have e1 : xs.drop k = [] := List.drop_of_length_le (by omega)
    rw [e1]
    by_cases e : ys.length = k
    · rw [List.drop_of_length_le (l := ys) (by omega), if_neg (by omega), if_neg (by omega)]; rfl
    · rw [if_pos (by omega)]
      cases h2 : ys.drop k with
      | nil => have := congrArg List.length h2; rw [List.length_drop] at this; simp at this; omega
      | cons y r => rfl
  · have e1 : ys.drop k = [] := List.drop_of_length_le (by omega)
    rw [e1]
    by_cases e : xs.length = k
    · rw [List.drop_of_length_le (l := xs) (by omega), if_neg (by omega), if_neg (by omega)]; rfl
    · rw [if_neg (by omega), if_pos (by omega)]
      cases h2 : xs.drop k with
      | nil => have := congrArg List.length h2; rw [List.length_drop] at this; simp at this; omega
      | cons y r => rfl
end Go.Proofs.Ytgggbicmmijlnaa
