/- Latin squares, in plain words. Conditions: none. -/
import Derived.Test.YtnimmkfkijcbbaaDoorPermP
namespace Go.Proofs.YtnimmkfkijcbbaaDoor

/-- A column of rows. -/
def col (p : List (List Int)) (n y : Nat) : List Int := (List.range n).map fun x => at2 p x y

theorem col_length (p : List (List Int)) (n y : Nat) : (col p n y).length = n := by simp [col]
theorem col_succ (p : List (List Int)) (n y : Nat) : col p (n + 1) y = col p n y ++ [at2 p n y] := by rw [col, List.range_succ, List.map_append]; rfl
theorem gi_col {p : List (List Int)} {n x y : Nat} (h : x < n) : gi (col p n y) x = at2 p x y := gi_of (by simp [col, h])

/-- A square: rows and columns are permutations. -/
def SqOk (p : List (List Int)) : Prop :=
  1 ≤ p.length ∧ p.length ≤ 10 ∧ Rect p p.length p.length ∧ (∀ x, x < p.length → IsPerm (gr p x)) ∧ ∀ y, y < p.length → IsPerm (col p p.length y)

theorem SqOk.lt {p : List (List Int)} (h : SqOk p) {x y : Nat} (hx : x < p.length) (hy : y < p.length) : 0 ≤ at2 p x y ∧ at2 p x y < p.length := by
  have := (h.2.2.2.1 x hx).2 _ (gi_mem (xs := gr p x) (k := y) (by rw [h.2.2.1.2 x hx]; exact hy))
  rw [h.2.2.1.2 x hx] at this
  exact ⟨this.1, by have := this.2; rw [at2]; omega⟩

theorem SqOk.dims {p : List (List Int)} {n : Nat} (h : SqOk p) (hn : n = p.length) : 1 ≤ n ∧ n ≤ 10 ∧ Rect p n n := by subst hn; exact ⟨h.1, h.2.1, h.2.2.1⟩

theorem PermOk.of {xs : List Int} (h : IsPerm xs) (hl : xs.length ≤ 10) : PermOk xs := ⟨by omega, h⟩

end Go.Proofs.YtnimmkfkijcbbaaDoor
