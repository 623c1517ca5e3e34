/- Partial squares, in plain words. Conditions: none. -/
import Derived.Test.YtnimmkfkijcbbaaDoorGet
namespace Go.Proofs.YtnimmkfkijcbbaaDoor

/-- A cell of a partial square is empty or has a symbol that no other cell of its row or column has. -/
def PCell (p : List (List Int)) (n x y : Nat) : Prop :=
  -1 ≤ at2 p x y ∧ at2 p x y ≤ (n : Int) - 1 ∧ (0 ≤ at2 p x y → ∀ k, k < n → (k ≠ y → at2 p x k ≠ at2 p x y) ∧ (k ≠ x → at2 p k y ≠ at2 p x y))

def POk (p : List (List Int)) : Prop :=
  1 ≤ p.length ∧ p.length ≤ 10 ∧ Rect p p.length p.length ∧ ∀ x y, x < p.length → y < p.length → PCell p p.length x y

/-- The same, each cell held against those before it alone. -/
def PCell' (p : List (List Int)) (n x y : Nat) : Prop :=
  -1 ≤ at2 p x y ∧ at2 p x y ≤ (n : Int) - 1 ∧ (at2 p x y ≠ -1 → (∀ k, k < y → at2 p x k ≠ at2 p x y) ∧ (∀ k, k < x → at2 p k y ≠ at2 p x y))

theorem PCell.weak {p : List (List Int)} {n x y : Nat} (hx : x < n) (hy : y < n) (h : PCell p n x y) : PCell' p n x y :=
  ⟨h.1, h.2.1, fun hne => ⟨fun k hk => (h.2.2 (by have := h.1; omega) k (by omega)).1 (by omega), fun k hk => (h.2.2 (by have := h.1; omega) k (by omega)).2 (by omega)⟩⟩

theorem PCell.strong {p : List (List Int)} {n : Nat} (h : ∀ x y, x < n → y < n → PCell' p n x y) {x y : Nat} (hx : x < n) (hy : y < n) : PCell p n x y := by
  refine ⟨(h x y hx hy).1, (h x y hx hy).2.1, fun h0 k hk => ⟨fun hne he => ?_, fun hne he => ?_⟩⟩
  · rcases Nat.lt_or_gt_of_ne hne with hlt | hlt
    · exact ((h x y hx hy).2.2 (by omega)).1 k hlt he
    · exact ((h x k hx hk).2.2 (by omega)).1 y hlt he.symm
  · rcases Nat.lt_or_gt_of_ne hne with hlt | hlt
    · exact ((h x y hx hy).2.2 (by omega)).2 k hlt he
    · exact ((h k y hk hy).2.2 (by omega)).2 x hlt he.symm

theorem POk.of' {p : List (List Int)} (h1 : 1 ≤ p.length) (h2 : p.length ≤ 10) (h3 : Rect p p.length p.length) (h4 : ∀ x y, x < p.length → y < p.length → PCell' p p.length x y) : POk p :=
  ⟨h1, h2, h3, fun _ _ hx hy => PCell.strong h4 hx hy⟩

end Go.Proofs.YtnimmkfkijcbbaaDoor
