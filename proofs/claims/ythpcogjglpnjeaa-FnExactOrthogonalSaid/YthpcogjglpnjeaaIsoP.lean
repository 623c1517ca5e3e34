/- Isotopes, in plain words. Conditions: none. -/
import Derived.Test.YthpcogjglpnjeaaSet2
import Derived.Test.YthpcogjglpnjeaaMat
import Derived.Test.YthpcogjglpnjeaaPm
import Derived.Test.YthpcogjglpnjeaaSqP
namespace Go.Proofs.Ythpcogjglpnjeaa

/-- A row of the square laid where the permutations say. -/
def isoIn (p : List (List Int)) (r c s : List Int) (M : List (List Int)) (k : Nat) : Nat → List (List Int)
  | 0 => M
  | y + 1 => set2 (isoIn p r c s M k y) (gi r k).toNat (gi c y).toNat (gi s (at2 p k y).toNat)
def isoTo (p : List (List Int)) (r c s : List Int) (n : Nat) : Nat → List (List Int)
  | 0 => mat n n fun _ _ => 0
  | k + 1 => isoIn p r c s (isoTo p r c s n k) k n

theorem mat_rect (n m : Nat) (f : Nat → Nat → Int) : Rect (mat n m f) n m := ⟨mat_length _ _ _, fun x hx => by rw [gr_of (mat_row hx)]; simp⟩

theorem isoIn_rect {p : List (List Int)} {r c s : List Int} {n k : Nat} {M : List (List Int)} (hM : Rect M n n) (hr : Below_ r n) (hrl : r.length = n) (hk : k < n) (y : Nat) : Rect (isoIn p r c s M k y) n n := by
  induction y with
  | zero => exact hM
  | succ y ih =>
    obtain ⟨v, hv, hlt⟩ := hr k (by omega)
    exact rect_set2 ih _ _ _ (by rw [hv]; exact hlt)
theorem isoTo_rect {p : List (List Int)} {r c s : List Int} {n : Nat} (hr : Below_ r n) (hrl : r.length = n) (k : Nat) (hk : k ≤ n) : Rect (isoTo p r c s n k) n n := by
  induction k with
  | zero => exact mat_rect _ _ _
  | succ k ih => exact isoIn_rect (ih (by omega)) hr hrl (by omega) _

theorem tot_rect {M : List (List Int)} {n m : Nat} (h : Rect M n m) : tot M = n * m := by
  have key : ∀ k, k ≤ n → tot (M.take k) = k * m := by
    intro k
    induction k with
    | zero => intro _; simp [tot]
    | succ k ih =>
      intro hk
      rw [tot_take_succ (gr_get (p := M) (k := k) (by rw [h.1]; omega)), ih (by omega), h.2 k (by omega), Nat.succ_mul]
  have := key n (Nat.le_refl _)
  rwa [List.take_of_length_le (by rw [h.1]; exact Nat.le_refl _)] at this

end Go.Proofs.Ythpcogjglpnjeaa
