/- Subsquares, in plain words. Conditions: none. -/
import Derived.Test.YtkapkieeafhaoaaSqP
import Derived.Test.YtkapkieeafhaoaaSetP
import Derived.Test.YtkapkieeafhaoaaPutP
import Derived.Test.YtkapkieeafhaoaaUnitP
namespace Go.Proofs.Ytkapkieeafhaoaa
open Go.RowKit

def visRow (p : List (List Int)) (rs cs : List Int) (i m : Nat) : List Int := (List.range m).map fun j => at2 p (gi rs i).toNat (gi cs j).toNat
/-- The symbols that have been met ahead of (k, y). -/
def vis (p : List (List Int)) (rs cs : List Int) (m k y : Nat) : List Int := ((List.range k).flatMap fun i => visRow p rs cs i m) ++ visRow p rs cs k y
theorem vis_succ (p : List (List Int)) (rs cs : List Int) (m k y : Nat) : vis p rs cs m k (y + 1) = vis p rs cs m k y ++ [at2 p (gi rs k).toNat (gi cs y).toNat] := by
  rw [vis, visRow, List.range_succ, List.map_append, ← List.append_assoc]; rfl
theorem vis_row (p : List (List Int)) (rs cs : List Int) (m k : Nat) : vis p rs cs m (k + 1) 0 = vis p rs cs m k m := by
  rw [vis, List.range_succ, List.flatMap_append, vis]; simp [visRow]

def SubOk (p : List (List Int)) (rs cs : List Int) : Prop :=
  SqOk p ∧ Rises rs 0 ((p.length : Int) - 1) ∧ Rises cs 0 ((p.length : Int) - 1) ∧ rs.length = cs.length ∧ rs.length ≠ 0 ∧ (puts (vis p rs cs cs.length rs.length 0)).length = rs.length

theorem Rises.at_ {xs : List Int} {n k : Nat} (h : Rises xs 0 ((n : Int) - 1)) (hk : k < xs.length) : ∃ y : Nat, gi xs k = y ∧ y < n := by
  have := (h k hk).1
  exact ⟨(gi xs k).toNat, by omega, by omega⟩
theorem Rises.len_le {xs : List Int} {n : Nat} (h : Rises xs 0 ((n : Int) - 1)) : xs.length ≤ n := by
  rcases Nat.eq_zero_or_pos xs.length with e | e
  · omega
  · have := RisesTo.len h e; omega
end Go.Proofs.Ytkapkieeafhaoaa
