/- The isotope of a square, by both. Conditions: none. -/
import Derived.Test.YtgggbicmmijlnaaIsoP
import Derived.Test.YtgggbicmmijlnaaSl
namespace Go.Proofs.Ytgggbicmmijlnaa
open Go.RowKit


set_option maxHeartbeats 400000 in
theorem emptyF (n : Nat) (w : World) : Gives 104 #[] n (fun _ _ => 0) w := by
  intro x y w1 hx hy hE
  show Calls Try.prog 104 #[.int .i64 x, .int .i64 y] w1 _
  go_enter Try.func104, Try.ntmps104
  go_wp2
  go_ret
  exact ⟨rfl, Q.refl _⟩

set_option maxHeartbeats 400000 in
/-- impl.emptySquare. -/
theorem emptySquare_any (n : Nat) (w : World) (hn : n ≤ 1000000) :
    Calls Try.prog 89 #[.int .i64 n] w (RetR w (mat n n fun _ _ => 0)) := by
  go_enter Try.func89, Try.ntmps89
  go_wp2_with fail
  refine (filled n _ _ _ _ hn (enters_of Try.func104 (by kernel_rfl) (by kernel_rfl)) (emptyF n _)).mono ?_
  rintro e w1 ⟨a, m, c, rs, rfl, hO, hE⟩
  go_wp2
  go_ret
  exact ⟨_, _, _, _, rfl, hO, hE⟩




end Go.Proofs.Ytgggbicmmijlnaa
