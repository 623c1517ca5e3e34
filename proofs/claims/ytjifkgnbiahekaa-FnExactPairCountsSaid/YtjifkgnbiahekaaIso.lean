/- The isotope of a square, by both. Conditions: none. -/
import Derived.Test.YtjifkgnbiahekaaIsoP
import Derived.Test.YtjifkgnbiahekaaSl
namespace Go.Proofs.Ytjifkgnbiahekaa
open Go.RowKit


set_option maxHeartbeats 400000 in
theorem emptyF (n : Nat) (w : World) : Gives 120 #[] n (fun _ _ => 0) w := by
  intro x y w1 hx hy hE
  show Calls Try.prog 120 #[.int .i64 x, .int .i64 y] w1 _
  go_enter Try.func120, Try.ntmps120
  go_wp2
  go_ret
  exact ⟨rfl, Q.refl _⟩

set_option maxHeartbeats 400000 in
/-- impl.emptySquare. -/
theorem emptySquare_any (n : Nat) (w : World) (hn : n ≤ 1000000) :
    Calls Try.prog 95 #[.int .i64 n] w (RetR w (mat n n fun _ _ => 0)) := by
  go_enter Try.func95, Try.ntmps95
  go_wp2_with fail
  refine (filled n _ _ _ _ hn (enters_of Try.func120 (by kernel_rfl) (by kernel_rfl)) (emptyF n _)).mono ?_
  rintro e w1 ⟨a, m, c, rs, rfl, hO, hE⟩
  go_wp2
  go_ret
  exact ⟨_, _, _, _, rfl, hO, hE⟩




end Go.Proofs.Ytjifkgnbiahekaa
