/- ValidSquare of both. Conditions: none. -/
import Derived.Test.YthpcogjglpnjeaaSqS
import Derived.Test.YthpcogjglpnjeaaSqI
import Derived.Test.YthpcogjglpnjeaaSz
namespace Go.Proofs.Ythpcogjglpnjeaa
open Go.RowKit

set_option maxHeartbeats 400000 in
theorem specVS (a : Option Addr) (n c : Nat) (p : List (List Int)) (w : World) (hx : RdR w a n c p) (_ : p.length + tot p ≤ 1048576) :
    Calls Try.prog 16 #[.slice a n c] w fun e w' => e = .returned (.bool (pb (SqOk p))) ∧ Ext w w' := by
  go_enter Try.func16, Try.ntmps16
  go_wp2_with fail
  refine (l06Ok_any _ _ _ p _ hx).mono ?_
  rintro e w2 ⟨rfl, hE⟩
  go_wp2
  go_ret
  exact ⟨rfl, hE⟩

theorem implVS (a : Option Addr) (n c : Nat) (p : List (List Int)) (w : World) (hx : RdR w a n c p) (_ : p.length + tot p ≤ 1048576) :
    Calls Try.prog 18 #[.slice a n c] w fun e w' => e = .returned (.bool (pb (SqOk p))) ∧ Ext w w' := validSquare_any a n c p w hx
end Go.Proofs.Ythpcogjglpnjeaa
