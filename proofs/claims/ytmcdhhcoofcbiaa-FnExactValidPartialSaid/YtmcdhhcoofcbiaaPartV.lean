/- ValidPartial of both. Conditions: none. -/
import Derived.Test.YtmcdhhcoofcbiaaPartS
import Derived.Test.YtmcdhhcoofcbiaaPartI
import Derived.Test.YtmcdhhcoofcbiaaSz
namespace Go.Proofs.Ytmcdhhcoofcbiaa
open Go.RowKit

set_option maxHeartbeats 400000 in
theorem specVP (a : Option Addr) (n c : Nat) (p : List (List Int)) (w : World) (hx : RdR w a n c p) (_ : p.length + tot p ≤ 1048576) :
    Calls Try.prog 31 #[.slice a n c] w fun e w' => e = .returned (.bool (pb (POk p))) ∧ Ext w w' := by
  go_enter Try.func31, Try.ntmps31
  go_wp2_with fail
  refine (l09Ok_any _ _ _ p _ hx).mono ?_
  rintro e w2 ⟨rfl, hE⟩
  go_wp2
  go_ret
  exact ⟨rfl, hE⟩

theorem implVP (a : Option Addr) (n c : Nat) (p : List (List Int)) (w : World) (hx : RdR w a n c p) (_ : p.length + tot p ≤ 1048576) :
    Calls Try.prog 32 #[.slice a n c] w fun e w' => e = .returned (.bool (pb (POk p))) ∧ Ext w w' := validPartial_any a n c p w hx
end Go.Proofs.Ytmcdhhcoofcbiaa
