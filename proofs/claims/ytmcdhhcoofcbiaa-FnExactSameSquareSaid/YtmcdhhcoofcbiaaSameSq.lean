/- SameSquare of both. Conditions: none. -/
import Derived.Test.YtmcdhhcoofcbiaaTo
import Derived.Test.YtmcdhhcoofcbiaaSame6
import Derived.Test.YtmcdhhcoofcbiaaAreSame
namespace Go.Proofs.Ytmcdhhcoofcbiaa
open Go.RowKit

set_option maxHeartbeats 400000 in
theorem specSameSq (a : Option Addr) (n c : Nat) (xs : List (List Int)) (a' : Option Addr) (n' c' : Nat) (ys : List (List Int)) (w : World) (hx : RdR w a n c xs) (_ : xs.length + tot xs ≤ 1048576) (hy : RdR w a' n' c' ys) (_ : ys.length + tot ys ≤ 1048576) :
    Calls Try.prog 23 #[.slice a n c, .slice a' n' c'] w fun e w' => e = .returned (.bool (decide (xs = ys))) ∧ Ext w w' := by
  go_enter Try.func23, Try.ntmps23
  go_wp2_with fail
  refine (l06Same_any _ _ _ _ _ _ xs ys _ _ hx hy rfl).mono ?_
  rintro e w2 ⟨rfl, hQ⟩
  go_wp2
  go_ret
  exact ⟨rfl, hQ.ext⟩

set_option maxHeartbeats 400000 in
theorem implSameSq (a : Option Addr) (n c : Nat) (xs : List (List Int)) (a' : Option Addr) (n' c' : Nat) (ys : List (List Int)) (w : World) (hx : RdR w a n c xs) (_ : xs.length + tot xs ≤ 1048576) (hy : RdR w a' n' c' ys) (_ : ys.length + tot ys ≤ 1048576) :
    Calls Try.prog 25 #[.slice a n c, .slice a' n' c'] w fun e w' => e = .returned (.bool (decide (xs = ys))) ∧ Ext w w' := by
  go_enter Try.func25, Try.ntmps25
  go_wp2_with fail
  refine (areSame_any _ _ _ _ _ _ xs ys _ _ hx hy rfl).mono ?_
  rintro e w2 ⟨rfl, hQ⟩
  go_wp2
  go_ret
  exact ⟨rfl, hQ.ext⟩

end Go.Proofs.Ytmcdhhcoofcbiaa
