/- Orthogonal of both. Conditions: none. -/
import Derived.Test.YthpcogjglpnjeaaOrth
import Derived.Test.YthpcogjglpnjeaaSz
namespace Go.Proofs.Ythpcogjglpnjeaa
open Go.RowKit

set_option maxHeartbeats 800000 in
theorem specOrt (a : Option Addr) (n c : Nat) (p : List (List Int)) (a' : Option Addr) (m c' : Nat) (q : List (List Int)) (w : World) (hp : RdR w a n c p) (_ : p.length + tot p ≤ 1048576) (hq : RdR w a' m c' q) (_ : q.length + tot q ≤ 1048576) :
    Calls Try.prog 33 #[.slice a n c, .slice a' m c'] w fun e w' => e = .returned (.bool (pb (OrthOk p q))) ∧ Ext w w' := by
  go_enter Try.func33, Try.ntmps33
  go_wp2_with fail
  refine (l07Orthogonal_any _ _ _ p _ _ _ q _ hp hq).mono ?_
  rintro e w2 ⟨rfl, hE⟩
  go_wp2
  go_ret
  exact ⟨rfl, hE⟩

set_option maxHeartbeats 800000 in
theorem implOrt (a : Option Addr) (n c : Nat) (p : List (List Int)) (a' : Option Addr) (m c' : Nat) (q : List (List Int)) (w : World) (hp : RdR w a n c p) (_ : p.length + tot p ≤ 1048576) (hq : RdR w a' m c' q) (_ : q.length + tot q ≤ 1048576) :
    Calls Try.prog 34 #[.slice a n c, .slice a' m c'] w fun e w' => e = .returned (.bool (pb (OrthOk p q))) ∧ Ext w w' := by
  go_enter Try.func34, Try.ntmps34
  go_wp2_with fail
  refine (validSquare_any _ _ _ p _ hp).mono ?_
  rintro e w2 ⟨rfl, hE⟩
  rcases pbc (SqOk p) with ⟨hb, Hp⟩ | ⟨hb, Hp⟩
  · rw [hb]
    go_wp2_with fail
    refine (validSquare_any _ _ _ q _ (hq.ext hE)).mono ?_
    rintro e w3 ⟨rfl, hE3⟩
    rcases pbc (SqOk q) with ⟨hb', Hq⟩ | ⟨hb', Hq⟩
    · rw [hb']
      go_wp2_with fail
      refine (orthogonal_any _ _ _ p _ _ _ q _ (hp.ext (hE.trans hE3)) (hq.ext (hE.trans hE3)) Hp Hq).mono ?_
      rintro e w4 ⟨rfl, hE4⟩
      go_wp2
      go_ret
      exact ⟨rfl, (hE.trans hE3).trans hE4⟩
    · rw [hb']
      go_wp2
      go_ret
      exact ⟨ret_npb (fun h => Hq.out h.1.2), hE.trans hE3⟩
  · rw [hb]
    go_wp2
    go_ret
    exact ⟨ret_npb (fun h => Hp.out h.1.1), hE⟩
end Go.Proofs.Ythpcogjglpnjeaa
