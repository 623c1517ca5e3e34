/- SameGroup of both. Conditions: none. -/
import Derived.Test.YtmcdhhcoofcbiaaSame10
import Derived.Test.YtmcdhhcoofcbiaaAreSame
import Derived.Test.YtmcdhhcoofcbiaaBx
import Derived.Test.YtmcdhhcoofcbiaaGet
namespace Go.Proofs.Ytmcdhhcoofcbiaa
open Go.RowKit

set_option maxHeartbeats 800000 in
theorem specSameG (z : Int) (a : Option Addr) (n c : Nat) (x : List (List Int)) (z' : Int) (a' : Option Addr) (n' c' : Nat) (y : List (List Int)) (w : World) (hx : RdR w a n c x) (_ : x.length + tot x ≤ 1048576) (_ : -9223372036854775808 ≤ z) (_ : z ≤ 9223372036854775807) (hy : RdR w a' n' c' y) (_ : y.length + tot y ≤ 1048576) (_ : -9223372036854775808 ≤ z') (_ : z' ≤ 9223372036854775807) :
    Calls Try.prog 34 #[.agg #[.int .i64 z, .slice a n c], .agg #[.int .i64 z', .slice a' n' c']] w fun e w' => e = .returned (.bool (pb (z = z' ∧ x = y))) ∧ Ext w w' := by
  by_cases h : z = z'
  · subst h
    have he : (z == z) = true := by simp
    obtain ⟨v, hv⟩ : ∃ v, decide (x = y) = v := ⟨_, rfl⟩
    have e : pb (z = z ∧ x = y) = v := by rw [← hv, pb]; simp
    rw [e]
    have Hv := Lib.hid hv
    clear hv e
    go_enter Try.func34, Try.ntmps34
    go_wp2_with fail
    refine (l10Same_any _ _ _ _ _ _ x y v _ (hx.ext (((Ext.refl _).alloc _).alloc _)) (hy.ext (((Ext.refl _).alloc _).alloc _)) Hv.out).mono ?_
    rintro e w2 ⟨rfl, hQ⟩
    go_wp2
    go_ret
    exact ⟨rfl, (((Ext.refl _).alloc _).alloc _).trans hQ.ext⟩
  · have he : (z == z') = false := by simp [h]
    have e : pb (z = z' ∧ x = y) = false := pb_false (fun k => h k.1)
    rw [e]
    clear e
    go_enter Try.func34, Try.ntmps34
    go_wp2
    go_ret
    exact ⟨rfl, ((Ext.refl _).alloc _).alloc _⟩

set_option maxHeartbeats 800000 in
theorem implSameG (z : Int) (a : Option Addr) (n c : Nat) (x : List (List Int)) (z' : Int) (a' : Option Addr) (n' c' : Nat) (y : List (List Int)) (w : World) (hx : RdR w a n c x) (_ : x.length + tot x ≤ 1048576) (_ : -9223372036854775808 ≤ z) (_ : z ≤ 9223372036854775807) (hy : RdR w a' n' c' y) (_ : y.length + tot y ≤ 1048576) (_ : -9223372036854775808 ≤ z') (_ : z' ≤ 9223372036854775807) :
    Calls Try.prog 36 #[.agg #[.int .i64 z, .slice a n c], .agg #[.int .i64 z', .slice a' n' c']] w fun e w' => e = .returned (.bool (pb (z = z' ∧ x = y))) ∧ Ext w w' := by
  by_cases h : z = z'
  · subst h
    have he : (z == z) = true := by simp
    obtain ⟨v, hv⟩ : ∃ v, decide (x = y) = v := ⟨_, rfl⟩
    have e : pb (z = z ∧ x = y) = v := by rw [← hv, pb]; simp
    rw [e]
    have Hv := Lib.hid hv
    clear hv e
    go_enter Try.func36, Try.ntmps36
    go_wp2_with fail
    refine (areSame_any _ _ _ _ _ _ x y v _ (hx.ext (((Ext.refl _).alloc _).alloc _)) (hy.ext (((Ext.refl _).alloc _).alloc _)) Hv.out).mono ?_
    rintro e w2 ⟨rfl, hQ⟩
    go_wp2
    go_ret
    exact ⟨rfl, (((Ext.refl _).alloc _).alloc _).trans hQ.ext⟩
  · have he : (z == z') = false := by simp [h]
    have e : pb (z = z' ∧ x = y) = false := pb_false (fun k => h k.1)
    rw [e]
    clear e
    go_enter Try.func36, Try.ntmps36
    go_wp2
    go_ret
    exact ⟨rfl, ((Ext.refl _).alloc _).alloc _⟩

end Go.Proofs.Ytmcdhhcoofcbiaa
