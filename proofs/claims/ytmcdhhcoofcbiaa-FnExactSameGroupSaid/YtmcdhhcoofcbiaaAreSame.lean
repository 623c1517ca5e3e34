/- areSame. Conditions: none. -/
import Derived.Test.YtmcdhhcoofcbiaaEq
import Derived.Test.YtmcdhhcoofcbiaaSlEqual
namespace Go.Proofs.Ytmcdhhcoofcbiaa
open Go.RowKit

set_option maxHeartbeats 800000 in
theorem slEqualFunc_any (a a' : Option Addr) (n c n' c' : Nat) (xs ys : List (List Int)) (v : Bool) (w : World) (hx : RdR w a n c xs) (hy : RdR w a' n' c' ys) (hv : decide (xs = ys) = v) :
    Calls Try.prog 85 #[.slice a n c, .slice a' n' c', .func (.func 86) #[] #[]] w fun e w' => e = .returned (.bool v) ∧ Q w w' := by
  have hb1 := hx.le
  have hb2 := hx.max
  have hb3 := hy.le
  have hb4 := hy.max
  have Hx := Lib.hid hx.len
  have Hy := Lib.hid hy.len
  have Hv := Lib.hid hv
  clear hv
  by_cases h : n = n'
  · subst h
    have h' : ((n : Int) == (n : Int)) = true := by simp
    have h'' : ((n : Int) != (n : Int)) = false := by simp
    go_enter Try.func85, Try.ntmps85
    go_wp2
    go_loopg [17] n (fun g i wr => ∃ k : Nat, k ≤ n ∧ g = n - k ∧ i = .int .i64 k ∧ Q w wr ∧ Hid (xs.take k = ys.take k))
    case atStart => exact ⟨0, Nat.zero_le _, rfl, rfl, Q.refl _, rfl⟩
    case round =>
      obtain ⟨k, hk, rfl, rfl, hQ, Ht⟩ := hrel
      by_cases hlt : k < n
      · obtain ⟨b1, o1, ai1, ni1, ci1, x1, rfl, c1, r1, H1⟩ := (hx.ext hQ.ext).at_ hlt
        obtain ⟨b2, o2, ai2, ni2, ci2, x2, rfl, c2, r2, H2⟩ := (hy.ext hQ.ext).at_ hlt
        have hz : (k : Int) < (n : Int) := by omega
        by_cases he : x1 = x2
        · subst he
          go_wp2_with fail
          refine (slEqual_any _ _ _ _ _ _ _ _ true _ r1 r2 (by simp)).mono ?_
          rintro e w2 ⟨rfl, hQ2⟩
          go_wp2
          go_roundg (n - (k + 1))
          case measure => go_light; omega
          case rel => go_light; exact ⟨k + 1, by omega, rfl, by go_num, hQ.trans hQ2, take_eq_succ Ht.out H1.out H2.out⟩
        · go_wp2_with fail
          refine (slEqual_any _ _ _ _ _ _ _ _ false _ r1 r2 (by simp [he])).mono ?_
          rintro e w2 ⟨rfl, hQ2⟩
          go_wp2
          go_ret
          exact ⟨ret_bool (by rw [← Hv.out]; exact (decide_eq_false (ne_of_get H1.out H2.out he)).symm), hQ.trans hQ2⟩
      · have hz : ¬ (k : Int) < (n : Int) := by omega
        go_wp2
        go_ret
        have : k = n := by omega
        subst this
        exact ⟨ret_bool (by rw [← Hv.out]; exact (decide_eq_true (eq_of_take_len Ht.out Hx.out.symm Hy.out.symm)).symm), hQ⟩
  · have h' : ((n : Int) == (n' : Int)) = false := by simp; omega
    have h'' : ((n : Int) != (n' : Int)) = true := by simp; omega
    go_enter Try.func85, Try.ntmps85
    go_wp2
    go_ret
    exact ⟨ret_bool (by rw [← Hv.out]; exact (decide_eq_false (fun e => h (by rw [Hx.out, Hy.out, e]))).symm), Q.refl _⟩

set_option maxHeartbeats 400000 in
theorem areSame_any (a a' : Option Addr) (n c n' c' : Nat) (xs ys : List (List Int)) (v : Bool) (w : World) (hx : RdR w a n c xs) (hy : RdR w a' n' c' ys) (hv : decide (xs = ys) = v) :
    Calls Try.prog 63 #[.slice a n c, .slice a' n' c'] w fun e w' => e = .returned (.bool v) ∧ Q w w' := by
  go_enter Try.func63, Try.ntmps63
  go_wp2_with fail
  refine (slEqualFunc_any _ _ _ _ _ _ xs ys v _ hx hy hv).mono ?_
  rintro e w2 ⟨rfl, hQ⟩
  go_wp2
  go_ret
  exact ⟨rfl, hQ⟩

end Go.Proofs.Ytmcdhhcoofcbiaa
