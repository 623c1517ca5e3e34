/- Equal lists, of the reference. Conditions: none. -/
import Derived.Test.YtjlfngnmmmaefaaEq
namespace Go.Proofs.Ytjlfngnmmmaefaa
open Go.RowKit

set_option maxHeartbeats 800000 in
theorem l00Same_any (a a' : Option Addr) (n c n' c' : Nat) (xs ys : List Int) (v : Bool) (w : World) (hx : RdI w a n c xs) (hy : RdI w a' n' c' ys) (hv : decide (xs = ys) = v) :
    Calls Try.prog 53 #[.slice a n c, .slice a' n' c'] w fun e w' => e = .returned (.bool v) ∧ Q w w' := by
  have hb1 := hx.le
  have hb2 := hx.max
  have hb3 := hy.le
  have hb4 := hy.max
  have Hx := Lib.hid hx.len
  have Hy := Lib.hid hy.len
  have Hv := Lib.hid hv
  clear hv
  by_cases h : n = n'
  · subst h
    have h' : ((n : Int) == (n : Int)) = true := by simp
    have h'' : ((n : Int) != (n : Int)) = false := by simp
    go_enter Try.func53, Try.ntmps53
    go_wp2
    go_loopg [5] n (fun g i wr => ∃ k : Nat, k ≤ n ∧ g = n - k ∧ i = .int .i64 k ∧ Q w wr ∧ Hid (xs.take k = ys.take k))
    case atStart => exact ⟨0, Nat.zero_le _, rfl, rfl, Q.refl _, rfl⟩
    case round =>
      obtain ⟨k, hk, rfl, rfl, hQ, Ht⟩ := hrel
      by_cases hlt : k < n
      · obtain ⟨b1, o1, x1, rfl, c1, H1⟩ := (hx.ext hQ.ext).at_ hlt
        obtain ⟨b2, o2, x2, rfl, c2, H2⟩ := (hy.ext hQ.ext).at_ hlt
        have hz : (k : Int) < (n : Int) := by omega
        by_cases he : x1 = x2
        · subst he
          have he1 : (x1 != x1) = false := by simp
          go_wp2_with fail
          go_quiet (fail)
          go_wp2
          go_roundg (n - (k + 1))
          case measure => go_light; omega
          case rel => go_light; exact ⟨k + 1, by omega, rfl, by go_num, hQ.drewN _, take_eq_succ Ht.out H1.out H2.out⟩
        · have he1 : (x1 != x2) = true := by simp [he]
          go_wp2_with fail
          go_quiet (fail)
          go_wp2
          go_ret
          exact ⟨ret_bool (by rw [← Hv.out]; exact (decide_eq_false (ne_of_get H1.out H2.out he)).symm), hQ.drewN _⟩
      · have hz : ¬ (k : Int) < (n : Int) := by omega
        go_wp2
        go_ret
        have : k = n := by omega
        subst this
        exact ⟨ret_bool (by rw [← Hv.out]; exact (decide_eq_true (eq_of_take_len Ht.out Hx.out.symm Hy.out.symm)).symm), hQ⟩
  · have h' : ((n : Int) == (n' : Int)) = false := by simp; omega
    have h'' : ((n : Int) != (n' : Int)) = true := by simp; omega
    go_enter Try.func53, Try.ntmps53
    go_wp2
    go_ret
    exact ⟨ret_bool (by rw [← Hv.out]; exact (decide_eq_false (fun e => h (by rw [Hx.out, Hy.out, e]))).symm), Q.refl _⟩

end Go.Proofs.Ytjlfngnmmmaefaa
