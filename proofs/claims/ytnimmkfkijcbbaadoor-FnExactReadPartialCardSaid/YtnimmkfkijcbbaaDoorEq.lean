/- The laws' comparisons. Conditions: none. -/
import Derived.Test.YtnimmkfkijcbbaaDoorLib
namespace Go.Proofs.YtnimmkfkijcbbaaDoor
open Go.RowKit

theorem take_eq_succ {α : Type} {xs ys : List α} {k : Nat} {x : α} (h : xs.take k = ys.take k) (hx : xs[k]? = some x) (hy : ys[k]? = some x) : xs.take (k + 1) = ys.take (k + 1) := by
  obtain ⟨h1, e1⟩ := List.getElem?_eq_some_iff.1 hx
  obtain ⟨h2, e2⟩ := List.getElem?_eq_some_iff.1 hy
  rw [List.take_succ_eq_append_getElem h1, List.take_succ_eq_append_getElem h2, h, e1, e2]

theorem eq_of_take_len {α : Type} {xs ys : List α} {k : Nat} (h : xs.take k = ys.take k) (h1 : xs.length = k) (h2 : ys.length = k) : xs = ys := by
  rwa [List.take_of_length_le (by omega), List.take_of_length_le (by omega)] at h

theorem ne_of_get {α : Type} {xs ys : List α} {k : Nat} {x y : α} (hx : xs[k]? = some x) (hy : ys[k]? = some y) (h : x ≠ y) : xs ≠ ys := fun e => h (by rw [e, hy] at hx; exact (Option.some.inj hx).symm)

set_option maxHeartbeats 800000 in
theorem eq_S (a a' : Option Addr) (n c n' c' : Nat) (xs ys : List Int) (v : Bool) (w : World) (hx : RdI w a n c xs) (hy : RdI w a' n' c' ys) (hv : decide (xs = ys) = v) :
    Calls Tryd.prog 27 #[.slice a n c, .slice a' n' c'] w fun e w' => e = .returned (.bool v) ∧ Q w w' := by
  have hb1 := hx.le
  have hb2 := hx.max
  have hb3 := hy.le
  have hb4 := hy.max
  have Hx := Lib.hid hx.len
  have Hy := Lib.hid hy.len
  have Hv := Lib.hid hv
  clear hv
  by_cases h : n = n'
  · subst h
    have h' : ((n : Int) == (n : Int)) = true := by simp
    have h'' : ((n : Int) != (n : Int)) = false := by simp
    go_enter Tryd.func27, Tryd.ntmps27
    go_wp2
    go_loopg [5] n (fun g i wr => ∃ k : Nat, k ≤ n ∧ g = n - k ∧ i = .int .i64 k ∧ Q w wr ∧ Hid (xs.take k = ys.take k))
    case atStart => exact ⟨0, Nat.zero_le _, rfl, rfl, Q.refl _, rfl⟩
    case round =>
      obtain ⟨k, hk, rfl, rfl, hQ, Ht⟩ := hrel
      by_cases hlt : k < n
      · obtain ⟨b1, o1, x1, rfl, c1, H1⟩ := (hx.ext hQ.ext).at_ hlt
        obtain ⟨b2, o2, x2, rfl, c2, H2⟩ := (hy.ext hQ.ext).at_ hlt
        have hz : (k : Int) < (n : Int) := by omega
        by_cases he : x1 = x2
        · subst he
          have he1 : (x1 != x1) = false := by simp
          go_wp2_with fail
          go_quiet (fail)
          go_wp2
          go_roundg (n - (k + 1))
          case measure => go_light; omega
          case rel => go_light; exact ⟨k + 1, by omega, rfl, by go_num, hQ.drewN _, take_eq_succ Ht.out H1.out H2.out⟩
        · have he1 : (x1 != x2) = true := by simp [he]
          go_wp2_with fail
          go_quiet (fail)
          go_wp2
          go_ret
          exact ⟨ret_bool (by rw [← Hv.out]; exact (decide_eq_false (ne_of_get H1.out H2.out he)).symm), hQ.drewN _⟩
      · have hz : ¬ (k : Int) < (n : Int) := by omega
        go_wp2
        go_ret
        have : k = n := by omega
        subst this
        exact ⟨ret_bool (by rw [← Hv.out]; exact (decide_eq_true (eq_of_take_len Ht.out Hx.out.symm Hy.out.symm)).symm), hQ⟩
  · have h' : ((n : Int) == (n' : Int)) = false := by simp; omega
    have h'' : ((n : Int) != (n' : Int)) = true := by simp; omega
    go_enter Tryd.func27, Tryd.ntmps27
    go_wp2
    go_ret
    exact ⟨ret_bool (by rw [← Hv.out]; exact (decide_eq_false (fun e => h (by rw [Hx.out, Hy.out, e]))).symm), Q.refl _⟩

set_option maxHeartbeats 800000 in
theorem eq_SS (a a' : Option Addr) (n c n' c' : Nat) (xs ys : List (List Int)) (v : Bool) (w : World) (hx : RdR w a n c xs) (hy : RdR w a' n' c' ys) (hv : decide (xs = ys) = v) :
    Calls Tryd.prog 11 #[.slice a n c, .slice a' n' c'] w fun e w' => e = .returned (.bool v) ∧ Q w w' := by
  have hb1 := hx.le
  have hb2 := hx.max
  have hb3 := hy.le
  have hb4 := hy.max
  have Hx := Lib.hid hx.len
  have Hy := Lib.hid hy.len
  have Hv := Lib.hid hv
  clear hv
  by_cases h : n = n'
  · subst h
    have h' : ((n : Int) == (n : Int)) = true := by simp
    have h'' : ((n : Int) != (n : Int)) = false := by simp
    go_enter Tryd.func11, Tryd.ntmps11
    go_wp2
    go_loopg [5] n (fun g i wr => ∃ k : Nat, k ≤ n ∧ g = n - k ∧ i = .int .i64 k ∧ Q w wr ∧ Hid (xs.take k = ys.take k))
    case atStart => exact ⟨0, Nat.zero_le _, rfl, rfl, Q.refl _, rfl⟩
    case round =>
      obtain ⟨k, hk, rfl, rfl, hQ, Ht⟩ := hrel
      by_cases hlt : k < n
      · obtain ⟨b1, o1, ai1, ni1, ci1, x1, rfl, c1, r1, H1⟩ := (hx.ext hQ.ext).at_ hlt
        obtain ⟨b2, o2, ai2, ni2, ci2, x2, rfl, c2, r2, H2⟩ := (hy.ext hQ.ext).at_ hlt
        have hz : (k : Int) < (n : Int) := by omega
        by_cases he : x1 = x2
        · subst he
          go_wp2_with fail
          go_quiet ((go_at_call 27; exact Calls.quiet_of (eq_S _ _ _ _ _ _ _ _ true _ (r1.ext ((Ext.refl _).drewN _)) (r2.ext ((Ext.refl _).drewN _)) (by simp))))
          go_wp2
          go_roundg (n - (k + 1))
          case measure => go_light; omega
          case rel => go_light; exact ⟨k + 1, by omega, rfl, by go_num, hQ.drewN _, take_eq_succ Ht.out H1.out H2.out⟩
        · go_wp2_with fail
          go_quiet ((go_at_call 27; exact Calls.quiet_of (eq_S _ _ _ _ _ _ _ _ false _ (r1.ext ((Ext.refl _).drewN _)) (r2.ext ((Ext.refl _).drewN _)) (by simp [he]))))
          go_wp2
          go_ret
          exact ⟨ret_bool (by rw [← Hv.out]; exact (decide_eq_false (ne_of_get H1.out H2.out he)).symm), hQ.drewN _⟩
      · have hz : ¬ (k : Int) < (n : Int) := by omega
        go_wp2
        go_ret
        have : k = n := by omega
        subst this
        exact ⟨ret_bool (by rw [← Hv.out]; exact (decide_eq_true (eq_of_take_len Ht.out Hx.out.symm Hy.out.symm)).symm), hQ⟩
  · have h' : ((n : Int) == (n' : Int)) = false := by simp; omega
    have h'' : ((n : Int) != (n' : Int)) = true := by simp; omega
    go_enter Tryd.func11, Tryd.ntmps11
    go_wp2
    go_ret
    exact ⟨ret_bool (by rw [← Hv.out]; exact (decide_eq_false (fun e => h (by rw [Hx.out, Hy.out, e]))).symm), Q.refl _⟩

end Go.Proofs.YtnimmkfkijcbbaaDoor
