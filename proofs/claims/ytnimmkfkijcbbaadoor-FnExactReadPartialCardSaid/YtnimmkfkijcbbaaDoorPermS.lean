/- l04Ok says whether a list is a permutation. Conditions: none. -/
import Derived.Test.YtnimmkfkijcbbaaDoorPermP
import Derived.Test.YtnimmkfkijcbbaaDoorIn
import Derived.Test.YtnimmkfkijcbbaaDoorHas
namespace Go.Proofs.YtnimmkfkijcbbaaDoor
open Go.RowKit

set_option maxHeartbeats 1600000 in
theorem l04Ok_any (a : Option Addr) (n c : Nat) (xs : List Int) (w : World) (hx : RdI w a n c xs) :
    Calls Tryd.prog 47 #[.slice a n c] w fun e w' => e = .returned (.bool (pb (PermOk xs))) ∧ Q w w' := by
  have hb1 := hx.le
  have hb2 := hx.max
  have Hx := Lib.hid hx.len
  by_cases h1 : 32 < n
  · have h1' : (32 : Int) < n := by omega
    go_enter Tryd.func47, Tryd.ntmps47
    go_wp2
    go_ret
    exact ⟨ret_npb (fun h => by have := h.1; have := Hx.out; omega), Q.refl _⟩
  · go_enter Tryd.func47, Tryd.ntmps47
    go_wp2
    go_loopg [3] n (fun g i wr => ∃ k : Nat, k ≤ n ∧ g = n - k ∧ i = .int .i64 k ∧ Q w wr ∧ Hid (PermTo xs k))
    case atStart => exact ⟨0, Nat.zero_le _, rfl, rfl, Q.refl _, fun i h => absurd h (Nat.not_lt_zero _)⟩
    case round =>
      obtain ⟨k, hk, rfl, rfl, hQ, Hp⟩ := hrel
      by_cases hlt : k < n
      · have hxw := hx.ext hQ.ext
        have hcut : RdI wr a k c (xs.take k) := hxw.cut (m := k) (by omega)
        obtain ⟨b, o, rfl, hc⟩ := hxw.gi hlt
        have hz : (k : Int) < (n : Int) := by omega
        have hkc : (k : Int) ≤ (c : Int) := by omega
        have hc0 : ¬ (c = 0) := by omega
        by_cases hin : 0 ≤ gi xs k ∧ gi xs k ≤ (n : Int) - 1
        · have Hin := Lib.hid hin
          clear hin
          by_cases hm : gi xs k ∈ xs.take k
          · have Hm := Lib.hid hm
            clear hm
            have hwr : IntKind.i64.wrap ((n : Int) - 1) = (n : Int) - 1 := IntWalk.i64_in _ (by omega)
            go_wp2_with fail
            go_quiet ((first | (go_at_call 35; exact quiet_same (l00In_any _ _ _ true (decide_eq_true Hin.out) _)) | (go_at_call 60; exact quiet_same (l00Has_any _ _ _ _ _ true _ (hcut.ext ((Ext.refl _).drewN _)) (decide_eq_true Hm.out)))))
            clear hwr
            go_wp2
            go_ret
            exact ⟨ret_npb (fun h => ((permTo_iff.2 h.2) k (by have := Hx.out; omega)).2 Hm.out), hQ.drewN _⟩
          · have Hm := Lib.hid hm
            clear hm
            have hwr : IntKind.i64.wrap ((n : Int) - 1) = (n : Int) - 1 := IntWalk.i64_in _ (by omega)
            go_wp2_with fail
            go_quiet ((first | (go_at_call 35; exact quiet_same (l00In_any _ _ _ true (decide_eq_true Hin.out) _)) | (go_at_call 60; exact quiet_same (l00Has_any _ _ _ _ _ false _ (hcut.ext ((Ext.refl _).drewN _)) (decide_eq_false Hm.out)))))
            clear hwr
            go_wp2
            go_roundg (n - (k + 1))
            case measure => go_light; omega
            case rel => go_light; exact ⟨k + 1, by omega, rfl, by go_num, hQ.drewN _, fun i hi => by
              by_cases e : i = k
              · subst e; exact ⟨by rw [← Hx.out]; exact Hin.out, Hm.out⟩
              · exact Hp.out i (by omega)⟩
        · have Hin := Lib.hid hin
          clear hin
          have hwr : IntKind.i64.wrap ((n : Int) - 1) = (n : Int) - 1 := IntWalk.i64_in _ (by omega)
          go_wp2_with fail
          go_quiet ((go_at_call 35; exact quiet_same (l00In_any _ _ _ false (decide_eq_false Hin.out) _)))
          clear hwr
          go_wp2
          go_ret
          exact ⟨ret_npb (fun h => Hin.out (by rw [Hx.out]; exact ((permTo_iff.2 h.2) k (by have := Hx.out; omega)).1)), hQ.drewN _⟩
      · have hz : ¬ (k : Int) < (n : Int) := by omega
        obtain rfl : n = k := by omega
        go_wp2
        go_ret
        exact ⟨ret_pb ⟨by have := Hx.out; omega, permTo_iff.1 (by rw [← Hx.out]; exact Hp.out)⟩, hQ⟩

end Go.Proofs.YtnimmkfkijcbbaaDoor
