/- l00Has says whether a number is in a list. Conditions: none. -/
import Derived.Test.YtnimmkfkijcbbaaDoorEnt
namespace Go.Proofs.YtnimmkfkijcbbaaDoor
open Go.RowKit

set_option maxHeartbeats 400000 in
theorem l00Has_any (a : Option Addr) (n c : Nat) (xs : List Int) (v : Int) (b : Bool) (w : World) (hx : RdI w a n c xs) (hb : decide (v ∈ xs) = b) :
    Calls Tryd.prog 60 #[.slice a n c, .int .i64 v] w fun e w' => e = .returned (.bool b) ∧ w = w' := by
  have hb1 := hx.le
  have hb2 := hx.max
  have Hx := Lib.hid hx.len
  have Hb := Lib.hid hb
  clear hb
  go_enter Tryd.func60, Tryd.ntmps60
  go_wp2
  go_loopg [5] n (fun g i wr => ∃ k : Nat, k ≤ n ∧ g = n - k ∧ i = .int .i64 k ∧ w = wr ∧ Hid (∀ y, y ∈ xs.take k → ¬ (y = v)))
  case atStart => exact ⟨0, Nat.zero_le _, rfl, rfl, rfl, fun y hy => by simp at hy⟩
  case round =>
    obtain ⟨k, hk, rfl, rfl, rfl, Hn⟩ := hrel
    by_cases hlt : k < n
    · obtain ⟨b1, o1, x1, rfl, c1, H1⟩ := hx.at_ hlt
      have hz : (k : Int) < (n : Int) := by omega
      by_cases he : x1 = v
      · subst he
        have he1 : (x1 == x1) = true := by simp
        go_wp2
        go_ret
        exact ⟨ret_bool (by rw [← Hb.out]; exact (decide_eq_true (List.mem_of_getElem? H1.out)).symm), rfl⟩
      · have he1 : (x1 == v) = false := by simp [he]
        have He := Lib.hid he
        clear he
        go_wp2
        go_roundg (n - (k + 1))
        case measure => go_light; omega
        case rel => go_light; exact ⟨k + 1, by omega, rfl, by go_num, rfl, none_succ Hn.out H1.out He.out⟩
    · have hz : ¬ (k : Int) < (n : Int) := by omega
      go_wp2
      go_ret
      exact ⟨ret_bool (by rw [← Hb.out]; exact (decide_eq_false (fun hm => Hn.out v (by rw [List.take_of_length_le (by have := Hx.out; omega)]; exact hm) rfl)).symm), rfl⟩
end Go.Proofs.YtnimmkfkijcbbaaDoor
