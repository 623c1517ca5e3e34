/- l00Rises says whether numbers rise within bounds. Conditions: none. -/
import Derived.Test.YtgggbicmmijlnaaSetP
import Derived.Test.YtgggbicmmijlnaaIn
namespace Go.Proofs.Ytgggbicmmijlnaa
open Go.RowKit

set_option maxRecDepth 100000 in
set_option maxHeartbeats 1600000 in
theorem l00Rises_any (a : Option Addr) (n c : Nat) (xs : List Int) (lo hi : Int) (w : World) (hx : RdI w a n c xs) :
    Calls Try.prog 83 #[.slice a n c, .int .i64 lo, .int .i64 hi] w fun e w' => e = .returned (.bool (pb (Rises xs lo hi))) ∧ Q w w' := by
  have hb1 := hx.le
  have hb2 := hx.max
  have Hx := Lib.hid hx.len
  go_enter Try.func83, Try.ntmps83
  go_wp2
  go_loopg [7] n (fun g i wr => ∃ k : Nat, k ≤ n ∧ g = n - k ∧ i = .int .i64 k ∧ Q w wr ∧ Hid (RisesTo xs lo hi k))
  case atStart => exact ⟨0, Nat.zero_le _, rfl, rfl, Q.refl _, fun i h => absurd h (Nat.not_lt_zero _)⟩
  case round =>
    obtain ⟨k, hk, rfl, rfl, hQ, Hp⟩ := hrel
    by_cases hlt : k < n
    · have hxw := hx.ext hQ.ext
      have bad : ¬ ((lo ≤ gi xs k ∧ gi xs k ≤ hi) ∧ (0 < k → gi xs (k - 1) < gi xs k)) → ∀ m, Ending.returned (.bool false) = .returned (.bool (pb (Rises xs lo hi))) ∧ Q w (wr.drewN m) := fun h m =>
        ⟨ret_npb (fun h2 => h (h2 k (by have := Hx.out; omega))), hQ.drewN _⟩
      have Bad := Lib.hid bad
      clear bad
      cases k with
      | zero =>
        obtain ⟨b, o, rfl, hc⟩ := hxw.gi hlt
        rw [Nat.add_zero] at hc
        have hz : (0 : Int) < (n : Int) := by omega
        have hd : decide ((0 : Int) < 0) = false := by decide
        by_cases hin : lo ≤ gi xs 0 ∧ gi xs 0 ≤ hi
        · have Hin := Lib.hid hin
          clear hin hxw
          go_wp2_with fail
          go_quiet ((go_at_call 47; exact quiet_same (l00In_any _ _ _ true (decide_eq_true Hin.out) _)))
          go_wp2
          go_roundg (n - 1)
          case measure => go_light; omega
          case rel => go_light; exact ⟨1, by omega, rfl, by go_num, hQ.drewN _, Hp.out.succ Hin.out (fun h => by omega)⟩
        · have Hin := Lib.hid hin
          clear hin hxw
          go_wp2_with fail
          go_quiet ((go_at_call 47; exact quiet_same (l00In_any _ _ _ false (decide_eq_false Hin.out) _)))
          go_wp2
          go_ret
          exact Bad.out (fun h => Hin.out h.1) _
      | succ j =>
        obtain ⟨b, o, rfl, hc⟩ := hxw.gi hlt
        obtain ⟨b', o', hh, hc2⟩ := hxw.gi (k := j) (by omega)
        cases hh
        have hz : (j : Int) + 1 < (n : Int) := by omega
        have hz2 : (j : Int) < (n : Int) := by omega
        have hd : decide ((0 : Int) < (j : Int) + 1) = true := decide_eq_true (by omega)
        by_cases hin : lo ≤ gi xs (j + 1) ∧ gi xs (j + 1) ≤ hi
        · have Hin := Lib.hid hin
          clear hin hxw
          by_cases hge : gi xs (j + 1) ≤ gi xs j
          · have hg : decide (gi xs (j + 1) ≤ gi xs j) = true := by simp [hge]
            have Hge := Lib.hid hge
            clear hge
            have hw1 : IntKind.i64.wrap (j : Int) = (j : Int) := IntWalk.i64_in _ (by omega)
            go_wp2_with fail
            go_quiet ((go_at_call 47; exact quiet_same (l00In_any _ _ _ true (decide_eq_true Hin.out) _)))
            clear hw1
            go_wp2
            go_ret
            exact Bad.out (fun h => by have := h.2 (by omega); rw [Nat.add_sub_cancel] at this; have := Hge.out; omega) _
          · have hg : decide (gi xs (j + 1) ≤ gi xs j) = false := by simp; omega
            have Hge := Lib.hid hge
            clear hge
            have hw1 : IntKind.i64.wrap (j : Int) = (j : Int) := IntWalk.i64_in _ (by omega)
            go_wp2_with fail
            go_quiet ((go_at_call 47; exact quiet_same (l00In_any _ _ _ true (decide_eq_true Hin.out) _)))
            clear hw1
            go_wp2
            go_roundg (n - (j + 2))
            case measure => go_light; omega
            case rel => go_light; exact ⟨j + 2, by omega, rfl, by go_num, hQ.drewN _, Hp.out.succ Hin.out (fun h => by rw [Nat.add_sub_cancel]; have := Hge.out; omega)⟩
        · have Hin := Lib.hid hin
          clear hin hxw
          go_wp2_with fail
          go_quiet ((go_at_call 47; exact quiet_same (l00In_any _ _ _ false (decide_eq_false Hin.out) _)))
          go_wp2
          go_ret
          exact Bad.out (fun h => Hin.out h.1) _
    · have hz : ¬ (k : Int) < (n : Int) := by omega
      obtain rfl : n = k := by omega
      go_wp2
      go_ret
      exact ⟨ret_pb (by rw [Rises, ← Hx.out]; exact Hp.out), hQ⟩
end Go.Proofs.Ytgggbicmmijlnaa
