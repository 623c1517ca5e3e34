/- ValidSet. Conditions: none. -/
import Derived.Test.YtgggbicmmijlnaaSetP
import Derived.Test.YtgggbicmmijlnaaIn
namespace Go.Proofs.Ytgggbicmmijlnaa
open Go.RowKit

set_option maxRecDepth 100000 in
set_option maxHeartbeats 1600000 in
theorem validSet_any (a : Option Addr) (n c : Nat) (xs : List Int) (d : Int) (w : World) (hx : RdI w a n c xs) :
    Calls Try.prog 102 #[.slice a n c, .int .i64 d] w fun e w' => e = .returned (.bool (pb (SetOk xs d))) ∧ w = w' := by
  have hb1 := hx.le
  have hb2 := hx.max
  have Hx := Lib.hid hx.len
  go_enter Try.func102, Try.ntmps102
  go_wp2
  go_loopg [5, 10] n (fun g last i wr => ∃ (k : Nat) (l : Int), k ≤ n ∧ g = n - k ∧ i = .int .i64 k ∧ last = .int .i64 l ∧ w = wr ∧ Hid (RisesTo xs 0 (d - 1) k ∧ (k = 0 → l = -1) ∧ (0 < k → l = gi xs (k - 1))))
  case atStart => exact ⟨0, -1, Nat.zero_le _, rfl, rfl, rfl, rfl, fun i h => absurd h (Nat.not_lt_zero _), fun _ => rfl, fun h => absurd h (Nat.not_lt_zero _)⟩
  case round =>
    obtain ⟨k, l, hk, rfl, rfl, rfl, rfl, HP⟩ := hrel
    by_cases hlt : k < n
    · obtain ⟨b, o, rfl, hc⟩ := hx.gi hlt
      have hz : (k : Int) < (n : Int) := by omega
      obtain ⟨x, hxv⟩ : ∃ x, gi xs k = x := ⟨_, rfl⟩
      rw [hxv] at hc
      have Hxv := Lib.hid hxv
      clear hxv
      have bad : (x ≤ l ∨ d ≤ x) → ¬ SetOk xs d := fun h hs => by
        have h1 := hs.2 k (by have := Hx.out; omega)
        rw [Hxv.out] at h1
        obtain ⟨h2, h3, h4⟩ := HP.out
        rcases Nat.eq_zero_or_pos k with e | e
        · have := h3 e; omega
        · have := h4 e; have := h1.2 e; omega
      have Bad := Lib.hid bad
      clear bad
      by_cases h1 : x ≤ l
      · go_wp2
        go_ret
        exact ⟨ret_npb (Bad.out (.inl h1)), rfl⟩
      · by_cases h2 : d ≤ x
        · go_wp2
          go_ret
          exact ⟨ret_npb (Bad.out (.inr h2)), rfl⟩
        · have hnew : Hid (RisesTo xs 0 (d - 1) (k + 1) ∧ (k + 1 = 0 → x = -1) ∧ (0 < k + 1 → x = gi xs (k + 1 - 1))) := Lib.hid (by
            obtain ⟨g2, g3, g4⟩ := HP.out
            have hl : -1 ≤ l := by
              rcases Nat.eq_zero_or_pos k with e | e
              · have := g3 e; omega
              · have := g4 e; have := (g2 (k - 1) (by omega)).1.1; omega
            refine ⟨g2.succ (by rw [Hxv.out]; omega) (fun e => by rw [Hxv.out, ← g4 e]; omega), fun h => by omega, fun _ => by rw [Nat.add_sub_cancel]; exact Hxv.out.symm⟩)
          clear HP
          go_wp2
          go_roundg (n - (k + 1))
          case measure => go_light; omega
          case rel => go_light; exact ⟨k + 1, x, by omega, rfl, by go_num, rfl, rfl, hnew⟩
    · have hz : ¬ (k : Int) < (n : Int) := by omega
      obtain rfl : n = k := by omega
      obtain ⟨v, hv⟩ : ∃ v, decide (0 ≤ d ∧ d ≤ 32) = v := ⟨_, rfl⟩
      have Hv := Lib.hid hv
      clear hv
      go_wp2_with fail
      refine (within_any _ _ _ v Hv.out _).mono ?_
      rintro e w2 ⟨rfl, rfl⟩
      go_wp2
      go_ret
      refine ⟨ret_bool ?_, rfl⟩
      have hr : Rises xs 0 (d - 1) := by rw [Rises, ← Hx.out]; exact HP.out.1
      cases v
      · exact (pb_false (fun h => by have := Hv.out; simp at this; have := h.1; omega)).symm
      · exact (pb_true ⟨by have := Hv.out; simpa using this, hr⟩).symm
end Go.Proofs.Ytgggbicmmijlnaa
