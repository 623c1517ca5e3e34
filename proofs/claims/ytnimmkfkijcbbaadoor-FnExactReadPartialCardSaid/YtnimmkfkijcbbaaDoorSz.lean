/- The laws' measures of bulk. Conditions: none. -/
import Derived.Test.YtnimmkfkijcbbaaDoorLib
namespace Go.Proofs.YtnimmkfkijcbbaaDoor
open Go.RowKit

/-- All cells of rows. -/
def tot : List (List Int) → Nat
  | [] => 0
  | xs :: r => xs.length + tot r

theorem tot_append (a b : List (List Int)) : tot (a ++ b) = tot a + tot b := by
  induction a with
  | nil => simp [tot]
  | cons x r ih => simp [tot, ih]; omega

theorem tot_take_succ {xss : List (List Int)} {k : Nat} {xs : List Int} (h : xss[k]? = some xs) : tot (xss.take (k + 1)) = tot (xss.take k) + xs.length := by
  obtain ⟨hk, rfl⟩ := List.getElem?_eq_some_iff.1 h
  rw [List.take_succ_eq_append_getElem hk, tot_append]
  simp [tot]

theorem tot_take_le (xss : List (List Int)) (k : Nat) : tot (xss.take k) ≤ tot xss := by
  conv => rhs; rw [← List.take_append_drop k xss, tot_append]
  omega

theorem len_le_tot {xss : List (List Int)} {k : Nat} {xs : List Int} (h : xss[k]? = some xs) : xs.length ≤ tot xss := by
  have := tot_take_succ h
  have := tot_take_le xss (k + 1)
  omega

/-- How much is left. -/
def szv (xss : List (List Int)) (left : Int) : Int := if xss.length + tot xss ≤ left then left - (xss.length + tot xss) else -1

set_option maxHeartbeats 400000 in
theorem sz_S (a : Option Addr) (n c : Nat) (left : Int) (w : World) (hn : n ≤ 9223372036854775807) (h1 : 0 ≤ left) (h2 : left ≤ 1048576) :
    Calls Tryd.prog 20 #[.slice a n c, .int .i64 left] w fun e w' => e = .returned (.int .i64 (if (n : Int) ≤ left then left - n else -1)) ∧ w = w' := by
  by_cases h : (n : Int) ≤ left
  · have h' : ¬ (left - n < 0) := by omega
    go_enter Tryd.func20, Tryd.ntmps20
    go_wp2
    go_ret
    exact ⟨rfl, rfl⟩
  · have h' : (left - n < 0) := by omega
    go_enter Tryd.func20, Tryd.ntmps20
    go_wp2
    go_ret
    exact ⟨rfl, rfl⟩

set_option maxHeartbeats 400000 in
theorem sz_SS (a : Option Addr) (n c : Nat) (xss : List (List Int)) (left : Int) (w : World) (hx : RdR w a n c xss) (h1 : 0 ≤ left) (h2 : left ≤ 1048576) :
    Calls Tryd.prog 7 #[.slice a n c, .int .i64 left] w fun e w' => e = .returned (.int .i64 (szv xss left)) ∧ w = w' := by
  have hn := hx.le
  have hc := hx.max
  have Hl := Lib.hid hx.len
  by_cases h : (n : Int) ≤ left
  · have h' : ¬ (left - n < 0) := by omega
    go_enter Tryd.func7, Tryd.ntmps7
    go_wp2
    go_loop [1, 5] (fun l i => ∃ (k : Nat) (r : Int), k ≤ n ∧ i = .int .i64 k ∧ l = .int .i64 r ∧ 0 ≤ r ∧ r ≤ left ∧ Hid (r = left - n - tot (xss.take k))) (fun _ i => n - (intOf i).toNat)
    case atStart => exact ⟨0, _, Nat.zero_le _, rfl, rfl, by omega, by omega, by simp [Hid, tot]⟩
    case round =>
      obtain ⟨k, r, hk, rfl, rfl, hr1, hr2, Hr⟩ := hrel
      by_cases hlt : k < n
      · obtain ⟨b, off, ai, ni, ci, xs, rfl, hcell, hrow, Hx⟩ := hx.at_ hlt
        have hz : (k : Int) < (n : Int) := by omega
        have hni := hrow.le
        have hci := hrow.max
        have Hxs := Lib.hid hrow.len
        by_cases hs : (ni : Int) ≤ r
        · have hs' : ¬ ((r - ni) < 0) := by omega
          go_wp2_with (go_at_call 20; refine (sz_S _ _ _ _ _ (by omega) (by omega) (by omega)).mono ?_; rintro e w' ⟨rfl, rfl⟩; rw [if_pos (by omega)])
          go_round
          case rel =>
            have := tot_take_succ Hx.out
            have := Hxs.out
            have := Hr.out
            exact ⟨k + 1, _, by omega, by go_num, rfl, by omega, by omega, show _ = _ by omega⟩
          case measure => simp [intOf]; omega
        · go_wp2_with (go_at_call 20; refine (sz_S _ _ _ _ _ (by omega) (by omega) (by omega)).mono ?_; rintro e w' ⟨rfl, rfl⟩; rw [if_neg (by omega)])
          go_ret
          have := tot_take_succ Hx.out
          have := tot_take_le xss (k + 1)
          have := Hxs.out
          have := Hr.out
          have := Hl.out
          rw [szv, if_neg (by omega)]
          exact ⟨rfl, rfl⟩
      · have hz : ¬ (k : Int) < (n : Int) := by omega
        go_wp2
        go_ret
        have h1 := Hr.out
        have h2 := Hl.out
        rw [List.take_of_length_le (by omega)] at h1
        rw [szv, if_pos (by omega)]
        have e : r = left - (xss.length + tot xss) := by omega
        exact ⟨ret_int e, rfl⟩
  · have h' : (left - n < 0) := by omega
    go_enter Tryd.func7, Tryd.ntmps7
    go_wp2
    go_ret
    have := Hl.out
    rw [szv, if_neg (by omega)]
    exact ⟨rfl, rfl⟩

theorem sz_ok (a : Option Addr) (n c : Nat) (xss : List (List Int)) (left : Int) (w : World) (hx : RdR w a n c xss) (r : Int) (h2 : left ≤ 1048576) (hr0 : 0 ≤ r) (hr : left - ((xss.length + tot xss : Nat) : Int) = r) :
    Calls Tryd.prog 7 #[.slice a n c, .int .i64 left] w fun e w' => e = .returned (.int .i64 r) ∧ w = w' := by
  refine (sz_SS a n c xss left w hx (by omega) h2).mono ?_
  rintro e w' ⟨rfl, rfl⟩
  rw [szv, if_pos (by omega)]
  exact ⟨ret_int (by omega), rfl⟩

theorem sz_no (a : Option Addr) (n c : Nat) (xss : List (List Int)) (left : Int) (w : World) (hx : RdR w a n c xss) (h1 : 0 ≤ left) (h2 : left ≤ 1048576) (h : ¬ ((xss.length + tot xss : Nat) : Int) ≤ left) :
    Calls Tryd.prog 7 #[.slice a n c, .int .i64 left] w fun e w' => e = .returned (.int .i64 (-1)) ∧ w = w' := by
  refine (sz_SS a n c xss left w hx h1 h2).mono ?_
  rintro e w' ⟨rfl, rfl⟩
  rw [szv, if_neg (by omega)]
  exact ⟨rfl, rfl⟩

end Go.Proofs.YtnimmkfkijcbbaaDoor
