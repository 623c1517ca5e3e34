/- l00Put. Conditions: none. -/
import Derived.Test.YtjlfngnmmmaefaaPutP
import Derived.Test.YtjlfngnmmmaefaaApp
namespace Go.Proofs.Ytjlfngnmmmaefaa
open Go.RowKit

/-- What is still to come behind k numbers. -/
def PutAt (b : Bool) (m k : Nat) : Prop := b = false → m = k
def putRest (xs : List Int) (v : Int) (d : Bool) (k : Nat) : List Int := if d then xs.drop k else put (xs.drop k) v

set_option maxRecDepth 100000 in
set_option maxHeartbeats 1600000 in
theorem l00Put_any (a : Option Addr) (n c : Nat) (xs : List Int) (v : Int) (w : World) (hx : RdI w a n c xs) (hn : n ≤ 1099511627000) :
    Calls Try.prog 86 #[.slice a n c, .int .i64 v] w (RetI w (put xs v)) := by
  have hb1 := hx.le
  have hb2 := hx.max
  have Hl := Lib.hid hx.len
  go_enter Try.func86, Try.ntmps86
  go_wp2
  have H0 := Own.empty 2 (Value.int .i64) w
  go_loopg [5, 6, 7] n (fun g s dn i wr => ∃ (k m : Nat) (ad : Option Addr) (d : Nat) (b : Bool) (out : List Int), k ≤ n ∧ m ≤ k + 1 ∧ g = n - k ∧ i = .int .i64 k ∧ dn = .bool b ∧ s = .slice ad m d ∧ OwnI wr w.heap.size ad m d out ∧ Ext w wr ∧ Hid (out ++ putRest xs v b k = put xs v ∧ PutAt b m k))
  case atStart => exact ⟨0, 0, _, 0, false, [], Nat.zero_le _, by omega, rfl, rfl, rfl, rfl, H0, (Ext.refl w).alloc _, ⟨by simp [putRest], fun _ => rfl⟩⟩
  case round =>
    obtain ⟨k, m, ad, d, b, out, hk, hm, rfl, rfl, rfl, rfl, hO, hE, HP⟩ := hrel
    clear H0
    by_cases hlt : k < n
    · obtain ⟨b1, o1, x1, rfl, c0, H1⟩ := hx.at_ hlt
      have c1 := hE.cell c0
      have hz : (k : Int) < (n : Int) := by omega
      have hsz := hE.size
      have hdrop : Hid (xs.drop k = x1 :: xs.drop (k + 1)) := Lib.hid (by
        obtain ⟨h1, h2⟩ := List.getElem?_eq_some_iff.1 H1.out
        rw [List.drop_eq_getElem_cons h1, h2])
      cases b
      · obtain rfl : k = m := (HP.out.2 rfl).symm
        by_cases hge : v ≤ x1
        · have hg1 : decide (v ≤ x1) = true := decide_eq_true hge
          by_cases hgt : v < x1
          · have hg2 : decide (v < x1) = true := decide_eq_true hgt
            have hnew : Hid (((out ++ [v]) ++ [x1]) ++ putRest xs v true (k + 1) = put xs v ∧ PutAt true (k + 1 + 1) (k + 1)) := Lib.hid ⟨by
              have h := HP.out.1
              rw [putRest, if_neg (by decide), hdrop.out, put, if_neg (by omega), if_neg (by omega)] at h
              rw [putRest, if_pos rfl, ← h]; simp, fun h => by cases h⟩
            go_wp2_with (at_builtin; first
              | (refine app_I rfl _ _ rfl hO2 hE2.size rfl (by omega) rfl rfl ?_; intro ad9 d9 w9 hO9 honly9 hmv9)
              | (refine app_I rfl _ _ rfl hO hE.size rfl (by omega) rfl rfl ?_; intro ad2 d2 w3 hO2 honly hmv; have hE2 := hE.app hO honly (Nat.le_refl _); have c2 := hE2.cell c0))
            have hE9 := hE2.app hO2 honly9 (Nat.le_refl _)
            clear honly9 hmv9
            go_wp2
            go_roundg (n - (k + 1))
            case measure => go_light; omega
            case rel => go_light; exact ⟨k + 1, k + 1 + 1, ad9, d9, true, _, by omega, by omega, rfl, by go_num, rfl, rfl, hO9, hE9, hnew⟩
          · have hg2 : decide (v < x1) = false := decide_eq_false hgt
            have hnew : Hid ((out ++ [x1]) ++ putRest xs v true (k + 1) = put xs v ∧ PutAt true (k + 1) (k + 1)) := Lib.hid ⟨by
              have h := HP.out.1
              rw [putRest, if_neg (by decide), hdrop.out, put, if_neg (by omega), if_pos (by omega)] at h
              rw [putRest, if_pos rfl, ← h]; simp, fun h => by cases h⟩
            go_wp2_with (at_builtin; refine app_I rfl _ _ rfl hO hE.size rfl (by omega) rfl rfl ?_; intro ad9 d9 w9 hO9 honly9 hmv9)
            have hE9 := hE.app hO honly9 (Nat.le_refl _)
            clear honly9 hmv9
            go_wp2
            go_roundg (n - (k + 1))
            case measure => go_light; omega
            case rel => go_light; exact ⟨k + 1, k + 1, ad9, d9, true, _, by omega, by omega, rfl, by go_num, rfl, rfl, hO9, hE9, hnew⟩
        · have hg1 : decide (v ≤ x1) = false := decide_eq_false hge
          have hnew : Hid ((out ++ [x1]) ++ putRest xs v false (k + 1) = put xs v ∧ PutAt false (k + 1) (k + 1)) := Lib.hid ⟨by
              have h := HP.out.1
              rw [putRest, if_neg (by decide), hdrop.out, put, if_pos (by omega)] at h
              rw [putRest, if_neg (by decide), ← h]; simp, fun _ => by omega⟩
          go_wp2_with (at_builtin; refine app_I rfl _ _ rfl hO hE.size rfl (by omega) rfl rfl ?_; intro ad9 d9 w9 hO9 honly9 hmv9)
          have hE9 := hE.app hO honly9 (Nat.le_refl _)
          clear honly9 hmv9
          go_wp2
          go_roundg (n - (k + 1))
          case measure => go_light; omega
          case rel => go_light; exact ⟨k + 1, k + 1, ad9, d9, false, _, by omega, by omega, rfl, by go_num, rfl, rfl, hO9, hE9, hnew⟩
      · have hnew : Hid ((out ++ [x1]) ++ putRest xs v true (k + 1) = put xs v ∧ PutAt true (m + 1) (k + 1)) := Lib.hid ⟨by
          have h := HP.out.1
          rw [putRest, if_pos rfl, hdrop.out] at h
          rw [putRest, if_pos rfl, ← h]; simp, fun h => by cases h⟩
        go_wp2_with (at_builtin; refine app_I rfl _ _ rfl hO hE.size rfl (by omega) rfl rfl ?_; intro ad9 d9 w9 hO9 honly9 hmv9)
        have hE9 := hE.app hO honly9 (Nat.le_refl _)
        clear honly9 hmv9
        go_wp2
        go_roundg (n - (k + 1))
        case measure => go_light; omega
        case rel => go_light; exact ⟨k + 1, m + 1, ad9, d9, true, _, by omega, by omega, rfl, by go_num, rfl, rfl, hO9, hE9, hnew⟩
    · have hz : ¬ (k : Int) < (n : Int) := by omega
      obtain rfl : n = k := by omega
      have hd : Hid (xs.drop n = []) := Lib.hid (List.drop_of_length_le (by have := Hl.out; omega))
      cases b
      · have h : Hid (out ++ [v] = put xs v) := Lib.hid (by
          have h := HP.out.1
          rw [putRest, if_neg (by decide), hd.out, put] at h; exact h)
        go_wp2_with (at_builtin; refine app_I rfl _ _ rfl hO hE.size rfl (by omega) rfl rfl ?_; intro ad9 d9 w9 hO9 honly9 hmv9)
        have hE9 := hE.app hO honly9 (Nat.le_refl _)
        rw [h.out] at hO9
        go_wp2
        go_ret
        exact ⟨_, _, _, rfl, hO9, hE9⟩
      · have h : Hid (out = put xs v) := Lib.hid (by
          have h := HP.out.1
          rw [putRest, if_pos rfl, hd.out, List.append_nil] at h; exact h)
        rw [h.out] at hO
        go_wp2
        go_ret
        exact ⟨_, _, _, rfl, hO, hE⟩
end Go.Proofs.Ytjlfngnmmmaefaa
