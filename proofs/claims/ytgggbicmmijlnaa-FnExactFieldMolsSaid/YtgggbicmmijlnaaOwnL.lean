/- Copies of lists. Conditions: none. -/
import Derived.Test.YtgggbicmmijlnaaSz
import Derived.Test.YtgggbicmmijlnaaApp
namespace Go.Proofs.Ytgggbicmmijlnaa
open Go.RowKit

set_option maxHeartbeats 400000 in
theorem l00Own_any (a : Option Addr) (n c : Nat) (xs : List Int) (w : World) (hx : RdI w a n c xs) (hn : n ≤ 1099511627775) :
    Calls Try.prog 67 #[.slice a n c] w (RetI w xs) := by
  have h0 := Own.empty 2 (Value.int .i64) w
  have hx2 := hx.ext ((Ext.refl w).alloc (.cells #[] 2))
  go_enter Try.func67, Try.ntmps67
  go_wp2_with (at_builtin; refine app_list rfl _ _ rfl h0 (by simp) hx2 (by omega) rfl rfl ?_; intro a2 c2 w3 hown honly hmv)
  go_ret
  have hE := Ext.app ((Ext.refl w).alloc (.cells #[] 2)) h0 honly (Nat.le_refl _)
  rw [List.nil_append] at hown
  exact ⟨_, _, _, by first | rfl | simp, by first | exact hown | simpa using hown, hE⟩

set_option maxHeartbeats 400000 in
theorem slClone_any (a : Option Addr) (n c : Nat) (xs : List Int) (w : World) (hx : RdI w a n c xs) (hn : n ≤ 1099511627775) :
    Calls Try.prog 71 #[.slice a n c] w (RetI w xs) := by
  have h0 := Own.empty 2 (Value.int .i64) w
  have hx2 := hx.ext ((Ext.refl w).alloc (.cells #[] 2))
  have hnil := fun (w : World) (a : Option Addr) (n c : Nat) => Lib.run_eql_slice_nil (P := Try.prog) w 56 2 a n c 0 0 Try.underlying56
  cases a with
  | none =>
    obtain rfl : c = 0 := hx.nil rfl
    obtain rfl : n = 0 := by have := hx.le; omega
    obtain rfl : xs = [] := List.eq_nil_of_length_eq_zero hx.len.symm
    go_enter Try.func71, Try.ntmps71
    go_wp2
    go_ret
    exact ⟨_, _, _, rfl, Own.nil_ _ _ _ _, Ext.refl _⟩
  | some xa =>
    go_enter Try.func71, Try.ntmps71
    go_wp2_with (at_builtin; refine app_list rfl _ _ rfl h0 (by simp) hx2 (by omega) rfl rfl ?_; intro a2 c2 w3 hown honly hmv)
    go_ret
    have hE := Ext.app ((Ext.refl w).alloc (.cells #[] 2)) h0 honly (Nat.le_refl _)
    rw [List.nil_append] at hown
    exact ⟨_, _, _, by first | rfl | simp, by first | exact hown | simpa using hown, hE⟩


set_option maxHeartbeats 800000 in
theorem l06Own_any (a : Option Addr) (n c : Nat) (p : List (List Int)) (w : World) (hx : RdR w a n c p) (hs : p.length + tot p ≤ 1099511627775) :
    Calls Try.prog 34 #[.slice a n c] w (RetR w p) := by
  have hb1 := hx.le
  have hb2 := hx.max
  have Hx := Lib.hid hx.len
  have hnb : n ≤ 1099511627775 := by have := Hx.out; omega
  go_enter Try.func34, Try.ntmps34
  go_wp2
  have H0 := OwnR.empty w
  go_loopg [3, 4] n (fun gh s i wr => ∃ (k : Nat) (ad : Option Addr) (d : Nat) (rs : List Row), k ≤ n ∧ gh = n - k ∧ i = .int .i64 k ∧ s = .slice ad k d ∧ OwnR wr w.heap.size ad k d (p.take k) rs ∧ Ext w wr)
  case atStart => exact ⟨0, _, 0, [], Nat.zero_le _, rfl, rfl, rfl, H0, (Ext.refl w).alloc _⟩
  case round =>
    obtain ⟨k, ad, d, rs, hk, rfl, rfl, rfl, hO, hE⟩ := hrel
    clear H0
    by_cases hlt : k < n
    · obtain ⟨b, o, ai, ni, ci, xs, rfl, hc, hrow, Hv⟩ := (hx.ext hE).at_ hlt
      have hz : (k : Int) < (n : Int) := by omega
      have hni : ni ≤ 1099511627775 := by have := hrow.len; have := len_le_tot Hv.out; omega
      go_wp2_with fail
      refine (l00Own_any _ _ _ xs _ hrow hni).mono ?_
      rintro e w2 ⟨a', n', c', rfl, hown, hE2⟩
      have hO2 := hO.ext hE2
      have hE3 := hE.trans hE2
      have hap : ∀ g, blk a' = some g → ¬ OwnR.fp ad rs g := fun g hg hf => by have := (hO.lt hf).2; have := (hown.lt hg).1; omega
      have hown2 := hown.base hE.size
      have hsz := hE3.size
      clear hO hE hE2 hown hrow
      go_wp2_with (at_builtin; refine app_S rfl _ _ rfl hO2 hsz hown2 hap rfl (by omega) rfl rfl ?_; intro a2 c2 w3 hrows honly hmv)
      have hE4 := hE3.app hO2.top honly (Nat.le_refl _)
      have e : p.take k ++ [xs] = p.take (k + 1) := by
        obtain ⟨h1, h2⟩ := List.getElem?_eq_some_iff.1 Hv.out
        rw [List.take_succ_eq_append_getElem h1, h2]
      rw [e] at hrows
      clear hO2 hE3 honly hmv hsz e hown2 hap
      go_wp2
      go_roundg (n - (k + 1))
      case measure => go_light; omega
      case rel => go_light; exact ⟨k + 1, a2, c2, _, by omega, rfl, by go_num, rfl, hrows, hE4⟩
    · have hz : ¬ (k : Int) < (n : Int) := by omega
      obtain rfl : n = k := by omega
      go_wp2
      go_ret
      rw [List.take_of_length_le (by have := Hx.out; omega)] at hO
      exact ⟨_, _, _, _, rfl, hO, hE⟩


set_option maxHeartbeats 800000 in
theorem copyLists_any (a : Option Addr) (n c : Nat) (p : List (List Int)) (w : World) (hx : RdR w a n c p) (hs : p.length + tot p ≤ 1099511627775) :
    Calls Try.prog 40 #[.slice a n c] w (RetR w p) := by
  have hb1 := hx.le
  have hb2 := hx.max
  have Hx := Lib.hid hx.len
  have hnb : n ≤ 1099511627775 := by have := Hx.out; omega
  go_enter Try.func40, Try.ntmps40
  go_wp2
  have H0 := OwnR.nil_ w w.heap.size
  go_loopg [3, 8] n (fun gh s i wr => ∃ (k : Nat) (ad : Option Addr) (d : Nat) (rs : List Row), k ≤ n ∧ gh = n - k ∧ i = .int .i64 k ∧ s = .slice ad k d ∧ OwnR wr w.heap.size ad k d (p.take k) rs ∧ Ext w wr)
  case atStart => exact ⟨0, _, 0, [], Nat.zero_le _, rfl, rfl, rfl, H0, Ext.refl w⟩
  case round =>
    obtain ⟨k, ad, d, rs, hk, rfl, rfl, rfl, hO, hE⟩ := hrel
    clear H0
    by_cases hlt : k < n
    · obtain ⟨b, o, ai, ni, ci, xs, rfl, hc, hrow, Hv⟩ := (hx.ext hE).at_ hlt
      have hz : (k : Int) < (n : Int) := by omega
      have hni : ni ≤ 1099511627775 := by have := hrow.len; have := len_le_tot Hv.out; omega
      go_wp2_with fail
      refine (slClone_any _ _ _ xs _ hrow hni).mono ?_
      rintro e w2 ⟨a', n', c', rfl, hown, hE2⟩
      have hO2 := hO.ext hE2
      have hE3 := hE.trans hE2
      have hap : ∀ g, blk a' = some g → ¬ OwnR.fp ad rs g := fun g hg hf => by have := (hO.lt hf).2; have := (hown.lt hg).1; omega
      have hown2 := hown.base hE.size
      have hsz := hE3.size
      clear hO hE hE2 hown hrow
      go_wp2_with (at_builtin; refine app_S rfl _ _ rfl hO2 hsz hown2 hap rfl (by omega) rfl rfl ?_; intro a2 c2 w3 hrows honly hmv)
      have hE4 := hE3.app hO2.top honly (Nat.le_refl _)
      have e : p.take k ++ [xs] = p.take (k + 1) := by
        obtain ⟨h1, h2⟩ := List.getElem?_eq_some_iff.1 Hv.out
        rw [List.take_succ_eq_append_getElem h1, h2]
      rw [e] at hrows
      clear hO2 hE3 honly hmv hsz e hown2 hap
      go_wp2
      go_roundg (n - (k + 1))
      case measure => go_light; omega
      case rel => go_light; exact ⟨k + 1, a2, c2, _, by omega, rfl, by go_num, rfl, hrows, hE4⟩
    · have hz : ¬ (k : Int) < (n : Int) := by omega
      obtain rfl : n = k := by omega
      go_wp2
      go_ret
      rw [List.take_of_length_le (by have := Hx.out; omega)] at hO
      exact ⟨_, _, _, _, rfl, hO, hE⟩

end Go.Proofs.Ytgggbicmmijlnaa
