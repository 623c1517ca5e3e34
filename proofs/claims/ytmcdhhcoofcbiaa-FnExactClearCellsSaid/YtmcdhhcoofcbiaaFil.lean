/- The number of filled cells, by both. Conditions: none. -/
import Derived.Test.YtmcdhhcoofcbiaaCandP
import Derived.Test.YtmcdhhcoofcbiaaPartI
import Derived.Test.YtmcdhhcoofcbiaaPartS
import Derived.Test.YtmcdhhcoofcbiaaApp
import Derived.Test.YtmcdhhcoofcbiaaSz
import Derived.Test.YtmcdhhcoofcbiaaSl
namespace Go.Proofs.Ytmcdhhcoofcbiaa
open Go.RowKit

theorem mul_100 {x n : Nat} (hx : x < n) (hn : n ≤ 10) : 0 ≤ (x : Int) * (n : Int) ∧ (x : Int) * (n : Int) ≤ 100 := by
  have h1 := Nat.mul_le_mul (Nat.le_of_lt hx) hn
  have h2 := Nat.mul_le_mul_right n (show x ≤ 10 by omega)
  have h3 := Nat.mul_le_mul_left 10 hn
  constructor
  · exact_mod_cast Nat.zero_le _
  · have : x * n ≤ 100 := by omega
    exact_mod_cast this

set_option maxHeartbeats 1600000 in
/-- impl.emptyCells. -/
theorem emptyCells_any (a : Option Addr) (n c : Nat) (p : List (List Int)) (w : World) (hp : RdR w a n c p) (hr : Rect p n n) (hn : n ≤ 10) :
    Calls Try.prog 70 #[.slice a n c] w (RetI w (empt p)) := by
  have hb1 := hp.le
  have hb2 := hp.max
  have Hr := Lib.hid hr
  clear hr
  go_enter Try.func70, Try.ntmps70
  go_wp2
  go_loopg [3, 10] n (fun gh s i wr => ∃ (k m : Nat) (ad : Option Addr) (d : Nat), k ≤ n ∧ gh = n - k ∧ i = .int .i64 k ∧ m ≤ 10 * k ∧ s = .slice ad m d ∧ OwnI wr w.heap.size ad m d (emptyTo p n k) ∧ Ext w wr)
  case atStart => exact ⟨0, 0, none, 0, Nat.zero_le _, rfl, rfl, Nat.zero_le _, rfl, Own.nil_ _ _ _ _, Ext.refl _⟩
  case round =>
    obtain ⟨k, m, ad, d, hk, rfl, rfl, hm, rfl, hO, hE⟩ := hrel
    by_cases hlt : k < n
    · have hz : (k : Int) < (n : Int) := by omega
      obtain ⟨b, o, ai, ci, rfl, hc, hrow⟩ := hp.row Hr.out hlt
      replace hc := hE.cell hc
      have hb3 := hrow.le
      have hb4 := hrow.max
      go_wp2
      go_loopg [3, 17] n (fun gh s i wi => ∃ (j m : Nat) (ad : Option Addr) (d : Nat), j ≤ n ∧ gh = n - j ∧ i = .int .i64 j ∧ m ≤ 10 * k + j ∧ s = .slice ad m d ∧ OwnI wi w.heap.size ad m d (emptyTo p n k ++ emptyIn p n k j) ∧ Ext w wi)
      case atStart => exact ⟨0, m, ad, d, Nat.zero_le _, rfl, rfl, by omega, rfl, by rw [emptyIn, List.append_nil]; exact hO, hE⟩
      case round =>
        clear hO hm hE
        obtain ⟨j, m, ad, d, hj, rfl, rfl, hm, rfl, hO, hE⟩ := hrel
        by_cases hlj : j < n
        · have hz2 : (j : Int) < (n : Int) := by omega
          obtain ⟨b1, o1, rfl, hc1⟩ := (hrow.ext hE).cell2 hlj
          by_cases h1 : at2 p k j = -1
          · have h1' : (at2 p k j == -1) = true := by simp [h1]
            have e : emptyTo p n k ++ emptyIn p n k (j + 1) = (emptyTo p n k ++ emptyIn p n k j) ++ [(k : Int) * (n : Int) + (j : Int)] := by rw [emptyIn, if_pos h1, List.append_assoc]
            clear h1
            obtain ⟨hmul0, hmul1⟩ := mul_100 hlt hn
            have hsz := hE.size
            go_wp2_with (at_builtin; refine app_I rfl _ _ rfl hO hsz rfl (by omega) rfl rfl ?_; intro ad' d' w3 hrow2 honly hmv)
            have hE4 := hE.app hO honly (Nat.le_refl _)
            rw [← e] at hrow2
            clear hO hE honly hmv hsz e hmul0 hmul1
            go_wp2
            go_roundg (n - (j + 1))
            case measure => go_light; omega
            case rel => go_light; exact ⟨j + 1, m + 1, ad', d', by omega, rfl, by go_num, by omega, rfl, hrow2, hE4⟩
          · have h1' : (at2 p k j == -1) = false := by simp [h1]
            have e : emptyTo p n k ++ emptyIn p n k (j + 1) = (emptyTo p n k ++ emptyIn p n k j) := by rw [emptyIn, if_neg h1]
            clear h1
            rw [← e] at hO
            clear e
            go_wp2
            go_roundg (n - (j + 1))
            case measure => go_light; omega
            case rel => go_light; exact ⟨j + 1, m, ad, d, by omega, rfl, by go_num, by omega, rfl, hO, hE⟩
        · have hz2 : ¬ (j : Int) < (n : Int) := by omega
          obtain rfl : n = j := by omega
          rw [show emptyTo p n k ++ emptyIn p n k n = emptyTo p n (k + 1) from rfl] at hO
          go_wp2
          go_roundg (n - (k + 1))
          case measure => go_light; omega
          case rel => go_light; exact ⟨k + 1, m, ad, d, by omega, rfl, by go_num, by omega, rfl, hO, hE⟩
    · have hz : ¬ (k : Int) < (n : Int) := by omega
      obtain rfl : n = k := by omega
      go_wp2
      go_ret
      rw [show emptyTo p n n = empt p by rw [empt, Hr.out.1]] at hO
      exact ⟨_, _, _, rfl, hO, hE⟩

/-- The number of filled cells. -/
noncomputable def filN (p : List (List Int)) : Int := if pb (POk p) then (p.length : Int) * p.length - (empt p).length else 0

theorem empt_le {p : List (List Int)} (h : p.length ≤ 10) : (empt p).length ≤ 100 := by
  have h1 := emptyTo_len p p.length p.length
  have h2 := Nat.mul_le_mul h h
  rw [empt]; omega

set_option maxHeartbeats 1600000 in
theorem implFil (a : Option Addr) (n c : Nat) (p : List (List Int)) (w : World) (hp : RdR w a n c p) (_ : p.length + tot p ≤ 1048576) :
    Calls Try.prog 39 #[.slice a n c] w fun e w' => e = .returned (.int .i64 (filN p)) ∧ Ext w w' := by
  have Hl := Lib.hid hp.len
  by_cases h : POk p
  · have hb : pb (POk p) = true := pb_true h
    have H := Lib.hid h
    have Hr := Lib.hid h.2.2.1
    have hn : n ≤ 10 := by have := h.2.1; have := Hl.out; omega
    clear h
    go_enter Try.func39, Try.ntmps39
    go_wp2_with fail
    refine (validPartial_any _ _ _ p _ hp).mono ?_
    rintro e w2 ⟨rfl, hE⟩
    rw [hb]
    go_wp2_with fail
    refine (sizeR_any _ _ _ _).mono ?_
    rintro e w3 ⟨rfl, rfl⟩
    go_wp2_with fail
    refine (sizeR_any _ _ _ _).mono ?_
    rintro e w3 ⟨rfl, rfl⟩
    have hmul : 0 ≤ (n : Int) * (n : Int) ∧ (n : Int) * (n : Int) ≤ 100 := by
      have := Nat.mul_le_mul hn hn
      exact ⟨by exact_mod_cast Nat.zero_le _, by exact_mod_cast this⟩
    obtain ⟨hmul0, hmul1⟩ := hmul
    go_wp2_with fail
    refine (emptyCells_any _ _ _ p _ (hp.ext hE) (by have := Hr.out; rwa [← Hl.out] at this) hn).mono ?_
    rintro e w4 ⟨a2, n2, c2, rfl, hO, hE2⟩
    have hEE := hE.trans hE2
    have hl2 := hO.len
    have hlen : n2 ≤ 100 := by rw [hl2]; exact empt_le (by rw [← Hl.out]; exact hn)
    have Hl2 := Lib.hid hl2
    clear hO hl2 hE hE2
    go_wp2_with fail
    refine (sizeI_any _ _ _ _).mono ?_
    rintro e w3 ⟨rfl, rfl⟩
    go_wp2
    go_ret
    exact ⟨ret_int (by rw [filN, if_pos hb, ← Hl.out, ← Hl2.out]), hEE⟩
  · have hb : pb (POk p) = false := pb_false h
    have H := Lib.hid hb
    go_enter Try.func39, Try.ntmps39
    go_wp2_with fail
    refine (validPartial_any _ _ _ p _ hp).mono ?_
    rintro e w2 ⟨rfl, hE⟩
    rw [hb]
    go_wp2
    go_ret
    exact ⟨ret_int (by rw [filN, H.out]; rfl), hE⟩

set_option maxHeartbeats 1600000 in
theorem specFil (a : Option Addr) (n c : Nat) (p : List (List Int)) (w : World) (hp : RdR w a n c p) (_ : p.length + tot p ≤ 1048576) :
    Calls Try.prog 38 #[.slice a n c] w fun e w' => e = .returned (.int .i64 (filN p)) ∧ Ext w w' := by
  have hb1 := hp.le
  have hb2 := hp.max
  have Hl := Lib.hid hp.len
  by_cases h : POk p
  · have hb : pb (POk p) = true := pb_true h
    have H := Lib.hid (show POk p ∧ p.length = n from ⟨h, Hl.out.symm⟩)
    have Hr : Hid (Rect p n n) := Lib.hid (by have := h.2.2.1; rwa [← Hl.out] at this)
    have hn : n ≤ 10 := by have := h.2.1; have := Hl.out; omega
    clear h
    go_enter Try.func38, Try.ntmps38
    go_wp2_with fail
    refine (l09Ok_any _ _ _ p _ hp).mono ?_
    rintro e w2 ⟨rfl, hE0⟩
    rw [hb]
    go_wp2
    go_loopg [3, 4] n (fun gh s i wr => ∃ (k z : Nat), k ≤ n ∧ gh = n - k ∧ i = .int .i64 k ∧ z ≤ 10 * k ∧ s = .int .i64 z ∧ Ext w wr ∧ Hid (z + (emptyTo p n k).length = k * n))
    case atStart => exact ⟨0, 0, Nat.zero_le _, rfl, rfl, Nat.zero_le _, rfl, hE0, Lib.hid (by simp [emptyTo])⟩
    case round =>
      obtain ⟨k, z, hk, rfl, rfl, hz0, rfl, hE, Hz⟩ := hrel
      clear hE0
      by_cases hlt : k < n
      · have hz : (k : Int) < (n : Int) := by omega
        obtain ⟨b, o, ai, ci, rfl, hc, hrow⟩ := hp.row Hr.out hlt
        have hb3 := hrow.le
        have hb4 := hrow.max
        replace hc := hE.cell hc
        go_wp2
        go_loopg [3, 5] n (fun gh s i wi => ∃ (j z : Nat), j ≤ n ∧ gh = n - j ∧ i = .int .i64 j ∧ z ≤ 10 * k + j ∧ s = .int .i64 z ∧ Ext w wi ∧ Hid (z + ((emptyTo p n k).length + (emptyIn p n k j).length) = k * n + j))
        case atStart => exact ⟨0, z, Nat.zero_le _, rfl, rfl, by omega, rfl, hE, Lib.hid (by simp [emptyIn]; exact Hz.out)⟩
        case round =>
          clear hz0 hE Hz hc
          obtain ⟨j, z, hj, rfl, rfl, hz0, rfl, hE, Hz⟩ := hrel
          obtain ⟨b', o', ai', ci', hh, hc, hrow'⟩ := hp.row Hr.out hlt
          cases hh
          replace hc := hE.cell hc
          by_cases hlj : j < n
          · have hz2 : (j : Int) < (n : Int) := by omega
            obtain ⟨b1, o1, rfl, hc1⟩ := (hrow'.ext hE).cell2 hlj
            clear hrow' hrow
            by_cases h1 : at2 p k j = -1
            · have h1' : decide (0 ≤ at2 p k j) = false := by rw [h1]; rfl
              have e : (emptyIn p n k (j + 1)).length = (emptyIn p n k j).length + 1 := by rw [emptyIn, if_pos h1, List.length_append]; rfl
              have E := Lib.hid e
              clear h1 e
              go_wp2
              go_roundg (n - (j + 1))
              case measure => go_light; omega
              case rel => go_light; exact ⟨j + 1, z, by omega, rfl, by go_num, by omega, rfl, hE, Lib.hid (by rw [E.out]; have := Hz.out; omega)⟩
            · have h1' : decide (0 ≤ at2 p k j) = true := decide_eq_true (by have := (H.out.1.2.2.2 k j (by rw [H.out.2]; exact hlt) (by rw [H.out.2]; exact hlj)).1; omega)
              have e : emptyIn p n k (j + 1) = emptyIn p n k j := by rw [emptyIn, if_neg h1]
              have E := Lib.hid e
              clear h1 e
              go_wp2
              go_roundg (n - (j + 1))
              case measure => go_light; omega
              case rel => go_light; exact ⟨j + 1, z + 1, by omega, rfl, by go_num, by omega, by go_num, hE, Lib.hid (by rw [E.out]; have := Hz.out; omega)⟩
          · have hz2 : ¬ (j : Int) < (n : Int) := by omega
            obtain rfl : n = j := by omega
            go_wp2
            go_roundg (n - (k + 1))
            case measure => go_light; omega
            case rel => go_light; exact ⟨k + 1, z, by omega, rfl, by go_num, by omega, rfl, hE, Lib.hid (by rw [emptyTo, List.length_append, Nat.succ_mul]; exact Hz.out)⟩
      · have hz : ¬ (k : Int) < (n : Int) := by omega
        obtain rfl : n = k := by omega
        go_wp2
        go_ret
        exact ⟨ret_int (by rw [filN, if_pos hb, empt, ← Hl.out]; have := Hz.out; have h2 : ((z + (emptyTo p n n).length : Nat) : Int) = ((n * n : Nat) : Int) := by rw [this]
                           rw [Int.natCast_add, Int.natCast_mul] at h2; omega), hE⟩
  · have hb : pb (POk p) = false := pb_false h
    have H := Lib.hid hb
    go_enter Try.func38, Try.ntmps38
    go_wp2_with fail
    refine (l09Ok_any _ _ _ p _ hp).mono ?_
    rintro e w2 ⟨rfl, hE⟩
    rw [hb]
    go_wp2
    go_ret
    exact ⟨ret_int (by rw [filN, H.out]; rfl), hE⟩
end Go.Proofs.Ytmcdhhcoofcbiaa
