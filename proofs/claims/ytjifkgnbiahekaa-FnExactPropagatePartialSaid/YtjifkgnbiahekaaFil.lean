/- The number of filled cells, by both. Conditions: none. -/
import Derived.Test.YtjifkgnbiahekaaCandP
import Derived.Test.YtjifkgnbiahekaaPartI
import Derived.Test.YtjifkgnbiahekaaPartS
import Derived.Test.YtjifkgnbiahekaaApp
import Derived.Test.YtjifkgnbiahekaaSz
import Derived.Test.YtjifkgnbiahekaaSl
namespace Go.Proofs.Ytjifkgnbiahekaa
open Go.RowKit

theorem mul_100 {x n : Nat} (hx : x < n) (hn : n ≤ 10) : 0 ≤ (x : Int) * (n : Int) ∧ (x : Int) * (n : Int) ≤ 100 := by
  have h1 := Nat.mul_le_mul (Nat.le_of_lt hx) hn
  have h2 := Nat.mul_le_mul_right n (show x ≤ 10 by omega)
  have h3 := Nat.mul_le_mul_left 10 hn
  constructor
  · exact_mod_cast Nat.zero_le _
  · have : x * n ≤ 100 := by omega
    exact_mod_cast this

set_option maxHeartbeats 1600000 in
/-- impl.emptyCells. -/
theorem emptyCells_any (a : Option Addr) (n c : Nat) (p : List (List Int)) (w : World) (hp : RdR w a n c p) (hr : Rect p n n) (hn : n ≤ 10) :
    Calls Try.prog 59 #[.slice a n c] w (RetI w (empt p)) := by
  have hb1 := hp.le
  have hb2 := hp.max
  have Hr := Lib.hid hr
  clear hr
  go_enter Try.func59, Try.ntmps59
  go_wp2
  go_loopg [3, 10] n (fun gh s i wr => ∃ (k m : Nat) (ad : Option Addr) (d : Nat), k ≤ n ∧ gh = n - k ∧ i = .int .i64 k ∧ m ≤ 10 * k ∧ s = .slice ad m d ∧ OwnI wr w.heap.size ad m d (emptyTo p n k) ∧ Ext w wr)
  case atStart => exact ⟨0, 0, none, 0, Nat.zero_le _, rfl, rfl, Nat.zero_le _, rfl, Own.nil_ _ _ _ _, Ext.refl _⟩
  case round =>
    obtain ⟨k, m, ad, d, hk, rfl, rfl, hm, rfl, hO, hE⟩ := hrel
    by_cases hlt : k < n
    · have hz : (k : Int) < (n : Int) := by omega
      obtain ⟨b, o, ai, ci, rfl, hc, hrow⟩ := hp.row Hr.out hlt
      replace hc := hE.cell hc
      have hb3 := hrow.le
      have hb4 := hrow.max
      go_wp2
      go_loopg [3, 17] n (fun gh s i wi => ∃ (j m : Nat) (ad : Option Addr) (d : Nat), j ≤ n ∧ gh = n - j ∧ i = .int .i64 j ∧ m ≤ 10 * k + j ∧ s = .slice ad m d ∧ OwnI wi w.heap.size ad m d (emptyTo p n k ++ emptyIn p n k j) ∧ Ext w wi)
      case atStart => exact ⟨0, m, ad, d, Nat.zero_le _, rfl, rfl, by omega, rfl, by rw [emptyIn, List.append_nil]; exact hO, hE⟩
      case round =>
        clear hO hm hE
        obtain ⟨j, m, ad, d, hj, rfl, rfl, hm, rfl, hO, hE⟩ := hrel
        by_cases hlj : j < n
        · have hz2 : (j : Int) < (n : Int) := by omega
          obtain ⟨b1, o1, rfl, hc1⟩ := (hrow.ext hE).cell2 hlj
          by_cases h1 : at2 p k j = -1
          · have h1' : (at2 p k j == -1) = true := by simp [h1]
            have e : emptyTo p n k ++ emptyIn p n k (j + 1) = (emptyTo p n k ++ emptyIn p n k j) ++ [(k : Int) * (n : Int) + (j : Int)] := by rw [emptyIn, if_pos h1, List.append_assoc]
            clear h1
            obtain ⟨hmul0, hmul1⟩ := mul_100 hlt hn
            have hsz := hE.size
            go_wp2_with (at_builtin; refine app_I rfl _ _ rfl hO hsz rfl (by omega) rfl rfl ?_; intro ad' d' w3 hrow2 honly hmv)
            have hE4 := hE.app hO honly (Nat.le_refl _)
            rw [← e] at hrow2
            clear hO hE honly hmv hsz e hmul0 hmul1
            go_wp2
            go_roundg (n - (j + 1))
            case measure => go_light; omega
            case rel => go_light; exact ⟨j + 1, m + 1, ad', d', by omega, rfl, by go_num, by omega, rfl, hrow2, hE4⟩
          · have h1' : (at2 p k j == -1) = false := by simp [h1]
            have e : emptyTo p n k ++ emptyIn p n k (j + 1) = (emptyTo p n k ++ emptyIn p n k j) := by rw [emptyIn, if_neg h1]
            clear h1
            rw [← e] at hO
            clear e
            go_wp2
            go_roundg (n - (j + 1))
            case measure => go_light; omega
            case rel => go_light; exact ⟨j + 1, m, ad, d, by omega, rfl, by go_num, by omega, rfl, hO, hE⟩
        · have hz2 : ¬ (j : Int) < (n : Int) := by omega
          obtain rfl : n = j := by omega
          rw [show emptyTo p n k ++ emptyIn p n k n = emptyTo p n (k + 1) from rfl] at hO
          go_wp2
          go_roundg (n - (k + 1))
          case measure => go_light; omega
          case rel => go_light; exact ⟨k + 1, m, ad, d, by omega, rfl, by go_num, by omega, rfl, hO, hE⟩
    · have hz : ¬ (k : Int) < (n : Int) := by omega
      obtain rfl : n = k := by omega
      go_wp2
      go_ret
      rw [show emptyTo p n n = empt p by rw [empt, Hr.out.1]] at hO
      exact ⟨_, _, _, rfl, hO, hE⟩

/-- The number of filled cells. -/
noncomputable def filN (p : List (List Int)) : Int := if pb (POk p) then (p.length : Int) * p.length - (empt p).length else 0

theorem empt_le {p : List (List Int)} (h : p.length ≤ 10) : (empt p).length ≤ 100 := by
  have h1 := emptyTo_len p p.length p.length
  have h2 := Nat.mul_le_mul h h
  rw [empt]; omega


end Go.Proofs.Ytjifkgnbiahekaa
