/- The text of a square, by both. Conditions: none. -/
import Derived.Test.YtnimmkfkijcbbaaDoorDig
import Derived.Test.YtnimmkfkijcbbaaDoorSqI
import Derived.Test.YtnimmkfkijcbbaaDoorSqS
namespace Go.Proofs.YtnimmkfkijcbbaaDoor
open Go.RowKit

theorem txRows_one (p : List (List Int)) : txRows (fun v => [dgB v]) p = rowsB p := by
  have h : p.map (txB fun v => [dgB v]) = p.map rowB := List.map_congr_left fun x _ => txB_one x
  rw [txRows, h, rowsB]

set_option maxRecDepth 100000 in
set_option maxHeartbeats 1600000 in
theorem implSqt0 (a : Option Addr) (n c : Nat) (p : List (List Int)) (w : World) (hx : RdR w a n c p) :
    Calls Tryd.prog 17 #[.slice a n c] w fun e w' => e = .returned (.string (sqTx p)) ∧ Ext w w' := by
  go_enter Tryd.func17, Tryd.ntmps17
  go_wp2_with fail
  refine (validSquare_any _ _ _ p _ hx).mono ?_
  rintro e w2 ⟨rfl, hE⟩
  by_cases h : SqOk p
  · rw [pb_true h]
    have Hs := Lib.hid (sqTx_yes h)
    have hR := h.2.2.1
    have hd := hx.ext hE
    have hlen := hx.len
    have HS := Lib.hid h
    clear h
    have hD := digitRows_any (fun v => [dgB v]) (fun _ => True) (fun v => 0 ≤ v ∧ v ≤ 9) (fun _ _ _ _ => trivial)
      (fun v w hv _ => by
        obtain ⟨k, rfl⟩ := Int.eq_ofNat_of_zero_le hv.1
        exact decimal_any k (by omega) w) (fun v => Nat.le_succ 1) a n c p w2 hd (by rw [hlen]; exact hR) (by rw [hlen]; exact HS.out.1) (by rw [hlen]; exact HS.out.2.1)
      (fun x y h1 h2 => by
        have h3 := HS.out.lt (x := x) (y := y) (by omega) (by omega)
        have h4 := HS.out.2.1
        rw [at2] at h3
        exact ⟨h3.1, by omega⟩) trivial
    rw [txRows_one] at hD
    clear hlen hR
    go_wp2_with fail
    refine hD.mono ?_
    rintro e w3 ⟨rfl, hE3⟩
    go_wp2
    go_ret
    exact ⟨by rw [Hs.out]; rfl, hE.trans hE3⟩
  · rw [pb_false h]
    have Hs := Lib.hid (sqTx_no h)
    clear h
    go_wp2
    go_ret
    exact ⟨by rw [Hs.out]; rfl, hE⟩
theorem implSqt (a : Option Addr) (n c : Nat) (p : List (List Int)) (w : World) (hx : RdR w a n c p) (_ : p.length + tot p ≤ 1048576) :
    Calls Tryd.prog 17 #[.slice a n c] w fun e w' => e = .returned (.string (sqTx p)) ∧ Ext w w' := implSqt0 a n c p w hx

set_option maxRecDepth 100000 in
set_option maxHeartbeats 1600000 in
theorem specSqt (a : Option Addr) (n c : Nat) (p : List (List Int)) (w : World) (hx : RdR w a n c p) (_ : p.length + tot p ≤ 1048576) :
    Calls Tryd.prog 16 #[.slice a n c] w fun e w' => e = .returned (.string (sqTx p)) ∧ Ext w w' := by
  go_enter Tryd.func16, Tryd.ntmps16
  go_wp2_with fail
  refine (l06Ok_any _ _ _ p _ hx).mono ?_
  rintro e w2 ⟨rfl, hE⟩
  by_cases h : SqOk p
  · rw [pb_true h]
    have Hs := Lib.hid (sqTx_yes h)
    have hlen := hx.len
    have hnm := hx.max
    have hnc := hx.le
    have hd := h.dims hlen
    have HR := Lib.hid hd.2.2
    have h1 := hd.1
    have h10 := hd.2.1
    have HS := Lib.hid h
    have Hlen := Lib.hid hlen
    clear h hd hlen
    go_wp2
    go_loopg [3, 4] n (fun gh s i wr => ∃ k : Nat, k ≤ n ∧ gh = n - k ∧ i = .int .i64 k ∧ s = .string (bs (stTo p k)) ∧ Ext w wr)
    case atStart => exact ⟨0, Nat.zero_le _, rfl, rfl, rfl, hE⟩
    case round =>
      obtain ⟨k, hk, rfl, rfl, rfl, hEr⟩ := hrel
      have hl1 := stTo_len HR.out h10 k hk
      by_cases hlt : k < n
      · obtain ⟨Q, hQ⟩ : ∃ Q, Q = stTo p k ++ (if 0 < k then [47] else []) := ⟨_, rfl⟩
        have hQl : Q.length ≤ 11 * 10 + 1 := by rw [hQ, List.length_append]; split <;> simp <;> omega
        have HQ : Hid (stTo p (k + 1) = Q ++ rowB (gr p k)) := Lib.hid (by rw [hQ]; rfl)
        obtain ⟨b, off, ai, ni, ci, rfl, hcell, hrow⟩ := hx.gr hlt
        obtain rfl : ni = n := by rw [hrow.len]; exact HR.out.2 k hlt
        have hin : Hid (∀ m, m < ni → ∃ v : Nat, v ≤ 9 ∧ gi (gr p k) m = v) := Lib.hid fun m hm => by
          have h3 := HS.out.lt (x := k) (y := m) (by rw [← Hlen.out]; omega) (by rw [← Hlen.out]; omega)
          have h4 := HS.out.2.1
          rw [at2] at h3
          obtain ⟨v, hv⟩ := Int.eq_ofNat_of_zero_le h3.1
          exact ⟨v, by omega, hv⟩
        have hgl : (gr p k).length = ni := HR.out.2 k hlt
        have Hgl := Lib.hid hgl
        clear hgl
        by_cases hk0 : k = 0
        case' pos =>
          have hkp : ¬ 0 < k := by omega
          have hap : bs (stTo p k) = bs Q := by rw [hQ, if_neg hkp, List.append_nil]
          rw [hap]
          clear hQ hap hl1 hk0
          go_wp2
        case' neg =>
          have hkp : 0 < k := by omega
          have hap : bs (stTo p k) ++ ⟨#[47]⟩ = bs Q := by rw [hQ, if_pos hkp]; exact bs_append _ [47]
          have hsz1 : ¬ ((bs (stTo p k)).size + (⟨#[47]⟩ : ByteArray).size > 9223372036854775807) := by rw [bs_size, show (⟨#[47]⟩ : ByteArray).size = 1 from rfl]; omega
          clear hQ hl1
          go_wp2
        all_goals
          go_loopg [3, 5] ni (fun gh s j wi => ∃ m : Nat, m ≤ ni ∧ gh = ni - m ∧ j = .int .i64 m ∧ s = .string (bs (Q ++ rowB ((gr p k).take m))) ∧ Ext w wi)
          case atStart => exact ⟨0, Nat.zero_le _, rfl, rfl, by simp [rowB], hEr⟩
          case round =>
            obtain ⟨m, hm, rfl, rfl, rfl, hEi⟩ := hrel
            by_cases hlm : m < ni
            · obtain ⟨v, hv, hgv⟩ := hin.out m hlm
              obtain ⟨b2, off2, rfl, hc2⟩ := hrow.gi hlm
              rw [hgv] at hc2
              have hcA := hEi.cell hcell
              have hcB := hEi.cell hc2
              have hrl := rowB_len ((gr p k).take m)
              rw [List.length_take] at hrl
              have hsz2 : ¬ ((bs (Q ++ rowB ((gr p k).take m))).size + (bs [dgB (v : Int)]).size > 9223372036854775807) := by rw [bs_size, bs_size, List.length_append, List.length_singleton]; omega
              have hap2 : bs (Q ++ rowB ((gr p k).take m)) ++ bs [dgB (v : Int)] = bs (Q ++ rowB ((gr p k).take (m + 1))) := by
                rw [bs_append, rowB_take (by rw [Hgl.out]; exact hlm), hgv, List.append_assoc]
              clear hcell hc2 hrl hgv
              go_wp2_with fail
              refine (l01Dec_any v hv _).mono ?_
              rintro e w3 ⟨rfl, hE3⟩
              go_wp2
              go_roundg (ni - (m + 1))
              case measure => go_light; omega
              case rel =>
                go_light
                exact ⟨m + 1, hlm, rfl, by go_num, rfl, hEi.trans hE3⟩
            · obtain rfl : m = ni := by omega
              have hft : Q ++ rowB ((gr p k).take m) = stTo p (k + 1) := by rw [HQ.out, List.take_of_length_le (by rw [Hgl.out]; exact Nat.le_refl _)]
              rw [hft]
              clear hft
              go_wp2
              go_roundg (m - (k + 1))
              case measure => go_light; omega
              case rel =>
                go_light
                exact ⟨k + 1, hlt, rfl, by go_num, rfl, hEi⟩
      · obtain rfl : k = n := by omega
        have hf : bs (stTo p k) = bs (rowsB p) := by rw [stTo_eq p k (by rw [← Hlen.out]; exact Nat.le_refl _), List.take_of_length_le (by rw [← Hlen.out]; exact Nat.le_refl _)]
        go_wp2
        go_ret
        exact ⟨by rw [Hs.out]; exact congrArg (fun z => Ending.returned (.string z)) hf, hEr⟩
  · rw [pb_false h]
    have Hs := Lib.hid (sqTx_no h)
    clear h
    go_wp2
    go_ret
    exact ⟨by rw [Hs.out]; rfl, hE⟩
end Go.Proofs.YtnimmkfkijcbbaaDoor
