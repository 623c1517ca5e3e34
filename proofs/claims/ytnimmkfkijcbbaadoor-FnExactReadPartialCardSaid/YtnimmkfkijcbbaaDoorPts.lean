/- The text of a partial square, by spec; both. Conditions: none. -/
import Derived.Test.YtnimmkfkijcbbaaDoorPti
import Derived.Test.YtnimmkfkijcbbaaDoorPartS
import Derived.Test.YtnimmkfkijcbbaaDoorSz
namespace Go.Proofs.YtnimmkfkijcbbaaDoor
open Go.RowKit

set_option maxRecDepth 100000 in
set_option maxHeartbeats 1600000 in
theorem specPtx (a : Option Addr) (n c : Nat) (p : List (List Int)) (w : World) (hx : RdR w a n c p) (_ : p.length + tot p ≤ 1048576) :
    Calls Tryd.prog 8 #[.slice a n c] w fun e w' => e = .returned (.string (pqTx p)) ∧ Ext w w' := by
  go_enter Tryd.func8, Tryd.ntmps8
  go_wp2_with fail
  refine (l09Ok_any _ _ _ p _ hx).mono ?_
  rintro e w2 ⟨rfl, hE⟩
  by_cases h : POk p
  · rw [pb_true h]
    have Hs := Lib.hid (pqTx_yes h)
    have hlen := hx.len
    have hnm := hx.max
    have hnc := hx.le
    have hd : 1 ≤ n ∧ n ≤ 10 ∧ Rect p n n := by subst hlen; exact ⟨h.1, h.2.1, h.2.2.1⟩
    have HR := Lib.hid hd.2.2
    have h1 := hd.1
    have h10 := hd.2.1
    have HS := Lib.hid h
    have Hlen := Lib.hid hlen
    clear h hd hlen
    go_wp2
    go_loopg [3, 4] n (fun gh s i wr => ∃ k : Nat, k ≤ n ∧ gh = n - k ∧ i = .int .i64 k ∧ s = .string (bs (ptTo p k)) ∧ Ext w wr)
    case atStart => exact ⟨0, Nat.zero_le _, rfl, rfl, rfl, hE⟩
    case round =>
      obtain ⟨k, hk, rfl, rfl, rfl, hEr⟩ := hrel
      have hl1 := ptTo_len HR.out h10 k hk
      by_cases hlt : k < n
      · obtain ⟨Q, hQ⟩ : ∃ Q, Q = ptTo p k ++ (if 0 < k then [47] else []) := ⟨_, rfl⟩
        have hQl : Q.length ≤ 11 * 10 + 1 := by rw [hQ, List.length_append]; split <;> simp <;> omega
        have HQ : Hid (ptTo p (k + 1) = Q ++ rowP (gr p k)) := Lib.hid (by rw [hQ]; rfl)
        obtain ⟨b, off, ai, ni, ci, rfl, hcell, hrow⟩ := hx.gr hlt
        obtain rfl : ni = n := by rw [hrow.len]; exact HR.out.2 k hlt
        have hin : Hid (∀ m, m < ni → -1 ≤ gi (gr p k) m ∧ gi (gr p k) m ≤ 9) := Lib.hid fun m hm => by
          have h3 := HS.out.2.2.2 k m (by rw [← Hlen.out]; omega) (by rw [← Hlen.out]; omega)
          have h4 := HS.out.2.1
          unfold PCell at h3
          rw [at2] at h3
          exact ⟨h3.1, by omega⟩
        have hgl : (gr p k).length = ni := HR.out.2 k hlt
        have Hgl := Lib.hid hgl
        clear hgl
        by_cases hk0 : k = 0
        case' pos =>
          have hkp : ¬ 0 < k := by omega
          have hap : bs (ptTo p k) = bs Q := by rw [hQ, if_neg hkp, List.append_nil]
          rw [hap]
          clear hQ hap hl1 hk0
          go_wp2
        case' neg =>
          have hkp : 0 < k := by omega
          have hap : bs (ptTo p k) ++ ⟨#[47]⟩ = bs Q := by rw [hQ, if_pos hkp]; exact bs_append _ [47]
          have hsz1 : ¬ ((bs (ptTo p k)).size + (⟨#[47]⟩ : ByteArray).size > 9223372036854775807) := by rw [bs_size, show (⟨#[47]⟩ : ByteArray).size = 1 from rfl]; omega
          clear hQ hl1
          go_wp2
        all_goals
          go_loopg [3, 5] ni (fun gh s j wi => ∃ m : Nat, m ≤ ni ∧ gh = ni - m ∧ j = .int .i64 m ∧ s = .string (bs (Q ++ rowP ((gr p k).take m))) ∧ Ext w wi)
          case atStart => exact ⟨0, Nat.zero_le _, rfl, rfl, by simp [rowP], hEr⟩
          case round =>
            obtain ⟨m, hm, rfl, rfl, rfl, hEi⟩ := hrel
            by_cases hlm : m < ni
            · obtain ⟨hv1, hv2⟩ := hin.out m hlm
              obtain ⟨b2, off2, rfl, hc2⟩ := hrow.gi hlm
              have hcA := hEi.cell hcell
              have hcB := hEi.cell hc2
              have hrl := rowP_len ((gr p k).take m)
              rw [List.length_take] at hrl
              have hap2 : bs (Q ++ rowP ((gr p k).take m)) ++ bs [pcb (gi (gr p k) m)] = bs (Q ++ rowP ((gr p k).take (m + 1))) := by
                rw [bs_append, rowP_take (by rw [Hgl.out]; exact hlm), List.append_assoc]
              obtain ⟨v, hgv⟩ : ∃ v, gi (gr p k) m = v := ⟨_, rfl⟩
              have hsz2 : ¬ ((bs (Q ++ rowP ((gr p k).take m))).size + (bs [pcb v]).size > 9223372036854775807) := by rw [bs_size, bs_size, List.length_append, List.length_singleton]; omega
              rw [hgv] at hv1 hv2 hcB hap2
              clear hcell hc2 hrl hgv
              by_cases hneg : v < 0
              · have hpc : pcb v = 46 := if_pos hneg
                rw [hpc] at hap2 hsz2
                have hap3 : bs (Q ++ rowP ((gr p k).take m)) ++ ⟨#[46]⟩ = bs (Q ++ rowP ((gr p k).take (m + 1))) := hap2
                have hsz3 : ¬ ((bs (Q ++ rowP ((gr p k).take m))).size + (⟨#[46]⟩ : ByteArray).size > 9223372036854775807) := hsz2
                clear hap2 hsz2 hpc
                go_wp2
                go_roundg (ni - (m + 1))
                case measure => go_light; omega
                case rel =>
                  go_light
                  exact ⟨m + 1, hlm, rfl, by go_num, rfl, hEi⟩
              · have hpc : pcb v = dgB v := if_neg hneg
                rw [hpc] at hap2 hsz2
                obtain ⟨u, rfl⟩ := Int.eq_ofNat_of_zero_le (show 0 ≤ v by omega)
                have hu : u ≤ 9 := by omega
                have hng : decide ((u : Int) < 0) = false := decide_eq_false hneg
                clear hpc
                go_wp2_with fail
                refine (l01Dec_any u hu _).mono ?_
                rintro e w3 ⟨rfl, hE3⟩
                go_wp2
                go_roundg (ni - (m + 1))
                case measure => go_light; omega
                case rel =>
                  go_light
                  exact ⟨m + 1, hlm, rfl, by go_num, rfl, hEi.trans hE3⟩
            · obtain rfl : m = ni := by omega
              have hft : Q ++ rowP ((gr p k).take m) = ptTo p (k + 1) := by rw [HQ.out, List.take_of_length_le (by rw [Hgl.out]; exact Nat.le_refl _)]
              rw [hft]
              clear hft
              go_wp2
              go_roundg (m - (k + 1))
              case measure => go_light; omega
              case rel =>
                go_light
                exact ⟨k + 1, hlt, rfl, by go_num, rfl, hEi⟩
      · obtain rfl : k = n := by omega
        have hf : bs (ptTo p k) = bs (rowsP p) := by rw [ptTo_eq p k (by rw [← Hlen.out]; exact Nat.le_refl _), List.take_of_length_le (by rw [← Hlen.out]; exact Nat.le_refl _)]
        go_wp2
        go_ret
        exact ⟨by rw [Hs.out]; exact congrArg (fun z => Ending.returned (.string z)) hf, hEr⟩
  · rw [pb_false h]
    have Hs := Lib.hid (pqTx_no h)
    clear h
    go_wp2
    go_ret
    exact ⟨by rw [Hs.out]; rfl, hE⟩
end Go.Proofs.YtnimmkfkijcbbaaDoor
