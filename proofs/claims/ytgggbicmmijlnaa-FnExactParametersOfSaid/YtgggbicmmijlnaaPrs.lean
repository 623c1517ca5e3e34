/- PairCounts of both. Conditions: none. -/
import Derived.Test.YtgggbicmmijlnaaPrsP
import Derived.Test.YtgggbicmmijlnaaHas
import Derived.Test.YtgggbicmmijlnaaTl
import Derived.Test.YtgggbicmmijlnaaRep
import Derived.Test.YtgggbicmmijlnaaApp
import Derived.Test.YtgggbicmmijlnaaIso
namespace Go.Proofs.Ytgggbicmmijlnaa
open Go.RowKit

set_option maxRecDepth 100000 in
set_option maxHeartbeats 3200000 in
theorem l10Pairs_any (b0 : Nat) (z : Nat) (a : Option Addr) (n c : Nat) (p : List (List Int)) (w0 : World) (hB : Bx w0 b0 z a n c) (hx0 : RdR w0 a n c p) (hd : DsnOk z p) :
    Calls Try.prog 58 #[.pointer (some ⟨b0, 0, none⟩)] w0 (RetI w0 (pcs p z)) := by
  have hz32 : z ≤ 32 := by have := hd.1; omega
  have hb1 := hx0.le
  have hb2 := hx0.max
  have Hx := Lib.hid hx0.len
  have hn : n ≤ 128 := by rw [Hx.out]; exact hd.2.1
  have HB := Lib.hid hB
  clear hd hB
  have H0 := Own.empty 2 (Value.int .i64) w0
  go_enter Try.func58, Try.ntmps58
  go_wp2
  go_loopg [3, 4] z (fun gh s i wr => ∃ (k m : Nat) (ad : Option Addr) (d : Nat), k ≤ z ∧ gh = z - k ∧ m ≤ 32 * k ∧ s = .slice ad m d ∧ i = .int .i64 k ∧ OwnI wr w0.heap.size ad m d (pcTo p z k) ∧ Ext w0 wr)
  case atStart => exact ⟨0, 0, _, 0, Nat.zero_le _, rfl, Nat.zero_le _, rfl, rfl, H0, (Ext.refl _).alloc _⟩
  case round =>
    obtain ⟨k, m, ad, d, hk, rfl, hm, rfl, rfl, hO, hE⟩ := hrel
    clear H0
    obtain ⟨p0, p1⟩ := HB.out.ext hE
    by_cases hlt : k < z
    · have hz : (k : Int) < (z : Int) := by omega
      go_wp2
      clear p0 p1
      go_loopg [3, 5] (z - (k + 1)) (fun gh s i wi => ∃ (b m : Nat) (ad : Option Addr) (d : Nat), k + 1 ≤ b ∧ b ≤ z ∧ gh = z - b ∧ m ≤ 32 * k + (b - (k + 1)) ∧ s = .slice ad m d ∧ i = .int .i64 b ∧ OwnI wi w0.heap.size ad m d (pcTo p z k ++ pcIn p k (b - (k + 1))) ∧ Ext w0 wi)
      case atStart => exact ⟨k + 1, m, ad, d, Nat.le_refl _, by omega, by omega, by omega, rfl, by go_num, by rw [Nat.sub_self]; simpa [pcIn] using hO, hE⟩
      case round =>
        clear hO hE hm
        obtain ⟨b, m, ad, d, hkb, hb, rfl, hm, rfl, rfl, hO, hE⟩ := hrel
        obtain ⟨p0, p1⟩ := HB.out.ext hE
        by_cases hlb : b < z
        · have hzb : (b : Int) < (z : Int) := by omega
          go_wp2
          clear p0 p1
          go_loopg [6, 7] n (fun gh s i wi => ∃ (t q : Nat), t ≤ n ∧ gh = n - t ∧ q ≤ t ∧ s = .int .i64 q ∧ i = .int .i64 t ∧ Hid (pcN p k b t = q) ∧ OwnI wi w0.heap.size ad m d (pcTo p z k ++ pcIn p k (b - (k + 1))) ∧ Ext w0 wi)
          case atStart => exact ⟨0, 0, Nat.zero_le _, rfl, Nat.le_refl _, rfl, rfl, rfl, hO, hE⟩
          case round =>
            clear hO hE
            obtain ⟨t, q, ht, rfl, hq, rfl, rfl, Hq, hO, hE⟩ := hrel
            obtain ⟨p0, p1⟩ := HB.out.ext hE
            by_cases hly : t < n
            · have hz2 : (t : Int) < (n : Int) := by omega
              obtain ⟨b5, o, ai, mi, ci, rfl, hc0, hrow⟩ := (hx0.ext hE).gr hly
              by_cases h1 : (k : Int) ∈ gr p t
              · by_cases h2 : (b : Int) ∈ gr p t
                · have H1 := Lib.hid h1
                  have H2 := Lib.hid h2
                  have Hq2 : Hid (pcN p k b (t + 1) = q + 1) := Lib.hid (by rw [pcN, Hq.out, if_pos ⟨h1, h2⟩])
                  clear h1 h2
                  go_wp2_with fail
                  refine (l00Has_any _ _ _ _ _ true _ hrow (decide_eq_true H1.out)).mono ?_
                  rintro e w5 ⟨rfl, rfl⟩
                  go_wp2_with fail
                  refine (l00Has_any _ _ _ _ _ true _ hrow (decide_eq_true H2.out)).mono ?_
                  rintro e w5 ⟨rfl, rfl⟩
                  go_wp2
                  go_roundg (n - (t + 1))
                  case measure => go_light; omega
                  case rel => go_light; exact ⟨t + 1, q + 1, by omega, rfl, by omega, by go_num, by go_num, Hq2, hO, hE⟩
                · have H1 := Lib.hid h1
                  have H2 := Lib.hid h2
                  have Hq2 : Hid (pcN p k b (t + 1) = q) := Lib.hid (by rw [pcN, Hq.out, if_neg (fun h => h2 h.2)]; rfl)
                  clear h1 h2
                  go_wp2_with fail
                  refine (l00Has_any _ _ _ _ _ true _ hrow (decide_eq_true H1.out)).mono ?_
                  rintro e w5 ⟨rfl, rfl⟩
                  go_wp2_with fail
                  refine (l00Has_any _ _ _ _ _ false _ hrow (decide_eq_false H2.out)).mono ?_
                  rintro e w5 ⟨rfl, rfl⟩
                  go_wp2
                  go_roundg (n - (t + 1))
                  case measure => go_light; omega
                  case rel => go_light; exact ⟨t + 1, q, by omega, rfl, by omega, by go_num, by go_num, Hq2, hO, hE⟩
              · have H1 := Lib.hid h1
                have Hq2 : Hid (pcN p k b (t + 1) = q) := Lib.hid (by rw [pcN, Hq.out, if_neg (fun h => h1 h.1)]; rfl)
                clear h1
                go_wp2_with fail
                refine (l00Has_any _ _ _ _ _ false _ hrow (decide_eq_false H1.out)).mono ?_
                rintro e w5 ⟨rfl, rfl⟩
                go_wp2
                go_roundg (n - (t + 1))
                case measure => go_light; omega
                case rel => go_light; exact ⟨t + 1, q, by omega, rfl, by omega, by go_num, by go_num, Hq2, hO, hE⟩
            · have hz2 : ¬ (t : Int) < (n : Int) := by omega
              obtain rfl : n = t := by omega
              have hsz := hE.size
              go_wp2_with (at_builtin; refine app_I rfl _ _ rfl hO hsz rfl (by omega) rfl rfl ?_; intro a6' d6' w6 hrow6 honly hmv)
              have e : (pcTo p z k ++ pcIn p k (b - (k + 1))) ++ [(q : Int)] = pcTo p z k ++ pcIn p k (b + 1 - (k + 1)) := by
                rw [show b + 1 - (k + 1) = (b - (k + 1)) + 1 by omega, pcIn_succ, show k + 1 + (b - (k + 1)) = b by omega, ← Hx.out, Hq.out, List.append_assoc]
              rw [e] at hrow6
              have hE6 := hE.app hO honly (Nat.le_refl _)
              clear hO hE honly hmv hsz e p0 p1
              go_wp2
              go_roundg (z - (b + 1))
              case measure => go_light; omega
              case rel => go_light; exact ⟨b + 1, m + 1, a6', d6', by omega, by omega, rfl, by omega, rfl, by go_num, hrow6, hE6⟩
        · have hzb : ¬ (b : Int) < (z : Int) := by omega
          obtain rfl : z = b := by omega
          rw [show pcTo p z k ++ pcIn p k (z - (k + 1)) = pcTo p z (k + 1) from rfl] at hO
          go_wp2
          go_roundg (z - (k + 1))
          case measure => go_light; omega
          case rel => go_light; exact ⟨k + 1, m, ad, d, by omega, rfl, by omega, rfl, by go_num, hO, hE⟩
    · have hz : ¬ (k : Int) < (z : Int) := by omega
      obtain rfl : z = k := by omega
      go_wp2
      go_ret
      exact ⟨_, _, _, rfl, hO, hE⟩

set_option maxRecDepth 100000 in
set_option maxHeartbeats 3200000 in
theorem pairCounts_any (z : Nat) (a : Option Addr) (n c : Nat) (p : List (List Int)) (w0 : World) (hx0 : RdR w0 a n c p) (hd : DsnOk z p) :
    Calls Try.prog 63 #[.agg #[.int .i64 z, .slice a n c]] w0 (RetI w0 (pcs p z)) := by
  have hz32 : z ≤ 32 := by have := hd.1; omega
  have hb1 := hx0.le
  have hb2 := hx0.max
  have Hx := Lib.hid hx0.len
  have hn : n ≤ 128 := by rw [Hx.out]; exact hd.2.1
  have hall : Hid (AllBlk (z : Int) p) := Lib.hid hd.2.2.1
  have Hup : Hid (∀ k, Up (gr p k)) := Lib.hid (fun k => by
    by_cases h : k < p.length
    · exact (hall.out k h).up
    · exact Up.none (by simp [gr, List.getD_eq_getElem?_getD, List.getElem?_eq_none (show p.length ≤ k by omega)]))
  clear hd
  have hEW : Ext w0 (w0.alloc (.cells #[.int .i64 z, .slice a n c] 30)) := (Ext.refl _).alloc _
  have hB : Bx (w0.alloc (.cells #[.int .i64 z, .slice a n c] 30)) w0.heap.size z a n c := ⟨(World.cell?_alloc_at _ _ _ _ rfl).trans rfl, (World.cell?_alloc_at _ _ _ _ rfl).trans rfl⟩
  go_enter Try.func63, Try.ntmps63
  go_wp2_with fail
  refine (emptySquare_any z _ (by omega)).mono ?_
  rintro e w1 ⟨aM, nM, cM, rs, rfl, hM0, hE1⟩
  obtain rfl : z = nM := by have := hM0.len; rwa [mat_length, eq_comm] at this
  obtain ⟨p0, p1⟩ := hB.ext hE1
  have hE0 := hEW.trans hE1
  have hM1 := hM0.base hEW.size
  have hT0 : Hid (Tab p z (mat z z fun _ _ => 0) 0 0 1) := Lib.hid (Tab.start (mat_rect _ _ _) (fun x y hx hy => by rw [at2, gr_of (mat_row hx), gi_of (v := 0) (by simp [hy])]) (Hup.out 0))
  clear hM0 hE1 hEW hB
  go_wp2
  go_loopg [19] n (fun g i wr => ∃ (k : Nat) (M : List (List Int)), k ≤ n ∧ g = n - k ∧ i = .int .i64 k ∧ Hid (Tab p z M k 0 1) ∧ OwnR wr w0.heap.size aM z cM M rs ∧ Ext w0 wr)
  case atStart => exact ⟨0, _, Nat.zero_le _, rfl, rfl, hT0, hM1, hE0⟩
  case round =>
    clear hM1 hE0 hT0
    obtain ⟨k, M, hk, rfl, rfl, HT, hO, hE⟩ := hrel
    by_cases hlt : k < n
    · have hz1 : (k : Int) < (n : Int) := by omega
      have hkp : k < p.length := by rw [← Hx.out]; exact hlt
      obtain ⟨b, o, ai, m, ci, rfl, hc0, hrow⟩ := hx0.gr hlt
      have hc := hE.cell hc0
      have hq1 := hrow.le
      have hq2 := hrow.max
      have Hm := Lib.hid hrow.len
      have hm32 : m ≤ 32 := by have := (hall.out k hkp).len; rw [← Hm.out] at this; omega
      go_wp2
      clear hc
      go_loopg [25] m (fun g i wr => ∃ (y : Nat) (M : List (List Int)), y ≤ m ∧ g = m - y ∧ i = .int .i64 y ∧ Hid (Tab p z M k y (y + 1)) ∧ OwnR wr w0.heap.size aM z cM M rs ∧ Ext w0 wr)
      case atStart => exact ⟨0, M, Nat.zero_le _, rfl, rfl, HT, hO, hE⟩
      case round =>
        clear hO hE HT
        obtain ⟨y, M, hy, rfl, rfl, HT, hO, hE⟩ := hrel
        by_cases hly : y < m
        · have hz2 : (y : Int) < (m : Int) := by omega
          have hyl : y < (gr p k).length := by rw [← Hm.out]; exact hly
          obtain ⟨u, hu, huz⟩ := (hall.out k hkp).at_ hyl
          obtain ⟨b1, o1, hai, hc1⟩ := hrow.gi hly
          rw [hu] at hc1
          subst hai
          have hc2 := hE.cell hc1
          have hz3 : (y : Int) + 1 ≤ (m : Int) := by omega
          have Hu := Lib.hid hu
          have htail : RdI _ _ _ _ _ := Rd.from_ hrow (m := y + 1) (by omega)
          clear hu
          by_cases hcut : y + 1 = ci
          · have HM : Hid (m = y + 1) := Lib.hid (by omega)
            go_wp2
            clear hcut
            go_loopg [35] 0 (fun g i wi => g = 0 ∧ i = .int .i64 0 ∧ OwnR wi w0.heap.size aM z cM M rs ∧ Ext w0 wi)
            case atStart => exact ⟨rfl, rfl, hO, hE⟩
            case round =>
              clear hO hE hc2
              obtain ⟨rfl, rfl, hO, hE⟩ := hrel
              have hzj : ¬ (0 : Int) < (m : Int) - ((y : Int) + 1) := by have := HM.out; omega
              have HT2 : Hid (Tab p z M k (y + 1) (y + 2)) := Lib.hid (Tab.row (by rw [← Hm.out, HM.out]; exact HT.out) (Hup.out k) hyl)
              go_wp2
              go_roundg (m - (y + 1))
              case measure => go_light; omega
              case rel => go_light; exact ⟨y + 1, M, by omega, rfl, by go_num, HT2, hO, hE⟩
          · have hcut2 : ¬ ci = y + 1 := by omega
            clear hcut
            go_wp2
            clear hcut2
            go_loopg [35] (m - (y + 1)) (fun g i wi => ∃ (j : Nat) (M : List (List Int)), j ≤ m - (y + 1) ∧ g = (m - (y + 1)) - j ∧ i = .int .i64 j ∧ Hid (Tab p z M k y (y + 1 + j)) ∧ OwnR wi w0.heap.size aM z cM M rs ∧ Ext w0 wi)
            case atStart => exact ⟨0, M, Nat.zero_le _, rfl, rfl, HT, hO, hE⟩
            case round =>
              clear hO hE hc2 HT
              obtain ⟨j, M, hj, rfl, rfl, HT, hO, hE⟩ := hrel
              by_cases hlj : j < m - (y + 1)
              · have hzj : (j : Int) < (m : Int) - ((y : Int) + 1) := by omega
                have hjl : y + 1 + j < (gr p k).length := by rw [← Hm.out]; omega
                obtain ⟨v, hv, hvz⟩ := (hall.out k hkp).at_ hjl
                obtain ⟨b2, o2, hh, hc3⟩ := htail.gi hlj
                cases hh
                rw [gi_drop, hv] at hc3
                have hc4 := hE.cell hc3
                have huv : u < v := by have := Hup.out k y (y + 1 + j) (by omega) hjl; rw [Hu.out, hv] at this; omega
                have huz1 : (u : Int) < (z : Int) := by omega
                have hvz1 : (v : Int) < (z : Int) := by omega
                obtain ⟨x, hx⟩ : ∃ x, at2 M u v = x := ⟨_, rfl⟩
                have hr := HT.out.le huv hvz
                rw [hx] at hr
                have hx0' : 0 ≤ x := hr.1
                have hx2 : x ≤ 1000 := by omega
                obtain ⟨g, gg, d, hg, hd1, hB1, hd2, hf2, hset⟩ := hO.cellAt HT.out.1 huz hvz
                subst hg
                rw [hx] at hd2
                have hO3 := hset (x + 1)
                have HT3 : Hid (Tab p z (set2 M u v (x + 1)) k y (y + 1 + (j + 1))) := Lib.hid (by have := HT.out.step (Hup.out k) (by omega) hjl Hu.out hv hvz; rwa [hx] at this)
                have hE3 := hE.setCell (p := ⟨gg, v, none⟩) (show w0.heap.size ≤ gg from hB1) (.int .i64 (x + 1))
                clear hset hO hE hv hx hr hc3
                go_wp2
                go_roundg ((m - (y + 1)) - (j + 1))
                case measure => go_light; omega
                case rel => go_light; exact ⟨j + 1, _, by omega, rfl, by go_num, HT3, hO3, hE3⟩
              · have hzj : ¬ (j : Int) < (m : Int) - ((y : Int) + 1) := by omega
                have HT2 : Hid (Tab p z M k (y + 1) (y + 2)) := Lib.hid (Tab.row (by rw [← Hm.out, show m = y + 1 + j by omega]; exact HT.out) (Hup.out k) hyl)
                go_wp2
                go_roundg (m - (y + 1))
                case measure => go_light; omega
                case rel => go_light; exact ⟨y + 1, M, by omega, rfl, by go_num, HT2, hO, hE⟩
        · have hz2 : ¬ (y : Int) < (m : Int) := by omega
          obtain rfl : m = y := by omega
          have HT2 : Hid (Tab p z M (k + 1) 0 1) := Lib.hid (Tab.next (t := m + 1) (by rw [← Hm.out]; exact HT.out) (Hup.out _))
          go_wp2
          go_roundg (n - (k + 1))
          case measure => go_light; omega
          case rel => go_light; exact ⟨k + 1, M, by omega, rfl, by go_num, HT2, hO, hE⟩
    · have hz1 : ¬ (k : Int) < (n : Int) := by omega
      obtain rfl : n = k := by omega
      have HT1 : Hid (Tab p z M p.length 0 1) := Lib.hid (by rw [← Hx.out]; exact HT.out)
      have hM := hO.rd
      have hMr := HT.out.1
      have HMr := Lib.hid hMr
      clear HT hO hMr
      obtain ⟨wM, rfl⟩ : ∃ wM, wM = wr := ⟨_, rfl⟩
      have hq3 := hM.le
      have hq4 := hM.max
      go_wp2
      go_loopg [10, 53] z (fun gh s i wi => ∃ (x m : Nat) (ad : Option Addr) (d : Nat), x ≤ z ∧ gh = z - x ∧ m ≤ 32 * x ∧ s = .slice ad m d ∧ i = .int .i64 x ∧ OwnI wi wM.heap.size ad m d (pcTo p z x) ∧ Ext wM wi)
      case atStart => exact ⟨0, 0, none, 0, Nat.zero_le _, rfl, Nat.zero_le _, rfl, rfl, Own.nil_ _ _ _ _, Ext.refl _⟩
      case round =>
        obtain ⟨x, m, ad, d, hx, rfl, hm, rfl, rfl, hO, hEi⟩ := hrel
        by_cases hlx : x < z
        · have hzx : (x : Int) < (z : Int) := by omega
          have hzx1 : (x : Int) + 1 ≤ (z : Int) := by omega
          obtain ⟨b, o, ai, ci, rfl, hc, hrow⟩ := (hM.ext hEi).row HMr.out hlx
          obtain ⟨b3, o3, rfl, _⟩ := hrow.cell2 hlx
          have hq5 := hrow.le
          have hq6 := hrow.max
          have htail : RdI _ _ _ _ _ := Rd.from_ hrow (m := x + 1) (by omega)
          have hsz := hEi.size
          by_cases hcut : x + 1 = ci
          · have HM : Hid (z = x + 1) := Lib.hid (by omega)
            go_wp2_with (at_builtin; refine app_list rfl _ _ rfl hO hsz (rd_empty' (by have := HM.out; omega) (by omega)) (by omega) rfl rfl ?_; intro ad' d' w3 hrow2 honly hmv)
            clear hcut
            have hE4 := hEi.app hO honly (Nat.le_refl _)
            have e : pcTo p z x ++ [] = pcTo p z (x + 1) := by rw [pcTo, show z - (x + 1) = 0 by have := HM.out; omega]; rfl
            rw [e] at hrow2
            clear e hO hEi honly hmv hsz hc htail hrow
            go_wp2
            go_roundg (z - (x + 1))
            case measure => go_light; omega
            case rel => go_light; exact ⟨x + 1, _, ad', d', by omega, rfl, by omega, rfl, by go_num, hrow2, hE4⟩
          · have hcut2 : ¬ ci = x + 1 := by omega
            clear hcut
            go_wp2_with (at_builtin; refine app_list rfl _ _ rfl hO hsz htail (by omega) rfl rfl ?_; intro ad' d' w3 hrow2 honly hmv)
            have hE4 := hEi.app hO honly (Nat.le_refl _)
            rw [HT1.out.tail hlx (Hup.out _), show pcTo p z x ++ pcIn p x (z - (x + 1)) = pcTo p z (x + 1) from rfl] at hrow2
            clear hO hEi honly hmv hsz hc htail hrow hcut2
            go_wp2
            go_roundg (z - (x + 1))
            case measure => go_light; omega
            case rel => go_light; exact ⟨x + 1, _, ad', d', by omega, rfl, by omega, rfl, by go_num, hrow2, hE4⟩
        · have hzx : ¬ (x : Int) < (z : Int) := by omega
          obtain rfl : z = x := by omega
          have hEz := hE.trans hEi
          have hO2 := hO.base hE.size
          go_wp2
          go_ret
          exact ⟨_, _, _, rfl, hO2, hEz⟩


end Go.Proofs.Ytgggbicmmijlnaa
