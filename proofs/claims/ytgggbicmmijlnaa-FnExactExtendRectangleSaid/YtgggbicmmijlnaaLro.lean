/- The least row of different symbols, by both. Conditions: none. -/
import Derived.Test.YtgggbicmmijlnaaMtc
import Derived.Test.YtgggbicmmijlnaaFill
namespace Go.Proofs.Ytgggbicmmijlnaa
open Go.RowKit

theorem set_back {u : List Bool} {s : Nat} (hs : s < u.length) (h : sn u s = false) : (u.set s true).set s false = u := by
  rw [List.set_set]
  apply List.ext_getElem?
  intro i
  rw [List.getElem?_set]
  split
  · rename_i e
    subst e
    rw [List.getElem?_eq_getElem hs]
    rw [sn_of (List.getElem?_eq_getElem hs)] at h
    rw [h]
  · rfl
theorem set_not {u : List Bool} {s : Nat} {b : Bool} : (u.map (fun b => !b)).set s (!b) = (u.set s b).map (fun b => !b) := by rw [List.map_set]
theorem usd_next {L : List (List Int)} {n k s : Nat} (h : pick L n k (usd L n k) = (s : Int)) : (usd L n k).set s true = usd L n (k + 1) := by rw [usd, h, Int.toNat_natCast]
theorem lrow_next {L : List (List Int)} {n k s : Nat} (h : pick L n k (usd L n k) = (s : Int)) : lrow L n k ++ [(s : Int)] = lrow L n (k + 1) := by rw [lrow_snoc, h]

set_option maxRecDepth 100000 in
set_option maxHeartbeats 3200000 in
theorem leastRow_any (a : Option Addr) (n c : Nat) (L : List (List Int)) (w : World) (hx : RdR w a n c L) (hB : Bel L n) (hn : n ≤ 1000) (h0 : Sdr L n 0 (List.replicate n false)) :
    Calls Try.prog 42 #[.slice a n c] w (RetI w (lrow L n n)) := by
  have hmb := run_make_row' (P := Try.prog) 83 4 (.bool false) 1 Try.underlying83 info_bool2 rfl .i64 .i64 n (by omega) (by omega)
  have H0 := own_made w 4 Value.bool false n (by omega)
  have hE0 : Ext w (w.alloc (.cells (madeCells #[Value.bool false] n) 4)) := (Ext.refl _).alloc _
  have hb1 := hx.le
  have hb2 := hx.max
  have HS := Lib.hid h0
  have HL := Lib.hid hx.len
  clear h0
  go_enter Try.func42, Try.ntmps42
  go_wp2
  clear hmb
  go_loopg [4, 14] n (fun gh rv ix wr => ∃ (k : Nat) (ad : Option Addr) (d : Nat), k ≤ n ∧ gh = n - k ∧ rv = .slice ad k d ∧ ix = .int .i64 k ∧ OwnI wr w.heap.size ad k d (lrow L n k) ∧ OwnB wr w.heap.size (some ⟨w.heap.size, 0, none⟩) n n (usd L n k) ∧ Hid (∀ g, blk ad = some g → g ≠ w.heap.size) ∧ Ext w wr)
  case atStart => exact ⟨0, none, 0, Nat.zero_le _, rfl, rfl, rfl, Own.nil_ _ _ _ _, H0, Lib.hid (fun g h => by cases h), hE0⟩
  case round =>
    clear H0 hE0
    obtain ⟨k, ad, d, hk, rfl, rfl, rfl, hO, hU, HA, hE⟩ := hrel
    by_cases hlt : k < n
    · have hzk : (k : Int) < (n : Int) := by omega
      obtain ⟨bL, oL, ai, ni, ci, ha, hc0, hrow0⟩ := hx.gr hlt
      subst ha
      have hbi1 := hrow0.le
      have hbi2 := hrow0.max
      have Hni := Lib.hid hrow0.len
      have hc := hE.cell hc0
      have HSk := Lib.hid (usd_sdr HS.out k hk)
      go_wp2
      clear hc
      go_loopg [4, 21] ni (fun gh rv ix wi => ∃ i : Nat, i ≤ ni ∧ gh = ni - i ∧ rv = .slice ad k d ∧ ix = .int .i64 i ∧ OwnI wi w.heap.size ad k d (lrow L n k) ∧ OwnB wi w.heap.size (some ⟨w.heap.size, 0, none⟩) n n (usd L n k) ∧ Ext w wi ∧ Hid (∀ j, j < i → ¬ Tak L n k (usd L n k) (gi (gr L k) j)))
      case atStart => exact ⟨0, Nat.zero_le _, rfl, rfl, rfl, hO, hU, hE, Lib.hid (fun j h => absurd h (Nat.not_lt_zero _))⟩
      case round =>
        clear hO hU hE
        obtain ⟨i, hi, rfl, rfl, rfl, hO, hU, hE, HN⟩ := hrel
        by_cases hli : i < ni
        · have hzi : (i : Int) < (ni : Int) := by omega
          have HI : Hid (i < (gr L k).length) := Lib.hid (by rw [← Hni.out]; exact hli)
          obtain ⟨s, hs, hsn⟩ := hB k _ (gi_mem HI.out)
          have HSI := Lib.hid hs
          obtain ⟨bi, oi, hai, hci0⟩ := hrow0.gi hli
          subst hai
          rw [hs] at hci0
          have hci := hE.cell hci0
          have hzs : (s : Int) < (n : Int) := by omega
          obtain ⟨hcu, hfu⟩ := hU.snB hsn
          have hus : s < (usd L n k).length := by rw [usd_len]; exact hsn
          have HUS := Lib.hid hus
          clear hs hus
          have step : ¬ Tak L n k (usd L n k) (s : Int) → Hid (∀ j, j < i + 1 → ¬ Tak L n k (usd L n k) (gi (gr L k) j)) := fun h => Lib.hid (fun j hj => by
            by_cases e : j = i
            · subst e; rw [HSI.out]; exact h
            · exact HN.out j (by omega))
          have Step := Lib.hid step
          clear step
          obtain ⟨v1, hv1⟩ : ∃ v, sn (usd L n k) s = v := ⟨_, rfl⟩
          have H1 := Lib.hid hv1
          rw [hv1] at hcu
          clear hv1
          cases v1
          · have hU2 := hU.set (k := s) rfl true
            have hO2 := hO.setOther (p := ⟨w.heap.size, s, none⟩) (fun e => HA.out _ e rfl) (.bool true)
            have hE2 := hE.setCell (p := ⟨w.heap.size, s, none⟩) (Nat.le_refl _) (.bool true)
            clear hU hO hE
            go_wp2_with fail
            refine (matchable_any _ n c L (k + 1) _ n ((usd L n k).set s true) _ (hx.ext hE2) hU2.rdB hB hn (by omega)).mono ?_
            rintro e w2 ⟨rfl, hE3⟩
            have hU3 := hU2.ext hE3
            have hO3 := hO2.ext hE3
            have hE4 := hE2.trans hE3
            have hsz4 := hE4.size
            clear hU2 hO2 hE2 hE3
            rcases pbc (Sdr L n (k + 1) ((usd L n k).set s true)) with ⟨hb, Hb⟩ | ⟨hb, Hb⟩
            · rw [hb]
              clear hb
              have HP : Hid (pick L n k (usd L n k) = (s : Int)) := Lib.hid (by
                rw [← HSI.out]
                refine pick_at HI.out ?_ HN.out
                rw [HSI.out]
                exact ⟨by rw [Int.toNat_natCast]; exact H1.out, by rw [Int.toNat_natCast]; exact Hb.out⟩)
              have HB := Lib.hid (hU3.lt (g := w.heap.size) rfl).2
              clear hci hcu hfu
              go_wp2_with (at_builtin; refine app_I rfl _ _ rfl hO3 hsz4 rfl (by omega) rfl rfl ?_; intro ad' d' w5 hrow5 honly5 hmv5)
              have hE5 := hE4.app hO3 honly5 (Nat.le_refl _)
              have hU5 := hU3.only honly5 (fun g hg e => HA.out g e (blk_eq hg).symm)
              have HA5 : Hid (∀ g, blk ad' = some g → g ≠ w.heap.size) := Lib.hid (fun g hg => by
                rcases hmv5 with h1 | ⟨g', h1, h2⟩
                · exact HA.out g (by rw [← h1]; exact hg)
                · rw [hg] at h1; cases h1
                  have := HB.out; omega)
              rw [lrow_next HP.out] at hrow5
              rw [usd_next HP.out] at hU5
              clear hO3 hU3 hE4 honly5 hmv5 hsz4
              go_wp2
              go_roundg (n - (k + 1))
              case measure => go_light; omega
              case rel => go_light; exact ⟨k + 1, ad', d', by omega, rfl, rfl, by go_num, hrow5, hU5, HA5, hE5⟩
            · rw [hb]
              clear hb
              have hstep := Step.out (fun h => Hb.out (by have := h.2; rwa [Int.toNat_natCast] at this))
              obtain ⟨hcu3, hfu3⟩ := hU3.snB hsn
              have hU5 := hU3.set (k := s) rfl false
              have hO5 := hO3.setOther (p := ⟨w.heap.size, s, none⟩) (fun e => HA.out _ e rfl) (.bool false)
              have hE5 := hE4.setCell (p := ⟨w.heap.size, s, none⟩) (Nat.le_refl _) (.bool false)
              rw [set_back HUS.out H1.out] at hU5
              clear hci hcu hfu hU3 hO3 hE4
              go_wp2
              go_roundg (ni - (i + 1))
              case measure => go_light; omega
              case rel => go_light; exact ⟨i + 1, by omega, rfl, rfl, by go_num, hO5, hU5, hE5, hstep⟩
          · have hstep := Step.out (fun h => by have := h.1; rw [Int.toNat_natCast, H1.out] at this; cases this)
            clear hfu
            go_wp2
            go_roundg (ni - (i + 1))
            case measure => go_light; omega
            case rel => go_light; exact ⟨i + 1, by omega, rfl, rfl, by go_num, hO, hU, hE, hstep⟩
        · exact absurd (by
            obtain ⟨v, hv, ht⟩ := sdr_take (usd_len L n k) hlt HSk.out
            obtain ⟨j, hj, rfl⟩ := mem_gi hv
            exact HN.out j (by have := Hni.out; omega) ht) id
    · have hzk : ¬ (k : Int) < (n : Int) := by omega
      obtain rfl : n = k := by omega
      go_wp2
      go_ret
      exact ⟨_, _, _, rfl, hO, hE⟩

set_option maxRecDepth 100000 in
set_option maxHeartbeats 3200000 in
theorem l09Row_any (a : Option Addr) (n c : Nat) (L : List (List Int)) (w : World) (hx : RdR w a n c L) (hB : Bel L n) (hn : n ≤ 1000) (h0 : Sdr L n 0 (List.replicate n false)) :
    Calls Try.prog 36 #[.slice a n c] w (RetI w (lrow L n n)) := by
  have hmb := run_make_row' (P := Try.prog) 83 4 (.bool false) 1 Try.underlying83 info_bool2 rfl .i64 .i64 n (by omega) (by omega)
  have H0 := own_made w 4 Value.bool false n (by omega)
  have hE0 : Ext w (w.alloc (.cells (madeCells #[Value.bool false] n) 4)) := (Ext.refl _).alloc _
  have hb1 := hx.le
  have hb2 := hx.max
  have HS := Lib.hid h0
  have HL := Lib.hid hx.len
  clear h0
  go_enter Try.func36, Try.ntmps36
  go_wp2
  clear hmb
  go_loopg [5] n (fun gh ix wr => ∃ i : Nat, i ≤ n ∧ gh = n - i ∧ ix = .int .i64 i ∧ OwnB wr w.heap.size (some ⟨w.heap.size, 0, none⟩) n n (List.replicate i true ++ List.replicate (n - i) false) ∧ Ext w wr)
  case atStart => exact ⟨0, Nat.zero_le _, rfl, rfl, by simpa using H0, hE0⟩
  case round =>
   clear H0 hE0
   obtain ⟨i, hi, rfl, rfl, hO, hE⟩ := hrel
   by_cases hlt : i < n
   · have hzi : (i : Int) < (n : Int) := by omega
     obtain ⟨hco, hfo⟩ := hO.snB hlt
     have hO2 := hO.set (k := i) rfl true
     rw [rep_set hlt] at hO2
     have hE2 := hE.setCell (p := ⟨w.heap.size, i, none⟩) (Nat.le_refl _) (.bool true)
     clear hO hE
     go_wp2
     go_roundg (n - (i + 1))
     case measure => go_light; omega
     case rel => go_light; exact ⟨i + 1, by omega, rfl, by go_num, hO2, hE2⟩
   · have hzi : ¬ (i : Int) < (n : Int) := by omega
     obtain rfl : n = i := by omega
     have H0 : OwnB wr w.heap.size (some ⟨w.heap.size, 0, none⟩) n n ((List.replicate n false).map (fun b => !b)) := by simpa using hO
     have H1 := (Own.empty 2 (Value.int .i64) wr).base (B' := w.heap.size) hE.size
     have H2 := H0.ext ((Ext.refl _).alloc (.cells #[] 2))
     have hE1 := hE.alloc (.cells #[] 2)
     have HA0 : Hid (∀ g, blk (some (⟨wr.heap.size, 0, none⟩ : Addr)) = some g → g ≠ w.heap.size) := Lib.hid (fun g hg e => by have := blk_eq hg; have := (hO.lt (g := w.heap.size) rfl).2; omega)
     clear hO hE H0
     go_wp2
     go_loopg [6, 7] n (fun gh rv ix wr => ∃ (k : Nat) (ad : Option Addr) (d : Nat), k ≤ n ∧ gh = n - k ∧ rv = .slice ad k d ∧ ix = .int .i64 k ∧ OwnI wr w.heap.size ad k d (lrow L n k) ∧ OwnB wr w.heap.size (some ⟨w.heap.size, 0, none⟩) n n ((usd L n k).map (fun b => !b)) ∧ Hid (∀ g, blk ad = some g → g ≠ w.heap.size) ∧ Ext w wr)
     case atStart => exact ⟨0, _, 0, Nat.zero_le _, rfl, rfl, rfl, H1, H2, HA0, hE1⟩
     case round =>
       clear H1 H2 HA0 hE1
       obtain ⟨k, ad, d, hk, rfl, rfl, rfl, hO, hU, HA, hE⟩ := hrel
       by_cases hlt : k < n
       · have hzk : (k : Int) < (n : Int) := by omega
         obtain ⟨bL, oL, ai, ni, ci, ha, hc0, hrow0⟩ := hx.gr hlt
         subst ha
         have hbi1 := hrow0.le
         have hbi2 := hrow0.max
         have Hni := Lib.hid hrow0.len
         have hc := hE.cell hc0
         have HSk := Lib.hid (usd_sdr HS.out k hk)
         go_wp2
         clear hc
         go_loopg [6, 8] ni (fun gh rv ix wi => ∃ i : Nat, i ≤ ni ∧ gh = ni - i ∧ rv = .slice ad k d ∧ ix = .int .i64 i ∧ OwnI wi w.heap.size ad k d (lrow L n k) ∧ OwnB wi w.heap.size (some ⟨w.heap.size, 0, none⟩) n n ((usd L n k).map (fun b => !b)) ∧ Ext w wi ∧ Hid (∀ j, j < i → ¬ Tak L n k (usd L n k) (gi (gr L k) j)))
         case atStart => exact ⟨0, Nat.zero_le _, rfl, rfl, rfl, hO, hU, hE, Lib.hid (fun j h => absurd h (Nat.not_lt_zero _))⟩
         case round =>
           clear hO hU hE
           obtain ⟨i, hi, rfl, rfl, rfl, hO, hU, hE, HN⟩ := hrel
           by_cases hli : i < ni
           · have hzi : (i : Int) < (ni : Int) := by omega
             have HI : Hid (i < (gr L k).length) := Lib.hid (by rw [← Hni.out]; exact hli)
             obtain ⟨s, hs, hsn⟩ := hB k _ (gi_mem HI.out)
             have HSI := Lib.hid hs
             obtain ⟨bi, oi, hai, hci0⟩ := hrow0.gi hli
             subst hai
             rw [hs] at hci0
             have hci := hE.cell hci0
             have hcl := hE.cell hc0
             have hzs : (s : Int) < (n : Int) := by omega
             obtain ⟨hcu, hfu⟩ := hU.snB hsn
             have hus : s < (usd L n k).length := by rw [usd_len]; exact hsn
             have HUS := Lib.hid hus
             rw [sn_not hus] at hcu
             clear hs hus
             have step : ¬ Tak L n k (usd L n k) (s : Int) → Hid (∀ j, j < i + 1 → ¬ Tak L n k (usd L n k) (gi (gr L k) j)) := fun h => Lib.hid (fun j hj => by
               by_cases e : j = i
               · subst e; rw [HSI.out]; exact h
               · exact HN.out j (by omega))
             have Step := Lib.hid step
             clear step
             obtain ⟨v1, hv1⟩ : ∃ v, sn (usd L n k) s = v := ⟨_, rfl⟩
             have H1 := Lib.hid hv1
             rw [hv1] at hcu
             clear hv1
             cases v1
             · have hU2 := hU.set (k := s) rfl (!true)
               rw [set_not] at hU2
               have hO2 := hO.setOther (p := ⟨w.heap.size, s, none⟩) (fun e => HA.out _ e rfl) (.bool (!true))
               have hE2 := hE.setCell (p := ⟨w.heap.size, s, none⟩) (Nat.le_refl _) (.bool (!true))
               clear hU hO hE
               go_wp2_with fail
               refine (l09Matches_any _ n c L (k + 1) _ n ((usd L n k).set s true) _ (hx.ext hE2) (by rw [List.length_set, usd_len]) hU2.rdB hB hn (by omega)).mono ?_
               rintro e w2 ⟨rfl, hE3⟩
               have hU3 := hU2.ext hE3
               have hO3 := hO2.ext hE3
               have hE4 := hE2.trans hE3
               have hsz4 := hE4.size
               clear hU2 hO2 hE2 hE3
               rcases pbc (Sdr L n (k + 1) ((usd L n k).set s true)) with ⟨hb, Hb⟩ | ⟨hb, Hb⟩
               · rw [hb]
                 clear hb
                 have HP : Hid (pick L n k (usd L n k) = (s : Int)) := Lib.hid (by
                   rw [← HSI.out]
                   refine pick_at HI.out ?_ HN.out
                   rw [HSI.out]
                   exact ⟨by rw [Int.toNat_natCast]; exact H1.out, by rw [Int.toNat_natCast]; exact Hb.out⟩)
                 have HB := Lib.hid (hU3.lt (g := w.heap.size) rfl).2
                 clear hci hcu hfu
                 go_wp2_with (at_builtin; refine app_I rfl _ _ rfl hO3 hsz4 rfl (by omega) rfl rfl ?_; intro ad' d' w5 hrow5 honly5 hmv5)
                 have hE5 := hE4.app hO3 honly5 (Nat.le_refl _)
                 have hU5 := hU3.only honly5 (fun g hg e => HA.out g e (blk_eq hg).symm)
                 have HA5 : Hid (∀ g, blk ad' = some g → g ≠ w.heap.size) := Lib.hid (fun g hg => by
                   rcases hmv5 with h1 | ⟨g', h1, h2⟩
                   · exact HA.out g (by rw [← h1]; exact hg)
                   · rw [hg] at h1; cases h1
                     have := HB.out; omega)
                 rw [lrow_next HP.out] at hrow5
                 rw [usd_next HP.out] at hU5
                 clear hO3 hU3 hE4 honly5 hmv5 hsz4
                 go_wp2
                 go_roundg (n - (k + 1))
                 case measure => go_light; omega
                 case rel => go_light; exact ⟨k + 1, ad', d', by omega, rfl, rfl, by go_num, hrow5, hU5, HA5, hE5⟩
               · rw [hb]
                 clear hb
                 have hstep := Step.out (fun h => Hb.out (by have := h.2; rwa [Int.toNat_natCast] at this))
                 obtain ⟨hcu3, hfu3⟩ := hU3.snB hsn
                 have hU5 := hU3.set (k := s) rfl (!false)
                 rw [set_not] at hU5
                 have hO5 := hO3.setOther (p := ⟨w.heap.size, s, none⟩) (fun e => HA.out _ e rfl) (.bool (!false))
                 have hE5 := hE4.setCell (p := ⟨w.heap.size, s, none⟩) (Nat.le_refl _) (.bool (!false))
                 rw [set_back HUS.out H1.out] at hU5
                 clear hci hcu hfu hU3 hO3 hE4
                 go_wp2
                 go_roundg (ni - (i + 1))
                 case measure => go_light; omega
                 case rel => go_light; exact ⟨i + 1, by omega, rfl, rfl, by go_num, hO5, hU5, hE5, hstep⟩
             · have hstep := Step.out (fun h => by have := h.1; rw [Int.toNat_natCast, H1.out] at this; cases this)
               clear hfu
               go_wp2
               go_roundg (ni - (i + 1))
               case measure => go_light; omega
               case rel => go_light; exact ⟨i + 1, by omega, rfl, rfl, by go_num, hO, hU, hE, hstep⟩
           · exact absurd (by
               obtain ⟨v, hv, ht⟩ := sdr_take (usd_len L n k) hlt HSk.out
               obtain ⟨j, hj, rfl⟩ := mem_gi hv
               exact HN.out j (by have := Hni.out; omega) ht) id
       · have hzk : ¬ (k : Int) < (n : Int) := by omega
         obtain rfl : n = k := by omega
         go_wp2
         go_ret
         exact ⟨_, _, _, rfl, hO, hE⟩
end Go.Proofs.Ytgggbicmmijlnaa
