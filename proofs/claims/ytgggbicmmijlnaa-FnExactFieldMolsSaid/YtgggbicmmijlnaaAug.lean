/- The search for a symbol by augmenting, of both. Conditions: none. -/
import Derived.Test.YtgggbicmmijlnaaHal
import Derived.Test.YtgggbicmmijlnaaApp
namespace Go.Proofs.Ytgggbicmmijlnaa
open Go.RowKit

theorem RdB.sn {w : World} {a : Option Addr} {n c : Nat} {xs : List Bool} (h : RdB w a n c xs) {k : Nat} (hk : k < n) : ∃ b off, a = some ⟨b, off, none⟩ ∧ w.cell? ⟨b, off + k, none⟩ = some (.bool (Go.Proofs.Ytgggbicmmijlnaa.sn xs k)) := by
  obtain ⟨b, off, v, h1, h2, h3⟩ := h.at_ hk
  exact ⟨b, off, h1, by rw [sn_of h3.out]; exact h2⟩
theorem Own.snB {w : World} {B g n c : Nat} {xs : List Bool} (h : OwnB w B (some ⟨g, 0, none⟩) n c xs) {k : Nat} (hk : k < n) : w.cell? ⟨g, k, none⟩ = some (.bool (sn xs k)) ∧ w.frozen? ⟨g, k, none⟩ = false := by
  obtain ⟨g', b, h1, _, h2, h3, h4⟩ := h.at_ hk
  cases h1
  exact ⟨by rw [sn_of h4.out]; exact h2, h3⟩
abbrev OwnN (w : World) (B : Nat) (a : Option Addr) (n c : Nat) (xs : List Int) : Prop := Own 3 (Value.int .i64) w B a n c xs
theorem Own.giN {w : World} {B g n c : Nat} {xs : List Int} (h : OwnN w B (some ⟨g, 0, none⟩) n c xs) {k : Nat} (hk : k < n) : w.cell? ⟨g, k, none⟩ = some (.int .i64 (gi xs k)) ∧ w.frozen? ⟨g, k, none⟩ = false := by
  obtain ⟨g', b, h1, _, h2, h3, h4⟩ := h.at_ hk
  cases h1
  exact ⟨by rw [gi_of h4.out]; exact h2, h3⟩

theorem Aug.vals {L : List (List Int)} {u : List Bool} {n : Nat} {k : Nat} {r o : List Int} {t : List Bool} {b : Bool} {o' : List Int} {t' : List Bool} (h : Aug L u k r o t b o' t') :
    k < n → o.length = n → (∀ s, s < n → gi o s < n) → ∀ s, s < n → gi o' s < n := by
  have put : ∀ (o : List Int) (s k x : Nat), o.length = n → (∀ s, s < n → gi o s < n) → k < n → x < n → gi (o.set s k) x < n := fun o s k x ho h hk hx => by
    by_cases e : s = x
    · subst e; rw [gi_set_self (by omega)]; omega
    · rw [gi_set_ne e]; exact h x hx
  induction h with
  | nil => exact fun _ _ h => h
  | skip _ _ ih => exact ih
  | free h1 h2 h3 => exact fun hk ho h s hs => put _ _ _ _ ho h hk hs
  | @move k s j r o t o' t' h1 h2 h3 hr ih =>
    intro hk ho h x hx
    by_cases e : s < n
    · have hj : j < n := by have := h s e; omega
      exact put _ _ _ _ (by rw [hr.len.1]; exact ho) (ih hj ho h) hk hx
    · rw [gi_set_ne (by omega)]
      by_cases hj : j < n
      · exact ih hj ho h x hx
      · rw [gi, List.getD_eq_getElem?_getD, List.getElem?_eq_none (by omega)] at h3
        have : j = 0 := by simp at h3; omega
        omega
  | @back k s j r o t o1 t1 b o' t' h1 h2 h3 hj hr ih1 ih2 =>
    intro hk ho h x hx
    have hjn : j < n := by
      by_cases e : s < n
      · have := h s e; omega
      · rw [gi, List.getD_eq_getElem?_getD, List.getElem?_eq_none (by omega)] at h3
        simp at h3
        omega
    exact ih2 hk (by rw [hj.len.1]; exact ho) (ih1 hjn ho h) x hx

theorem drop_at {xs : List Int} {i : Nat} (h : i < xs.length) : xs.drop i = gi xs i :: xs.drop (i + 1) := by
  rw [List.drop_eq_getElem_cons h, gi_of (List.getElem?_eq_getElem h)]

/-- A search of list k goes on as one of its rest from i on, with what has been laid till then. -/
def Goes (L : List (List Int)) (u : List Bool) (k i : Nat) (o : List Int) (t : List Bool) (o1 : List Int) (t1 : List Bool) : Prop := ∀ b o' t', Aug L u k ((gr L k).drop i) o1 t1 b o' t' → Aug L u k (gr L k) o t b o' t'

set_option maxRecDepth 100000 in
set_option maxHeartbeats 3200000 in
theorem augment_any (w0 : World) (a : Option Addr) (n c : Nat) (L : List (List Int)) (au : Option Addr) (cu : Nat) (u : List Bool) (hx : RdR w0 a n c L) (hu : RdB w0 au n cu u) (hB : Bel L n) (hn : n ≤ 1000) (bo co bt ct : Nat) (hbt : bo ≠ bt) (m : Nat) :
    ∀ (t : List Bool) (o : List Int) (k : Nat) (w : World), uns t ≤ m → k < n → (∀ s, s < n → gi o s < n) → OwnN w w0.heap.size (some ⟨bo, 0, none⟩) n co o → OwnB w w0.heap.size (some ⟨bt, 0, none⟩) n ct t → Ext w0 w →
    Calls Try.prog 93 #[.slice a n c, .int .i64 k, .slice au n cu, .slice (some ⟨bo, 0, none⟩) n co, .slice (some ⟨bt, 0, none⟩) n ct] w fun e w' => ∃ b o' t', e = .returned (.bool b) ∧ Hid (Aug L u k (gr L k) o t b o' t') ∧
      OwnN w' w0.heap.size (some ⟨bo, 0, none⟩) n co o' ∧ OwnB w' w0.heap.size (some ⟨bt, 0, none⟩) n ct t' ∧ Ext w0 w' := by
  induction m using Nat.strongRecOn with
  | _ m IH =>
  intro t o k w hm hk hv hO hT hE
  have HV := Lib.hid hv
  have HM := Lib.hid hm
  have hlo := hO.len
  have hlt := hT.len
  have HLO := Lib.hid hlo
  have HLT := Lib.hid hlt
  have hb1 := hx.le
  have hb2 := hx.max
  have hb3 := hu.le
  have hb4 := hu.max
  have hb5 := hO.le
  have hb6 := hT.le
  have hbo := (hO.lt (g := bo) rfl).1
  have hbt1 := (hT.lt (g := bt) rfl).1
  have hzk : (k : Int) < (n : Int) := by omega
  obtain ⟨bL, oL, ai, ni, ci, ha, hc0, hrow0⟩ := hx.gr hk
  subst ha
  have hbi1 := hrow0.le
  have hbi2 := hrow0.max
  have Hni := Lib.hid hrow0.len
  have hc := hE.cell hc0
  clear hv hm hlo hlt
  go_enter Try.func93, Try.ntmps93
  go_wp2
  clear hc
  go_loopg [18] ni (fun gh ix wr => ∃ (i : Nat) (o1 : List Int) (t1 : List Bool), i ≤ ni ∧ gh = ni - i ∧ ix = .int .i64 i ∧ OwnN wr w0.heap.size (some ⟨bo, 0, none⟩) n co o1 ∧ OwnB wr w0.heap.size (some ⟨bt, 0, none⟩) n ct t1 ∧ Ext w0 wr ∧
    Hid (Goes L u k i o t o1 t1) ∧ Hid (uns t1 ≤ m) ∧ Hid (∀ s, s < n → gi o1 s < n))
  case atStart => exact ⟨0, o, t, Nat.zero_le _, rfl, rfl, hO, hT, hE, Lib.hid (fun b o' t' h => by rw [List.drop_zero] at h; exact h), HM, HV⟩
  case round =>
    clear hO hT hE
    obtain ⟨i, o1, t1, hi, rfl, rfl, hO, hT, hE, HG, HU, HV1⟩ := hrel
    by_cases hlt : i < ni
    · have hzi : (i : Int) < (ni : Int) := by omega
      have HI : Hid (i < (gr L k).length) := Lib.hid (by rw [← Hni.out]; exact hlt)
      obtain ⟨s, hs, hsn⟩ := hB k _ (gi_mem HI.out)
      have HD : Hid ((gr L k).drop i = (s : Int) :: (gr L k).drop (i + 1)) := Lib.hid (by rw [drop_at HI.out, hs])
      obtain ⟨bi, oi, hai, hci0⟩ := hrow0.gi hlt
      subst hai
      rw [hs] at hci0
      have hci := hE.cell hci0
      have HCI := Lib.hid hci0
      have hzs : (s : Int) < (n : Int) := by omega
      obtain ⟨bu, ou, hau, hcu0⟩ := hu.sn hsn
      subst hau
      have hcu := hE.cell hcu0
      have HCU := Lib.hid hcu0
      obtain ⟨hct, hft⟩ := hT.snB hsn
      obtain ⟨hco, hfo⟩ := hO.giN hsn
      clear hs hci0 hcu0
      obtain ⟨v1, hv1⟩ : ∃ v, sn u s = v := ⟨_, rfl⟩
      have H1 := Lib.hid hv1
      rw [hv1] at hcu
      clear hv1
      cases v1
      · obtain ⟨v2, hv2⟩ : ∃ v, sn t1 s = v := ⟨_, rfl⟩
        have H2 := Lib.hid hv2
        rw [hv2] at hct
        clear hv2
        cases v2
        · obtain ⟨v3, hv3⟩ : ∃ v, gi o1 s = v := ⟨_, rfl⟩
          have H3 := Lib.hid hv3
          have hv3n := HV1.out s hsn
          rw [hv3] at hco hv3n
          clear hv3
          have hT2 := hT.set (k := s) rfl true
          have hO2 := hO.setOther (p := ⟨bt, s, none⟩) (fun e => hbt (by have := blk_eq e; exact this)) (.bool true)
          have hE2 := hE.setCell (p := ⟨bt, s, none⟩) hbt1 (.bool true)
          have HT2 := Lib.hid hT2
          have HO2 := Lib.hid hO2
          have HE2 := Lib.hid hE2
          have HUL := Lib.hid (uns_set (s := t1) (y := s) (by rw [← hT.len]; exact hsn) H2.out)
          have Hlo := Lib.hid hO.len
          have Hlt := Lib.hid hT.len
          by_cases hneg : v3 < 0
          · have hd : decide (v3 < 0) = true := decide_eq_true hneg
            obtain ⟨-, hfo2⟩ := hO2.giN hsn
            have Hneg := Lib.hid hneg
            clear hO hE hT hT2 hO2 hE2 hneg hv3n
            go_wp2
            go_ret
            exact ⟨true, _, _, rfl, Lib.hid (HG.out _ _ _ (by rw [HD.out]; exact .free H1.out H2.out (by rw [H3.out]; exact Hneg.out))), HO2.out.set (k := s) rfl k, HT2.out.setOther (p := ⟨bo, s, none⟩) (fun e => hbt (by have := blk_eq e; exact this.symm)) _, HE2.out.setCell (p := ⟨bo, s, none⟩) hbo _⟩
          · obtain ⟨j, rfl⟩ := Int.eq_ofNat_of_zero_le (show 0 ≤ v3 by omega)
            have hd : decide ((j : Int) < 0) = false := decide_eq_false hneg
            have hjn : j < n := by omega
            clear hneg hv3n hO hE hT hT2 hO2 hE2
            go_wp2_with fail
            refine (IH (uns (t1.set s true)) (by have := HUL.out; have := HU.out; omega) (t1.set s true) o1 j _ (Nat.le_refl _) hjn HV1.out HO2.out HT2.out HE2.out).mono ?_
            rintro e w2 ⟨b, o2, t2, rfl, HA, hO3, hT3, hE3⟩
            have HV2 := Lib.hid (HA.out.vals hjn Hlo.out.symm HV1.out)
            cases b
            · have HG2 : Hid (Goes L u k (i + 1) o t o2 t2) := Lib.hid (fun b o' t' h => HG.out _ _ _ (by rw [HD.out]; exact .back H1.out H2.out H3.out HA.out h))
              have HU2 : Hid (uns t2 ≤ m) := Lib.hid (by have := HA.out.len.2.2.1; have := HUL.out; have := HU.out; omega)
              clear hci hcu hct hft hco hfo
              go_wp2
              go_roundg (ni - (i + 1))
              case measure => go_light; omega
              case rel => go_light; exact ⟨i + 1, o2, t2, by omega, rfl, by go_num, hO3, hT3, hE3, HG2, HU2, HV2⟩
            · obtain ⟨hco3, hfo3⟩ := hO3.giN hsn
              have hG2 : Aug L u k (gr L k) o t true (o2.set s k) t2 := HG.out _ _ _ (by rw [HD.out]; exact .move H1.out H2.out H3.out HA.out)
              have HG2 := Lib.hid hG2
              clear hci hcu hct hft hco hfo hG2
              go_wp2
              go_ret
              exact ⟨true, _, _, rfl, HG2, hO3.set (k := s) rfl k, hT3.setOther (p := ⟨bo, s, none⟩) (fun e => hbt (by have := blk_eq e; exact this.symm)) _, hE3.setCell (p := ⟨bo, s, none⟩) hbo _⟩
        · have HG2 : Hid (Goes L u k (i + 1) o t o1 t1) := Lib.hid (fun b o' t' h => HG.out _ _ _ (by rw [HD.out]; exact .skip (.inr H2.out) h))
          clear hft hfo hco
          go_wp2
          go_roundg (ni - (i + 1))
          case measure => go_light; omega
          case rel => go_light; exact ⟨i + 1, o1, t1, by omega, rfl, by go_num, hO, hT, hE, HG2, HU, HV1⟩
      · have HG2 : Hid (Goes L u k (i + 1) o t o1 t1) := Lib.hid (fun b o' t' h => HG.out _ _ _ (by rw [HD.out]; exact .skip (.inl H1.out) h))
        clear hft hfo hco hct
        go_wp2
        go_roundg (ni - (i + 1))
        case measure => go_light; omega
        case rel => go_light; exact ⟨i + 1, o1, t1, by omega, rfl, by go_num, hO, hT, hE, HG2, HU, HV1⟩
    · have hzi : ¬ (i : Int) < (ni : Int) := by omega
      have HG2 : Hid (Aug L u k (gr L k) o t false o1 t1) := Lib.hid (HG.out _ _ _ (by rw [List.drop_eq_nil_of_le (by have := Hni.out; omega)]; exact .nil _ _ _))
      go_wp2
      go_ret
      first | exact ⟨false, _, _, rfl, HG2, hO, hT, hE⟩ | exact .inl ⟨rfl, _, _, HG2, hO, hT, hE⟩

theorem sn_not {u : List Bool} {s : Nat} (h : s < u.length) : sn (u.map (fun b => !b)) s = !sn u s := by
  rw [sn_of (b := !u[s]) (by simp [h]), sn_of (List.getElem?_eq_getElem h)]

set_option maxRecDepth 100000 in
set_option maxHeartbeats 3200000 in
theorem l09Augment_any (w0 : World) (a : Option Addr) (n c : Nat) (L : List (List Int)) (au : Option Addr) (cu : Nat) (u : List Bool) (hx : RdR w0 a n c L) (hul : u.length = n) (hu : RdB w0 au n cu (u.map (fun b => !b))) (hB : Bel L n) (hn : n ≤ 1000) (bo co bt ct : Nat) (hbt : bo ≠ bt) (m : Nat) :
    ∀ (t : List Bool) (o : List Int) (k : Nat) (w : World), uns t ≤ m → k < n → (∀ s, s < n → gi o s < n) → OwnN w w0.heap.size (some ⟨bo, 0, none⟩) n co o → OwnB w w0.heap.size (some ⟨bt, 0, none⟩) n ct t → Ext w0 w →
    Calls Try.prog 90 #[.slice a n c, .int .i64 k, .slice au n cu, .slice (some ⟨bo, 0, none⟩) n co, .slice (some ⟨bt, 0, none⟩) n ct] w fun e w' => ∃ b o' t', e = .returned (.bool b) ∧ Hid (Aug L u k (gr L k) o t b o' t') ∧
      OwnN w' w0.heap.size (some ⟨bo, 0, none⟩) n co o' ∧ OwnB w' w0.heap.size (some ⟨bt, 0, none⟩) n ct t' ∧ Ext w0 w' := by
  induction m using Nat.strongRecOn with
  | _ m IH =>
  intro t o k w hm hk hv hO hT hE
  have HV := Lib.hid hv
  have HM := Lib.hid hm
  have hlo := hO.len
  have hlt := hT.len
  have HLO := Lib.hid hlo
  have HLT := Lib.hid hlt
  have hb1 := hx.le
  have hb2 := hx.max
  have hb3 := hu.le
  have hb4 := hu.max
  have hb5 := hO.le
  have hb6 := hT.le
  have hbo := (hO.lt (g := bo) rfl).1
  have hbt1 := (hT.lt (g := bt) rfl).1
  have hzk : (k : Int) < (n : Int) := by omega
  obtain ⟨bL, oL, ai, ni, ci, ha, hc0, hrow0⟩ := hx.gr hk
  subst ha
  have hbi1 := hrow0.le
  have hbi2 := hrow0.max
  have Hni := Lib.hid hrow0.len
  have hc := hE.cell hc0
  clear hv hm hlo hlt
  go_enter Try.func90, Try.ntmps90
  go_wp2
  clear hc
  go_loopg [11] ni (fun gh ix wr => ∃ (i : Nat) (o1 : List Int) (t1 : List Bool), i ≤ ni ∧ gh = ni - i ∧ ix = .int .i64 i ∧ OwnN wr w0.heap.size (some ⟨bo, 0, none⟩) n co o1 ∧ OwnB wr w0.heap.size (some ⟨bt, 0, none⟩) n ct t1 ∧ Ext w0 wr ∧
    Hid (Goes L u k i o t o1 t1) ∧ Hid (uns t1 ≤ m) ∧ Hid (∀ s, s < n → gi o1 s < n))
  case atStart => exact ⟨0, o, t, Nat.zero_le _, rfl, rfl, hO, hT, hE, Lib.hid (fun b o' t' h => by rw [List.drop_zero] at h; exact h), HM, HV⟩
  case round =>
    clear hO hT hE
    obtain ⟨i, o1, t1, hi, rfl, rfl, hO, hT, hE, HG, HU, HV1⟩ := hrel
    by_cases hlt : i < ni
    · have hzi : (i : Int) < (ni : Int) := by omega
      have HI : Hid (i < (gr L k).length) := Lib.hid (by rw [← Hni.out]; exact hlt)
      obtain ⟨s, hs, hsn⟩ := hB k _ (gi_mem HI.out)
      have HD : Hid ((gr L k).drop i = (s : Int) :: (gr L k).drop (i + 1)) := Lib.hid (by rw [drop_at HI.out, hs])
      obtain ⟨bi, oi, hai, hci0⟩ := hrow0.gi hlt
      subst hai
      rw [hs] at hci0
      have hci := hE.cell hci0
      have HCI := Lib.hid hci0
      have hzs : (s : Int) < (n : Int) := by omega
      obtain ⟨bu, ou, hau, hcu0⟩ := hu.sn hsn
      subst hau
      have hcu := hE.cell hcu0
      have HCU := Lib.hid hcu0
      obtain ⟨hct, hft⟩ := hT.snB hsn
      obtain ⟨hco, hfo⟩ := hO.giN hsn
      have hcl := hE.cell hc0
      rw [sn_not (by rw [hul]; exact hsn)] at hcu
      clear hs hci0 hcu0
      obtain ⟨v1, hv1⟩ : ∃ v, sn u s = v := ⟨_, rfl⟩
      have H1 := Lib.hid hv1
      rw [hv1] at hcu
      clear hv1
      cases v1
      · obtain ⟨v2, hv2⟩ : ∃ v, sn t1 s = v := ⟨_, rfl⟩
        have H2 := Lib.hid hv2
        rw [hv2] at hct
        clear hv2
        cases v2
        · obtain ⟨v3, hv3⟩ : ∃ v, gi o1 s = v := ⟨_, rfl⟩
          have H3 := Lib.hid hv3
          have hv3n := HV1.out s hsn
          rw [hv3] at hco hv3n
          clear hv3
          have hT2 := hT.set (k := s) rfl true
          have hO2 := hO.setOther (p := ⟨bt, s, none⟩) (fun e => hbt (by have := blk_eq e; exact this)) (.bool true)
          have hE2 := hE.setCell (p := ⟨bt, s, none⟩) hbt1 (.bool true)
          have HT2 := Lib.hid hT2
          have HO2 := Lib.hid hO2
          have HE2 := Lib.hid hE2
          have HUL := Lib.hid (uns_set (s := t1) (y := s) (by rw [← hT.len]; exact hsn) H2.out)
          have Hlo := Lib.hid hO.len
          have Hlt := Lib.hid hT.len
          by_cases hneg : v3 < 0
          · have hd : decide (v3 < 0) = true := decide_eq_true hneg
            obtain ⟨-, hfo2⟩ := hO2.giN hsn
            have Hneg := Lib.hid hneg
            clear hO hE hT hT2 hO2 hE2 hneg hv3n
            go_wp2
            go_ret
            exact ⟨true, _, _, rfl, Lib.hid (HG.out _ _ _ (by rw [HD.out]; exact .free H1.out H2.out (by rw [H3.out]; exact Hneg.out))), HO2.out.set (k := s) rfl k, HT2.out.setOther (p := ⟨bo, s, none⟩) (fun e => hbt (by have := blk_eq e; exact this.symm)) _, HE2.out.setCell (p := ⟨bo, s, none⟩) hbo _⟩
          · obtain ⟨j, rfl⟩ := Int.eq_ofNat_of_zero_le (show 0 ≤ v3 by omega)
            have hd : decide ((j : Int) < 0) = false := decide_eq_false hneg
            have hjn : j < n := by omega
            clear hneg hv3n hO hE hT hT2 hO2 hE2
            go_wp2_with fail
            refine (IH (uns (t1.set s true)) (by have := HUL.out; have := HU.out; omega) (t1.set s true) o1 j _ (Nat.le_refl _) hjn HV1.out HO2.out HT2.out HE2.out).mono ?_
            rintro e w2 ⟨b, o2, t2, rfl, HA, hO3, hT3, hE3⟩
            have HV2 := Lib.hid (HA.out.vals hjn Hlo.out.symm HV1.out)
            cases b
            · have HG2 : Hid (Goes L u k (i + 1) o t o2 t2) := Lib.hid (fun b o' t' h => HG.out _ _ _ (by rw [HD.out]; exact .back H1.out H2.out H3.out HA.out h))
              have HU2 : Hid (uns t2 ≤ m) := Lib.hid (by have := HA.out.len.2.2.1; have := HUL.out; have := HU.out; omega)
              clear hci hcu hct hft hco hfo
              go_wp2
              go_roundg (ni - (i + 1))
              case measure => go_light; omega
              case rel => go_light; exact ⟨i + 1, o2, t2, by omega, rfl, by go_num, hO3, hT3, hE3, HG2, HU2, HV2⟩
            · obtain ⟨hco3, hfo3⟩ := hO3.giN hsn
              have hG2 : Aug L u k (gr L k) o t true (o2.set s k) t2 := HG.out _ _ _ (by rw [HD.out]; exact .move H1.out H2.out H3.out HA.out)
              have HG2 := Lib.hid hG2
              clear hci hcu hct hft hco hfo hG2
              go_wp2
              go_ret
              exact ⟨true, _, _, rfl, HG2, hO3.set (k := s) rfl k, hT3.setOther (p := ⟨bo, s, none⟩) (fun e => hbt (by have := blk_eq e; exact this.symm)) _, hE3.setCell (p := ⟨bo, s, none⟩) hbo _⟩
        · have HG2 : Hid (Goes L u k (i + 1) o t o1 t1) := Lib.hid (fun b o' t' h => HG.out _ _ _ (by rw [HD.out]; exact .skip (.inr H2.out) h))
          clear hft hfo hco
          go_wp2
          go_roundg (ni - (i + 1))
          case measure => go_light; omega
          case rel => go_light; exact ⟨i + 1, o1, t1, by omega, rfl, by go_num, hO, hT, hE, HG2, HU, HV1⟩
      · have HG2 : Hid (Goes L u k (i + 1) o t o1 t1) := Lib.hid (fun b o' t' h => HG.out _ _ _ (by rw [HD.out]; exact .skip (.inl H1.out) h))
        clear hft hfo hco hct
        go_wp2
        go_roundg (ni - (i + 1))
        case measure => go_light; omega
        case rel => go_light; exact ⟨i + 1, o1, t1, by omega, rfl, by go_num, hO, hT, hE, HG2, HU, HV1⟩
    · have hzi : ¬ (i : Int) < (ni : Int) := by omega
      have HG2 : Hid (Aug L u k (gr L k) o t false o1 t1) := Lib.hid (HG.out _ _ _ (by rw [List.drop_eq_nil_of_le (by have := Hni.out; omega)]; exact .nil _ _ _))
      have hcl := hE.cell hc0
      go_wp2
      go_ret
      first | exact ⟨false, _, _, rfl, HG2, hO, hT, hE⟩ | exact .inl ⟨rfl, _, _, HG2, hO, hT, hE⟩
end Go.Proofs.Ytgggbicmmijlnaa
