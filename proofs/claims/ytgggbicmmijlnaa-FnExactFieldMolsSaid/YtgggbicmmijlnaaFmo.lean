/- FieldMols of both. Conditions: none. -/
import Derived.Test.YtgggbicmmijlnaaFlds6
import Derived.Test.YtgggbicmmijlnaaOwnM
import Derived.Test.YtgggbicmmijlnaaMol3
namespace Go.Proofs.Ytgggbicmmijlnaa
open Go.RowKit

noncomputable def fmL (q k : Nat) : List (List (List Int)) := (List.range k).map fun i => fs q (i + 1)
theorem fmL_succ (q k : Nat) : fmL q (k + 1) = fmL q k ++ [fs q (k + 1)] := by rw [fmL, List.range_succ, List.map_append]; rfl
noncomputable def fmM (z : Int) : List (List (List Int)) := if pb (FOk z) then fmL z.toNat (z.toNat - 1) else []
noncomputable def fmC (z : Int) : Int := if pb (FOk z) then 0 else 2
theorem fm_no {z : Int} (h : ¬ FOk z) : [] = fmM z ∧ 2 = fmC z := by rw [fmM, fmC, pb_false h]; exact ⟨rfl, rfl⟩
theorem fm_yes {q : Nat} (h : FOk q) : fmL q (q - 1) = fmM q ∧ 0 = fmC q := by rw [fmM, fmC, pb_true h]; exact ⟨rfl, rfl⟩
theorem fs_tot {q m : Nat} (hq : q ≤ 10) : tot (fs q m) ≤ 100 := by
  rw [fs, sq_mat, tot_rect (mat_rect _ _ _)]
  exact Nat.mul_le_mul hq hq
theorem fmM_tt (z : Int) : tt (fmM z) ≤ 1048576 := by
  rw [fmM]
  split
  · rename_i h0
    have h := pb_iff.1 h0
    have hz : z.toNat ≤ 10 := by have := h.1; omega
    have key : ∀ k, tt (fmL z.toNat k) ≤ 200 * k := by
      intro k
      induction k with
      | zero => simp [fmL, tt]
      | succ k ih =>
        rw [fmL_succ, tt_append]
        have e := fs_tot (m := k + 1) hz
        have e2 : (fs z.toNat (k + 1)).length ≤ 10 := by rw [fs, sq_len]; exact hz
        simp only [tt]
        omega
    have := key (z.toNat - 1)
    omega
  · simp [tt]
theorem FOk.fsOk {q m : Nat} (h : FOk q) (h1 : 1 ≤ m) (h2 : m < q) : FsOk q m := ⟨h, by omega, by omega⟩
theorem fsM_of {q m : Nat} (h : FOk q) (h1 : 1 ≤ m) (h2 : m < q) : fsM q m = fs q m ∧ fsC q m = 0 := by
  have := fs_yes (h.fsOk h1 h2)
  exact ⟨this.1.symm, this.2.symm⟩

set_option maxRecDepth 100000 in
set_option maxHeartbeats 3200000 in
theorem implFm (z : Int) (w : World) (lo : -9223372036854775808 ≤ z) (hi : z ≤ 9223372036854775807) :
    Calls Try.prog 23 #[.int .i64 z] w (RetMC w (fmM z) (fmC z)) := by
  go_enter Try.func23, Try.ntmps23
  go_wp2_with fail
  refine (implFs z 1 w lo hi (by omega) (by omega)).mono ?_
  rintro e w2 ⟨a2, n2, c2, rs2, rfl, hO2, hE2⟩
  clear hO2
  rcases pbc (FOk z) with ⟨hb, Hb⟩ | ⟨hb, Hb⟩
  · clear hb
    obtain ⟨q, rfl, hq2, hq10, -, -, -⟩ := Hb.out.nat
    have e0 := (fsM_of (m := 1) Hb.out (by omega) (by omega)).2
    have e0' : fsC q 1 = 0 := e0
    rw [e0']
    have hC := Lib.hid (fm_yes Hb.out)
    clear e0 e0'
    go_wp2
    go_loopg [6, 7] (1 * (q - 1)) (fun gh lv mv wr => ∃ (k : Nat) (ad : Option Addr) (d : Nat) (rs : List RowM), k ≤ q - 1 ∧ gh = 1 * (q - 1 - k) ∧ lv = .slice ad k d ∧ mv = .int .i64 ((k : Int) + 1) ∧ OwnM wr w2.heap.size ad k d (fmL q k) rs ∧ Ext w2 wr)
    case atStart => exact ⟨0, none, 0, [], Nat.zero_le _, rfl, rfl, rfl, OwnM.nil_ _ _, Ext.refl _⟩
    case round =>
      obtain ⟨k, ad, d, rs, hk, rfl, rfl, rfl, hO, hE⟩ := hrel
      by_cases hlt : k + 1 < q
      · have hzk : (k : Int) + 1 < (q : Int) := by omega
        obtain ⟨HM1, HM2⟩ := fsM_of (m := k + 1) Hb.out (by omega) hlt
        have H1 := Lib.hid HM1
        clear HM1 HM2
        go_wp2_with fail
        refine (implFs q ((k : Int) + 1) _ lo hi (by omega) (by omega)).mono ?_
        rintro e w5 ⟨a5, n5, c5, rs5, rfl, hO5, hE5⟩
        have e1 : fsM (q : Int) ((k : Int) + 1) = fs q (k + 1) := H1.out
        rw [e1] at hO5
        have hO6 := hO.ext hE5
        have hE6 := hE.trans hE5
        have hsz := hE6.size
        have hR5 := hO5.base (B' := w2.heap.size) hE.size
        have hap : ∀ g, OwnR.fp a5 rs5 g → ¬ OwnM.fp ad rs g := fun g hg hf => by have h1 := (hO.lt hf).2; have h2 := (hO5.lt hg).1; omega
        clear hO hE hE5 hO5 e1
        go_wp2_with (at_builtin; refine app_M rfl _ _ rfl hO6 hsz hR5 hap rfl (by omega) rfl rfl ?_; intro ad' d' w8 hrows honly hmv)
        rw [← fmL_succ] at hrows
        have hE8 := hE6.app hO6.top honly (Nat.le_refl _)
        clear hO6 hE6 hsz hR5 hap honly hmv
        go_wp2
        go_roundg (1 * (q - 1 - (k + 1)))
        case measure => go_light; omega
        case rel => go_light; exact ⟨k + 1, ad', d', _, by omega, rfl, rfl, by go_num, hrows, hE8⟩
      · have hzk : ¬ (k : Int) + 1 < (q : Int) := by omega
        obtain rfl : k = q - 1 := by omega
        go_wp2
        go_ret2
        exact RetMC.mk_ hO hE2.size hC.out.1 hC.out.2 (hE2.trans hE)
  · have e0 : fsC z 1 = 2 := (fs_no (show ¬ FsOk z 1 from fun h => Hb.out h.1)).2.symm
    rw [e0]
    have hC := Lib.hid (fm_no Hb.out)
    clear hb e0
    go_wp2
    go_ret2
    exact RetMC.mk_ (OwnM.nil_ _ _) (Nat.le_refl _) hC.out.1 hC.out.2 hE2

set_option maxRecDepth 100000 in
set_option maxHeartbeats 3200000 in
theorem l07Mols_any (q : Nat) (w : World) (hf : FOk q) : Calls Try.prog 55 #[.int .i64 q] w (RetM w (fmL q (q - 1))) := by
  obtain ⟨q', hqq, hq2, hq10, -, hsp, hp0⟩ := hf.nat
  obtain rfl : q = q' := by omega
  have HSP := Lib.hid hsp
  have HP0 := Lib.hid hp0
  clear hqq hsp hp0
  have H0 := OwnM.empty w
  go_enter Try.func55, Try.ntmps55
  go_wp2
  go_loopg [3, 4] (1 * (q - 1)) (fun gh lv mv wr => ∃ (k : Nat) (ad : Option Addr) (d : Nat) (rs : List RowM), k ≤ q - 1 ∧ gh = 1 * (q - 1 - k) ∧ lv = .slice ad k d ∧ mv = .int .i64 ((k : Int) + 1) ∧ OwnM wr w.heap.size ad k d (fmL q k) rs ∧ Ext w wr)
  case atStart => exact ⟨0, _, 0, [], Nat.zero_le _, rfl, rfl, rfl, H0, (Ext.refl _).alloc _⟩
  case round =>
    clear H0
    obtain ⟨k, ad, d, rs, hk, rfl, rfl, rfl, hO, hE⟩ := hrel
    by_cases hlt : k + 1 < q
    · have hzk : (k : Int) + 1 < (q : Int) := by omega
      go_wp2_with fail
      refine (l07Square_fs q (k + 1) _ hq2 hq10 HSP.out HP0.out hlt).mono ?_
      rintro e w5 ⟨a5, n5, c5, rs5, rfl, hO5, hE5⟩
      have hO6 := hO.ext hE5
      have hE6 := hE.trans hE5
      have hsz := hE6.size
      have hR5 := hO5.base (B' := w.heap.size) hE.size
      have hap : ∀ g, OwnR.fp a5 rs5 g → ¬ OwnM.fp ad rs g := fun g hg hf => by have h1 := (hO.lt hf).2; have h2 := (hO5.lt hg).1; omega
      clear hO hE hE5 hO5
      go_wp2_with (at_builtin; refine app_M rfl _ _ rfl hO6 hsz hR5 hap rfl (by omega) rfl rfl ?_; intro ad' d' w8 hrows honly hmv)
      rw [← fmL_succ] at hrows
      have hE8 := hE6.app hO6.top honly (Nat.le_refl _)
      clear hO6 hE6 hsz hR5 hap honly hmv
      go_wp2
      go_roundg (1 * (q - 1 - (k + 1)))
      case measure => go_light; omega
      case rel => go_light; exact ⟨k + 1, ad', d', _, by omega, rfl, rfl, by go_num, hrows, hE8⟩
    · have hzk : ¬ (k : Int) + 1 < (q : Int) := by omega
      obtain rfl : k = q - 1 := by omega
      go_wp2
      go_ret
      exact ⟨_, _, _, rs, rfl, hO, hE⟩

set_option maxHeartbeats 800000 in
theorem specFm (z : Int) (w : World) (lo : -9223372036854775808 ≤ z) (hi : z ≤ 9223372036854775807) :
    Calls Try.prog 22 #[.int .i64 z] w (RetMC w (fmM z) (fmC z)) := by
  go_enter Try.func22, Try.ntmps22
  go_wp2_with fail
  refine (l07Field_any z w).mono ?_
  rintro e w2 ⟨rfl, rfl⟩
  rcases pbc (FOk z) with ⟨hb, Hb⟩ | ⟨hb, Hb⟩
  · rw [hb]
    clear hb
    obtain ⟨q, rfl, -⟩ := Hb.out.nat
    have hC := Lib.hid (fm_yes Hb.out)
    go_wp2_with fail
    refine (l07Mols_any q _ Hb.out).mono ?_
    rintro e w5 ⟨a5, n5, c5, rs, rfl, hO5, hE5⟩
    go_wp2
    go_ret2
    exact RetMC.mk_ hO5 (Nat.le_refl _) hC.out.1 hC.out.2 hE5
  · rw [hb]
    have hC := Lib.hid (fm_no Hb.out)
    clear hb
    go_wp2
    go_ret2
    exact RetMC.mk_ (OwnM.nil_ _ _) (Nat.le_refl _) hC.out.1 hC.out.2 (Ext.refl _)
end Go.Proofs.Ytgggbicmmijlnaa
