/- FieldSquare of the reference, whole. Conditions: none. -/
import Derived.Test.YtgggbicmmijlnaaFlds5
import Derived.Test.YtgggbicmmijlnaaUnitP
namespace Go.Proofs.Ytgggbicmmijlnaa
open Go.RowKit

def FOk (z : Int) : Prop := z ≤ 10 ∧ (ppz z).1 ≠ 0
theorem pp_one : pp 1 = (0, 0) := by decide +kernel
theorem fok_sp {z : Int} (hz : z ≤ 10) : 0 < (sp z.toNat).1 ↔ (ppz z).1 ≠ 0 := by
  by_cases h2 : 2 ≤ z
  · obtain ⟨q, rfl⟩ := Int.eq_ofNat_of_zero_le (show 0 ≤ z by omega)
    rw [Int.toNat_natCast, sp_all q (by omega), ppz, if_pos (by omega), Int.toNat_natCast]
    omega
  · have e1 : sp z.toNat = (0, 0) := by rw [sp, if_neg (by omega)]
    have e2 : ppz z = (0, 0) := by
      by_cases h1 : z = 1
      · subst h1
        rw [ppz, if_pos (by omega)]; exact pp_one
      · rw [ppz, if_neg (by omega)]
    rw [e1, e2]
    exact ⟨fun h => absurd h (Nat.lt_irrefl _), fun h => absurd rfl h⟩
theorem FOk.nat {z : Int} (h : FOk z) : ∃ q : Nat, z = q ∧ 2 ≤ q ∧ q ≤ 10 ∧ ppz z = pp q ∧ sp q = pp q ∧ (pp q).1 ≠ 0 := by
  obtain ⟨q, rfl, h1, h2⟩ := ppz_nat h.2
  have h10 : q ≤ 10 := by have := h.1; omega
  have hq2 : 2 ≤ q := by
    apply Classical.byContradiction
    intro hn
    have : q = 1 := by omega
    subst this
    have := h.2
    rw [h2, pp_one] at this
    exact this rfl
  exact ⟨q, rfl, hq2, h10, h2, sp_all q (by omega), by rw [← h2]; exact h.2⟩

set_option maxRecDepth 100000 in
set_option maxHeartbeats 1600000 in
theorem l07Field_any (z : Int) (w : World) : Calls Try.prog 46 #[.int .i64 z] w fun e w' => e = .returned (.bool (pb (FOk z))) ∧ w = w' := by
  go_enter Try.func46, Try.ntmps46
  go_wp2_with fail
  refine (l03Split_any z w).mono ?_
  rintro e w2 ⟨rfl, rfl⟩
  obtain ⟨P, hP⟩ : ∃ P, (sp z.toNat).1 = P := ⟨_, rfl⟩
  have HP := Lib.hid hP
  rw [hP]
  clear hP
  by_cases h10 : z ≤ 10
  · have hb : decide (z ≤ 10) = true := decide_eq_true h10
    have H10 := Lib.hid h10
    by_cases hp0 : 0 < P
    · have hpb : decide ((0 : Int) < (P : Int)) = true := decide_eq_true (by omega)
      have hF := Lib.hid (show FOk z from ⟨h10, (fok_sp h10).1 (by rw [HP.out]; exact hp0)⟩)
      go_wp2
      go_ret
      exact ⟨ret_pb hF.out, rfl⟩
    · have hpb : decide ((0 : Int) < (P : Int)) = false := decide_eq_false (by omega)
      have hF := Lib.hid (show ¬ FOk z from fun h => hp0 (by rw [← HP.out]; exact (fok_sp h10).2 h.2))
      go_wp2
      go_ret
      exact ⟨ret_npb hF.out, rfl⟩
  · have hb : decide (z ≤ 10) = false := decide_eq_false h10
    have hF := Lib.hid (show ¬ FOk z from fun h => h10 h.1)
    clear h10
    go_wp2
    go_ret
    exact ⟨ret_npb hF.out, rfl⟩

theorem l07Square_fs (q m : Nat) (w : World) (h2 : 2 ≤ q) (h10 : q ≤ 10) (hs : sp q = pp q) (hp : (pp q).1 ≠ 0) (hm : m < q) :
    Calls Try.prog 48 #[.int .i64 q, .int .i64 m] w (RetR w (fs q m)) := by
  obtain ⟨u2, u1, upk, uN⟩ := pp_use (show q < 65 by omega) hp
  have hpr := prd_all q (by omega) m (by omega)
  have e : (sq q fun x y => cmb (prd m x (pp q).1 (pp q).2 (2 * (pp q).2 - 1)).toNat y (pp q).1 (pp q).2) = fs q m := by
    rw [fs, sq_mat, sq_mat]
    exact mat_congr fun x y hx _ => by rw [fsg, (hpr x hx u2).1]
  rw [← e]
  refine l07Square_any q m (pp q).1 (pp q).2 w hs u2 u1 upk uN h10 hm (fun x hx => ?_)
  obtain ⟨k1, k2, k3⟩ := hpr x hx u2
  obtain ⟨P, hP⟩ := Int.eq_ofNat_of_zero_le k2
  exact ⟨P, by rw [← k1]; exact hP, by omega⟩

set_option maxRecDepth 100000 in
set_option maxHeartbeats 1600000 in
theorem specFs (z m : Int) (w : World) (lo : -9223372036854775808 ≤ z) (hi : z ≤ 9223372036854775807) (lom : -9223372036854775808 ≤ m) (him : m ≤ 9223372036854775807) :
    Calls Try.prog 20 #[.int .i64 z, .int .i64 m] w (RetRC w (fsM z m) (fsC z m)) := by
  go_enter Try.func20, Try.ntmps20
  go_wp2_with fail
  refine (l07Field_any z w).mono ?_
  rintro e w2 ⟨rfl, rfl⟩
  rcases pbc (FOk z) with ⟨hb, Hb⟩ | ⟨hb, Hb⟩
  · rw [hb]
    clear hb
    obtain ⟨q, rfl, hq2, hq10, hpz, hsp, hp0⟩ := Hb.out.nat
    have HSP := Lib.hid hsp
    have HP0 := Lib.hid hp0
    clear hpz hsp hp0
    by_cases hm : 1 ≤ m ∧ m ≤ (q : Int) - 1
    · have Hm := Lib.hid hm
      obtain ⟨m', rfl⟩ := Int.eq_ofNat_of_zero_le (show 0 ≤ m by omega)
      have hC := Lib.hid (fs_yes (show FsOk q m' from ⟨Hb.out, hm⟩))
      clear hm
      go_wp2_with fail
      refine (l00In_any _ _ _ true (decide_eq_true Hm.out) _).mono ?_
      rintro e w4 ⟨rfl, rfl⟩
      go_wp2_with fail
      refine (l07Square_fs q m' _ hq2 hq10 HSP.out HP0.out (by have := Hm.out; omega)).mono ?_
      rintro e w5 ⟨a5, n5, c5, rs, rfl, hO5, hE5⟩
      go_wp2
      go_ret2
      exact RetRC.mk_ hO5 (Nat.le_refl _) hC.out.1 hC.out.2 hE5
    · have Hm := Lib.hid hm
      have hC := Lib.hid (fs_no (show ¬ FsOk q m from fun h => hm h.2))
      clear hm
      go_wp2_with fail
      refine (l00In_any _ _ _ false (decide_eq_false Hm.out) _).mono ?_
      rintro e w4 ⟨rfl, rfl⟩
      go_wp2
      go_ret2
      exact RetRC.mk_ (OwnR.nil_ _ _) (Nat.le_refl _) hC.out.1 hC.out.2 (Ext.refl _)
  · rw [hb]
    have hC := Lib.hid (fs_no (show ¬ FsOk z m from fun h => Hb.out h.1))
    clear hb
    go_wp2
    go_ret2
    exact RetRC.mk_ (OwnR.nil_ _ _) (Nat.le_refl _) hC.out.1 hC.out.2 (Ext.refl _)
end Go.Proofs.Ytgggbicmmijlnaa
