/- FieldSquare of the program. Conditions: none. -/
import Derived.Test.YtgggbicmmijlnaaFld6
import Derived.Test.YtgggbicmmijlnaaFillE
import Derived.Test.YtgggbicmmijlnaaIsoP
namespace Go.Proofs.Ytgggbicmmijlnaa
open Go.RowKit

noncomputable def fsg (q m : Nat) (x y : Nat) : Int := cmb (prd m x (pp q).1 (pp q).2 (2 * (pp q).2)).toNat y (pp q).1 (pp q).2
noncomputable def fs (q m : Nat) : List (List Int) := sq q (fsg q m)
def FsOk (z m : Int) : Prop := (z ≤ 10 ∧ (ppz z).1 ≠ 0) ∧ 1 ≤ m ∧ m ≤ z - 1
noncomputable def fsM (z m : Int) : List (List Int) := if pb (FsOk z m) then fs z.toNat m.toNat else []
noncomputable def fsC (z m : Int) : Int := if pb (FsOk z m) then 0 else 2
theorem fs_no {z m : Int} (h : ¬ FsOk z m) : [] = fsM z m ∧ 2 = fsC z m := by rw [fsM, fsC, pb_false h]; exact ⟨rfl, rfl⟩
theorem fs_yes {q m : Nat} (h : FsOk q m) : fs q m = fsM q m ∧ 0 = fsC q m := by rw [fsM, fsC, pb_true h]; exact ⟨rfl, rfl⟩
theorem ppz_nat {z : Int} (h : (ppz z).1 ≠ 0) : ∃ q : Nat, z = q ∧ 1 ≤ q ∧ ppz z = pp q := by
  rw [ppz] at h
  split at h
  · rename_i h1
    obtain ⟨q, rfl⟩ := Int.eq_ofNat_of_zero_le (show 0 ≤ z by omega)
    exact ⟨q, rfl, by omega, by rw [ppz, if_pos h1, Int.toNat_natCast]⟩
  · exact absurd rfl h
theorem sq_len (n : Nat) (g : Nat → Nat → Int) : (sq n g).length = n := by simp [sq]
theorem fsM_tot (z m : Int) : tot (fsM z m) ≤ 1048576 := by
  rw [fsM]
  split
  · rename_i h0
    have h := pb_iff.1 h0
    have hr : Rect (fs z.toNat m.toNat) z.toNat z.toNat := ⟨sq_len _ _, fun x hx => by rw [fs, gr_of (v := (List.range z.toNat).map fun y => fsg z.toNat m.toNat x y) (by simp [sq, hx])]; simp⟩
    rw [tot_rect hr]
    have h10 : z.toNat ≤ 10 := by have := h.1.1; omega
    exact Nat.le_trans (Nat.mul_le_mul h10 h10) (by decide)
  · simp [tot]
theorem pp_use {q : Nat} (hq : q < 65) (h : (pp q).1 ≠ 0) : 2 ≤ (pp q).1 ∧ 1 ≤ (pp q).2 ∧ (pp q).1 ^ (pp q).2 = q ∧ leastN (pp q).1 (pp q).2 < 64 := by
  rcases pp_all q hq with e | e
  · exact absurd e.1 h
  · exact e
theorem pp_le {p k q : Nat} (hp : 2 ≤ p) (hk : 1 ≤ k) (h : p ^ k = q) : p ≤ q ∧ k ≤ q := by
  have h1 : k < 2 ^ k := Nat.lt_two_pow_self
  have h2 : 2 ^ k ≤ p ^ k := Nat.pow_le_pow_left hp k
  have h3 : p ^ 1 ≤ p ^ k := Nat.pow_le_pow_right (by omega) hk
  rw [Nat.pow_one] at h3
  omega

set_option maxRecDepth 100000 in
set_option maxHeartbeats 3200000 in
theorem fsq_gives (b6 b3 p k q m : Nat) (a : Option Addr) (n c : Nat) (w : World) (hx : RdI w a n c (fpoly p k)) (hp2 : 2 ≤ p) (hk1 : 1 ≤ k) (hpq : p ^ k = q) (hq : q ≤ 10) (hm : m < q)
    (hP : ∀ x, x < q → ∃ P : Nat, prd m x p k (2 * k) = P ∧ P < q) (c0 : w.cell? ⟨b6, 0, none⟩ = some (.int .i64 p)) (c1 : w.cell? ⟨b6, 1, none⟩ = some (.int .i64 k)) (c2 : w.cell? ⟨b6, 2, none⟩ = some (.slice a n c)) (c3 : w.cell? ⟨b3, 0, none⟩ = some (.int .i64 m)) :
    GivesE 52 #[.pointer (some ⟨b6, 0, none⟩), .pointer (some ⟨b3, 0, none⟩)] q (fun x y => cmb (prd m x p k (2 * k)).toNat y p k) w := by
  intro x y w1 hxq hyq hE
  obtain ⟨hpl, hkl⟩ := pp_le hp2 hk1 hpq
  obtain ⟨P, hP1, hP2⟩ := hP x hxq
  have HP1 := Lib.hid hP1
  have HPQ := Lib.hid hpq
  clear hP hP1 hpq
  have d0 := hE.cell c0
  have d1 := hE.cell c1
  have d2 := hE.cell c2
  have d3 := hE.cell c3
  have HX := Lib.hid (hx.ext hE)
  clear c0 c1 c2 c3 hx
  show Calls Try.prog 52 #[.int .i64 x, .int .i64 y, .pointer (some ⟨b6, 0, none⟩), .pointer (some ⟨b3, 0, none⟩)] w1 _
  go_enter Try.func52, Try.ntmps52
  go_wp2_with fail
  go_region_held3 (fun w' => w'.cell? ⟨b6, 0, none⟩ = some (.int .i64 p) ∧ w'.cell? ⟨b6, 1, none⟩ = some (.int .i64 k) ∧ w'.cell? ⟨b6, 2, none⟩ = some (.slice a n c) ∧ w'.cell? ⟨b3, 0, none⟩ = some (.int .i64 m))
    (first | exact ⟨d0, d1, d2, d3⟩ | exact ⟨Ext.cell ((Ext.refl _).drew) d0, Ext.cell ((Ext.refl _).drew) d1, Ext.cell ((Ext.refl _).drew) d2, Ext.cell ((Ext.refl _).drew) d3⟩ | exact ⟨Ext.cell (Ext.trans ((Ext.refl _).drew) hE4) d0, Ext.cell (Ext.trans ((Ext.refl _).drew) hE4) d1, Ext.cell (Ext.trans ((Ext.refl _).drew) hE4) d2, Ext.cell (Ext.trans ((Ext.refl _).drew) hE4) d3⟩ | exact ⟨Ext.cell (Ext.trans (Ext.trans ((Ext.refl _).drew) hE4) hE5) d0, Ext.cell (Ext.trans (Ext.trans ((Ext.refl _).drew) hE4) hE5) d1, Ext.cell (Ext.trans (Ext.trans ((Ext.refl _).drew) hE4) hE5) d2, Ext.cell (Ext.trans (Ext.trans ((Ext.refl _).drew) hE4) hE5) d3⟩)
    (first
      | (go_at_call 54; refine (product_any p k a n c m x _ (HX.out.ext ((Ext.refl _).drew)) hp2 (by omega) hk1 (by omega) (by rw [HPQ.out]; omega) (by omega) (by omega)).mono ?_; rintro e w4 ⟨he, hE4⟩; rw [HP1.out] at he; subst he)
      | (go_at_call 53; refine (combine_any p k a n c P y _ hp2 (by omega) hk1 (by omega) (by rw [HPQ.out]; omega) (by omega) (by omega)).mono ?_; rintro e w5 ⟨rfl, hE5⟩))
  have hEd := Ext.trans (Ext.trans ((Ext.refl w1).drew) hE4) hE5
  go_wp2
  go_ret
  exact ⟨by rw [HP1.out, Int.toNat_natCast]; rfl, hEd⟩

set_option maxRecDepth 100000 in
set_option maxHeartbeats 3200000 in
theorem implFs (z m : Int) (w : World) (lo : -9223372036854775808 ≤ z) (hi : z ≤ 9223372036854775807) (lom : -9223372036854775808 ≤ m) (him : m ≤ 9223372036854775807) :
    Calls Try.prog 21 #[.int .i64 z, .int .i64 m] w (RetRC w (fsM z m) (fsC z m)) := by
  have hmf : ∀ (fn : Fn) (first cap : Array Value) (w : World), (Instr.makeFunc fn first cap).run Try.prog w = .ok (.func fn first cap) w := fun _ _ _ _ => rfl
  obtain ⟨W, hW⟩ : ∃ W, (w.alloc (.cells #[.int .i64 m] 2)) = W := ⟨_, rfl⟩
  have hEW : Ext w W := by rw [← hW]; exact (Ext.refl _).alloc _
  have HM : Hid (W.heap[w.heap.size]? = some (.cells #[.int .i64 m] 2 (0, 0))) := Lib.hid (by rw [← hW]; exact heap_alloc_new _ _)
  go_enter Try.func21, Try.ntmps21
  go_wp2_with fail
  clear hW
  by_cases hno : (ppz z).1 = 0 ∨ 64 < z
  · refine (makeField_no z _ hno).mono ?_
    rintro e w2 ⟨rfl, hE⟩
    have hC := Lib.hid (fs_no (show ¬ FsOk z m from fun h => by rcases hno with h1 | h1; exact h.1.2 h1; have := h.1.1; omega))
    clear hno
    by_cases h10 : 10 < z
    · have hb : decide (10 < z) = true := decide_eq_true h10
      go_wp2
      go_ret2
      exact RetRC.mk_ (OwnR.nil_ _ _) (Nat.le_refl _) hC.out.1 hC.out.2 ((hEW.trans hE).alloc _)
    · have hb : decide (10 < z) = false := decide_eq_false h10
      go_wp2
      go_ret2
      exact RetRC.mk_ (OwnR.nil_ _ _) (Nat.le_refl _) hC.out.1 hC.out.2 ((hEW.trans hE).alloc _)
  · have hp0 : (ppz z).1 ≠ 0 := fun h => hno (.inl h)
    obtain ⟨q, rfl, hq1, hpz⟩ := ppz_nat hp0
    have hq64 : q < 65 := by have : ¬ (64 : Int) < (q : Int) := fun h => hno (.inr h); omega
    have hpq0 : (pp q).1 ≠ 0 := by rw [← hpz]; exact hp0
    have HP0 := Lib.hid hp0
    obtain ⟨u2, u1, upk, uN⟩ := pp_use hq64 hpq0
    refine (makeField_yes q (pp q).1 (pp q).2 _ (by omega) hpz u2 u1 (by rw [upk]; omega) uN).mono ?_
    rintro e w2 ⟨a, n, c, rfl, hO, hE⟩
    clear hno hp0 hpz
    obtain ⟨W3, hW3⟩ : ∃ W3, (w2.alloc (.cells #[.int .i64 ((pp q).1 : Nat), .int .i64 ((pp q).2 : Nat), .slice a n c] 67)) = W3 := ⟨_, rfl⟩
    have hE3 : Ext w2 W3 := by rw [← hW3]; exact (Ext.refl _).alloc _
    have H3 : Hid (W3.heap[w2.heap.size]? = some (.cells #[.int .i64 ((pp q).1 : Nat), .int .i64 ((pp q).2 : Nat), .slice a n c] 67 (0, 0))) := Lib.hid (by rw [← hW3]; exact heap_alloc_new _ _)
    have hEm := hE.trans hE3
    have c3 : W3.cell? ⟨w.heap.size, 0, none⟩ = some (.int .i64 m) := cell_blk (heap_ext hEm HM.out) rfl
    have hEw := hEW.trans hEm
    by_cases h10 : 10 < (q : Int)
    · have hb : decide (10 < (q : Int)) = true := decide_eq_true h10
      have hC := Lib.hid (fs_no (show ¬ FsOk q m from fun h => by have := h.1.1; omega))
      go_wp2
      go_ret2
      exact RetRC.mk_ (OwnR.nil_ _ _) (Nat.le_refl _) hC.out.1 hC.out.2 hEw
    · have hb : decide (10 < (q : Int)) = false := decide_eq_false h10
      by_cases hm : 1 ≤ m ∧ m ≤ (q : Int) - 1
      · have Hm := Lib.hid hm
        obtain ⟨m', rfl⟩ := Int.eq_ofNat_of_zero_le (show 0 ≤ m by omega)
        have hC := Lib.hid (fs_yes (show FsOk q m' from ⟨⟨by omega, HP0.out⟩, hm⟩))
        have HPr : Hid (∀ x, x < q → ∃ P : Nat, prd m' x (pp q).1 (pp q).2 (2 * (pp q).2) = P ∧ P < q) := Lib.hid (fun x hx => by
          obtain ⟨_, h1, h2⟩ := prd_all q (by omega) m' (by omega) x hx u2
          obtain ⟨P, hP⟩ := Int.eq_ofNat_of_zero_le h1
          exact ⟨P, hP, by omega⟩)
        clear hm
        go_wp2_with fail
        clear hW3
        refine (within_any _ _ _ true (decide_eq_true Hm.out) _).mono ?_
        rintro e w4 ⟨rfl, rfl⟩
        go_wp2_with fail
        refine (filledE q _ _ _ _ (by omega) (enters_of Try.func52 (by kernel_rfl) (by kernel_rfl)) (fsq_gives w2.heap.size w.heap.size (pp q).1 (pp q).2 q m' a n c _ (hO.rdI.ext hE3) u2 u1 upk (by omega) (by have := Hm.out; omega) HPr.out (cell_blk H3.out rfl) (cell_blk H3.out rfl) (cell_blk H3.out rfl) c3)).mono ?_
        rintro e w5 ⟨a5, n5, c5, rs, rfl, hO5, hE5⟩
        have HF : Hid (sq q (fun x y => cmb (prd m' x (pp q).1 (pp q).2 (2 * (pp q).2)).toNat y (pp q).1 (pp q).2) = fs q m') := Lib.hid rfl
        rw [HF.out] at hO5
        go_wp2
        go_ret2
        exact RetRC.mk_ hO5 hEw.size hC.out.1 hC.out.2 (hEw.trans hE5)
      · have Hm := Lib.hid hm
        have hC := Lib.hid (fs_no (show ¬ FsOk q m from fun h => hm h.2))
        clear hm
        go_wp2_with fail
        clear hW3
        refine (within_any _ _ _ false (decide_eq_false Hm.out) _).mono ?_
        rintro e w4 ⟨rfl, rfl⟩
        go_wp2
        go_ret2
        exact RetRC.mk_ (OwnR.nil_ _ _) (Nat.le_refl _) hC.out.1 hC.out.2 hEw
end Go.Proofs.Ytgggbicmmijlnaa
