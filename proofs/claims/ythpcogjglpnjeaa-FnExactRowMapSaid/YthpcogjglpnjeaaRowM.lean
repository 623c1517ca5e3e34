/- RowMap of both. Conditions: none. -/
import Derived.Test.YthpcogjglpnjeaaSqS
import Derived.Test.YthpcogjglpnjeaaSqI
import Derived.Test.YthpcogjglpnjeaaSz
import Derived.Test.YthpcogjglpnjeaaSl
import Derived.Test.YthpcogjglpnjeaaPm
namespace Go.Proofs.Ythpcogjglpnjeaa
open Go.RowKit

def InSq (p : List (List Int)) (x : Int) : Prop := 0 ≤ x ∧ x ≤ (p.length : Int) - 1
noncomputable def rowMC (p : List (List Int)) (x y : Int) : Int := if pb (SqOk p) then (if pb (InSq p x ∧ InSq p y) then 0 else 2) else 1
noncomputable def rowMM (p : List (List Int)) (x y : Int) : List Int := if pb (SqOk p) then (if pb (InSq p x ∧ InSq p y) then cmp (inv (gr p x.toNat)) (gr p y.toNat) else []) else []

theorem rowMM_len (p : List (List Int)) (x y : Int) : (rowMM p x y).length ≤ 1048576 := by
  rw [rowMM]
  split
  · rename_i h0
    split
    · rename_i h1
      have h2 := pb_iff.1 h1
      have h3 := pb_iff.1 h0
      obtain ⟨g1, g2⟩ := h2.1
      rw [cmp_length, inv_length, h3.2.2.1.2 _ (by omega)]
      have := h3.2.1; omega
    · simp
  · simp

set_option maxRecDepth 100000 in
set_option maxHeartbeats 1600000 in
theorem specRowMap (a : Option Addr) (n c : Nat) (p : List (List Int)) (x y : Int) (w : World) (hp : RdR w a n c p) (hs : p.length + tot p ≤ 1048576) (g1 : -9223372036854775808 ≤ x) (g2 : x ≤ 9223372036854775807) (g3 : -9223372036854775808 ≤ y) (g4 : y ≤ 9223372036854775807) :
    Calls Try.prog 37 #[.slice a n c, .int .i64 x, .int .i64 y] w (RetIC w (rowMM p x y) (rowMC p x y)) := by
  have hb1 := hp.le
  have hb2 := hp.max
  have Hl := Lib.hid hp.len
  by_cases h : SqOk p
  · have hb : pb (SqOk p) = true := pb_true h
    have Hb := Lib.hid hb
    have H := Lib.hid h
    have hn : n ≤ 10 := by have := h.2.1; have := Hl.out; omega
    have Hr : Hid (Rect p n n) := Lib.hid (by have := h.2.2.1; rwa [← Hl.out] at this)
    clear h
    by_cases hx : 0 ≤ x ∧ x ≤ (n : Int) - 1
    · by_cases hy : 0 ≤ y ∧ y ≤ (n : Int) - 1
      · have Hx := Lib.hid hx
        have Hy := Lib.hid hy
        obtain ⟨x', rfl⟩ := Int.eq_ofNat_of_zero_le hx.1
        obtain ⟨y', rfl⟩ := Int.eq_ofNat_of_zero_le hy.1
        have hin : pb (InSq p x' ∧ InSq p y') = true := pb_true (by rw [InSq, InSq, ← Hl.out]; exact ⟨hx, hy⟩)
        have Hin := Lib.hid hin
        have hxn : x' < n := by omega
        have hyn : y' < n := by omega
        have hxz : (x' : Int) < (n : Int) := by omega
        have hyz : (y' : Int) < (n : Int) := by omega
        have hlx := Hr.out.2 x' hxn
        have hbel := (H.out.2.2.2.1 x' (by have := Hl.out; omega)).below
        have hbel2 := inv_below (gr p x')
        have hil := inv_length (gr p x')
        rw [hlx] at hbel hbel2 hil
        have Hbel := Lib.hid (And.intro hbel (And.intro hbel2 hil))
        clear hin hx hy hbel hbel2 hil hlx
        go_enter Try.func37, Try.ntmps37
        go_wp2_with fail
        refine (l06Ok_any _ _ _ p _ hp).mono ?_
        rintro e w2 ⟨rfl, hE0⟩
        rw [hb]
        go_wp2_with fail
        refine (l00In_any _ _ _ true (decide_eq_true Hx.out) _).mono ?_
        rintro e w3 ⟨rfl, rfl⟩
        go_wp2_with fail
        refine (l00In_any _ _ _ true (decide_eq_true Hy.out) _).mono ?_
        rintro e w3 ⟨rfl, rfl⟩
        obtain ⟨b, o, ax, cx, rfl, hc1, hrx⟩ := hp.row Hr.out hxn
        obtain ⟨b', o', ay, cy, hh, hc2, hry⟩ := hp.row Hr.out hyn
        cases hh
        replace hc1 := hE0.cell hc1
        replace hc2 := hE0.cell hc2
        have hrx2 := RdI.ext hrx hE0
        have hry2 := RdI.ext hry hE0
        clear hrx hry
        go_wp2_with fail
        go_region_held3 (fun w' => w'.cell? ⟨b, o + x', none⟩ = some (.slice ax n cx) ∧ w'.cell? ⟨b, o + y', none⟩ = some (.slice ay n cy))
          (first | exact ⟨hc1, hc2⟩ | exact ⟨Ext.cell ((Ext.refl _).drew) hc1, Ext.cell ((Ext.refl _).drew) hc2⟩ | exact ⟨Ext.cell (Ext.trans ((Ext.refl _).drew) hE2) hc1, Ext.cell (Ext.trans ((Ext.refl _).drew) hE2) hc2⟩ | exact ⟨Ext.cell (Ext.trans (Ext.trans ((Ext.refl _).drew) hE2) hE3) hc1, Ext.cell (Ext.trans (Ext.trans ((Ext.refl _).drew) hE2) hE3) hc2⟩)
          (first
            | (go_at_call 67; refine (l04Back_any _ _ _ (gr p x') _ (RdI.ext hrx2 ((Ext.refl _).drew)) (by omega) Hbel.out.1).mono ?_; rintro e w5 ⟨a2, n2, c2, rfl, hO2, hE2⟩)
            | (go_at_call 66; refine (l04Times_any _ _ _ (inv (gr p x')) _ _ _ (gr p y') _ hO2.rdI (RdI.ext hry2 (Ext.trans ((Ext.refl _).drew) hE2)) (by have h7 := hO2.len; rw [Hbel.out.2.2] at h7; omega) Hbel.out.2.1).mono ?_; rintro e w6 ⟨a3, n3, c3, rfl, hO3, hE3⟩))
        have hEE := hE0.trans (Ext.trans (Ext.trans ((Ext.refl _).drew) hE2) hE3)
        have hszz := (hE0.trans (Ext.trans ((Ext.refl _).drew) hE2)).size
        go_wp2
        go_ret2
        exact RetIC.mk_ hO3 hszz (by rw [rowMM, if_pos Hb.out, if_pos Hin.out]; rfl) (by rw [rowMC, if_pos Hb.out, if_pos Hin.out]) hEE
      · have Hx := Lib.hid hx
        have Hy := Lib.hid hy
        have hno : pb (InSq p x ∧ InSq p y) = false := pb_false (by rw [InSq, InSq, ← Hl.out]; exact fun h => Hy.out h.2)
        have Hno := Lib.hid hno
        clear hx hy hno
        go_enter Try.func37, Try.ntmps37
        go_wp2_with fail
        refine (l06Ok_any _ _ _ p _ hp).mono ?_
        rintro e w2 ⟨rfl, hE0⟩
        rw [hb]
        go_wp2_with fail
        refine (l00In_any _ _ _ true (decide_eq_true Hx.out) _).mono ?_
        rintro e w3 ⟨rfl, rfl⟩
        go_wp2_with fail
        refine (l00In_any _ _ _ false (decide_eq_false Hy.out) _).mono ?_
        rintro e w3 ⟨rfl, rfl⟩
        go_wp2
        go_ret2
        exact RetIC.nil_ (by rw [rowMM, if_pos Hb.out, Hno.out]; rfl) (by rw [rowMC, if_pos Hb.out, Hno.out]; rfl) hE0
    · have Hx := Lib.hid hx
      have hno : pb (InSq p x ∧ InSq p y) = false := pb_false (by rw [InSq, InSq, ← Hl.out]; exact fun h => Hx.out h.1)
      have Hno := Lib.hid hno
      clear hx hno
      go_enter Try.func37, Try.ntmps37
      go_wp2_with fail
      refine (l06Ok_any _ _ _ p _ hp).mono ?_
      rintro e w2 ⟨rfl, hE0⟩
      rw [hb]
      go_wp2_with fail
      refine (l00In_any _ _ _ false (decide_eq_false Hx.out) _).mono ?_
      rintro e w3 ⟨rfl, rfl⟩
      go_wp2
      go_ret2
      exact RetIC.nil_ (by rw [rowMM, if_pos Hb.out, Hno.out]; rfl) (by rw [rowMC, if_pos Hb.out, Hno.out]; rfl) hE0
  · have hb : pb (SqOk p) = false := pb_false h
    have Hb := Lib.hid hb
    go_enter Try.func37, Try.ntmps37
    go_wp2_with fail
    refine (l06Ok_any _ _ _ p _ hp).mono ?_
    rintro e w2 ⟨rfl, hE⟩
    rw [hb]
    go_wp2
    go_ret2
    exact RetIC.nil_ (by rw [rowMM, Hb.out]; rfl) (by rw [rowMC, Hb.out]; rfl) hE

set_option maxRecDepth 100000 in
set_option maxHeartbeats 1600000 in
theorem implRowMap (a : Option Addr) (n c : Nat) (p : List (List Int)) (x y : Int) (w : World) (hp : RdR w a n c p) (hs : p.length + tot p ≤ 1048576) (g1 : -9223372036854775808 ≤ x) (g2 : x ≤ 9223372036854775807) (g3 : -9223372036854775808 ≤ y) (g4 : y ≤ 9223372036854775807) :
    Calls Try.prog 38 #[.slice a n c, .int .i64 x, .int .i64 y] w (RetIC w (rowMM p x y) (rowMC p x y)) := by
  have hb1 := hp.le
  have hb2 := hp.max
  have Hl := Lib.hid hp.len
  by_cases h : SqOk p
  · have hb : pb (SqOk p) = true := pb_true h
    have Hb := Lib.hid hb
    have H := Lib.hid h
    have hn : n ≤ 10 := by have := h.2.1; have := Hl.out; omega
    have Hr : Hid (Rect p n n) := Lib.hid (by have := h.2.2.1; rwa [← Hl.out] at this)
    clear h
    by_cases hx : 0 ≤ x ∧ x ≤ (n : Int) - 1
    · by_cases hy : 0 ≤ y ∧ y ≤ (n : Int) - 1
      · have Hx := Lib.hid hx
        have Hy := Lib.hid hy
        obtain ⟨x', rfl⟩ := Int.eq_ofNat_of_zero_le hx.1
        obtain ⟨y', rfl⟩ := Int.eq_ofNat_of_zero_le hy.1
        have hin : pb (InSq p x' ∧ InSq p y') = true := pb_true (by rw [InSq, InSq, ← Hl.out]; exact ⟨hx, hy⟩)
        have Hin := Lib.hid hin
        have hxn : x' < n := by omega
        have hyn : y' < n := by omega
        have hxz : (x' : Int) < (n : Int) := by omega
        have hyz : (y' : Int) < (n : Int) := by omega
        have hlx := Hr.out.2 x' hxn
        have hbel := (H.out.2.2.2.1 x' (by have := Hl.out; omega)).below
        have hbel2 := inv_below (gr p x')
        have hil := inv_length (gr p x')
        rw [hlx] at hbel hbel2 hil
        have Hbel := Lib.hid (And.intro hbel (And.intro hbel2 hil))
        clear hin hx hy hbel hbel2 hil hlx
        go_enter Try.func38, Try.ntmps38
        go_wp2_with fail
        refine (validSquare_any _ _ _ p _ hp).mono ?_
        rintro e w2 ⟨rfl, hE0⟩
        rw [hb]
        go_wp2_with fail
        refine (sizeR_any _ _ _ _).mono ?_
        rintro e w3 ⟨rfl, rfl⟩
        go_wp2_with fail
        refine (within_any _ _ _ true (decide_eq_true Hx.out) _).mono ?_
        rintro e w3 ⟨rfl, rfl⟩
        go_wp2_with fail
        refine (sizeR_any _ _ _ _).mono ?_
        rintro e w3 ⟨rfl, rfl⟩
        go_wp2_with fail
        refine (within_any _ _ _ true (decide_eq_true Hy.out) _).mono ?_
        rintro e w3 ⟨rfl, rfl⟩
        obtain ⟨b, o, ax, cx, rfl, hc1, hrx⟩ := hp.row Hr.out hxn
        obtain ⟨b', o', ay, cy, hh, hc2, hry⟩ := hp.row Hr.out hyn
        cases hh
        replace hc1 := hE0.cell hc1
        replace hc2 := hE0.cell hc2
        have hrx2 := RdI.ext hrx hE0
        have hry2 := RdI.ext hry hE0
        clear hrx hry
        go_wp2_with fail
        go_region_held3 (fun w' => w'.cell? ⟨b, o + x', none⟩ = some (.slice ax n cx) ∧ w'.cell? ⟨b, o + y', none⟩ = some (.slice ay n cy))
          (first | exact ⟨hc1, hc2⟩ | exact ⟨Ext.cell ((Ext.refl _).drew) hc1, Ext.cell ((Ext.refl _).drew) hc2⟩ | exact ⟨Ext.cell (Ext.trans ((Ext.refl _).drew) hE2) hc1, Ext.cell (Ext.trans ((Ext.refl _).drew) hE2) hc2⟩ | exact ⟨Ext.cell (Ext.trans (Ext.trans ((Ext.refl _).drew) hE2) hE3) hc1, Ext.cell (Ext.trans (Ext.trans ((Ext.refl _).drew) hE2) hE3) hc2⟩)
          (first
            | (go_at_call 69; refine (inverse_any _ _ _ (gr p x') _ (RdI.ext hrx2 ((Ext.refl _).drew)) (by omega) Hbel.out.1).mono ?_; rintro e w5 ⟨a2, n2, c2, rfl, hO2, hE2⟩)
            | (go_at_call 68; refine (compose_any _ _ _ (inv (gr p x')) _ _ _ (gr p y') _ hO2.rdI (RdI.ext hry2 (Ext.trans ((Ext.refl _).drew) hE2)) (by have h7 := hO2.len; rw [Hbel.out.2.2] at h7; omega) Hbel.out.2.1).mono ?_; rintro e w6 ⟨a3, n3, c3, rfl, hO3, hE3⟩))
        have hEE := hE0.trans (Ext.trans (Ext.trans ((Ext.refl _).drew) hE2) hE3)
        have hszz := (hE0.trans (Ext.trans ((Ext.refl _).drew) hE2)).size
        go_wp2
        go_ret2
        exact RetIC.mk_ hO3 hszz (by rw [rowMM, if_pos Hb.out, if_pos Hin.out]; rfl) (by rw [rowMC, if_pos Hb.out, if_pos Hin.out]) hEE
      · have Hx := Lib.hid hx
        have Hy := Lib.hid hy
        have hno : pb (InSq p x ∧ InSq p y) = false := pb_false (by rw [InSq, InSq, ← Hl.out]; exact fun h => Hy.out h.2)
        have Hno := Lib.hid hno
        clear hx hy hno
        go_enter Try.func38, Try.ntmps38
        go_wp2_with fail
        refine (validSquare_any _ _ _ p _ hp).mono ?_
        rintro e w2 ⟨rfl, hE0⟩
        rw [hb]
        go_wp2_with fail
        refine (sizeR_any _ _ _ _).mono ?_
        rintro e w3 ⟨rfl, rfl⟩
        go_wp2_with fail
        refine (within_any _ _ _ true (decide_eq_true Hx.out) _).mono ?_
        rintro e w3 ⟨rfl, rfl⟩
        go_wp2_with fail
        refine (sizeR_any _ _ _ _).mono ?_
        rintro e w3 ⟨rfl, rfl⟩
        go_wp2_with fail
        refine (within_any _ _ _ false (decide_eq_false Hy.out) _).mono ?_
        rintro e w3 ⟨rfl, rfl⟩
        go_wp2
        go_ret2
        exact RetIC.nil_ (by rw [rowMM, if_pos Hb.out, Hno.out]; rfl) (by rw [rowMC, if_pos Hb.out, Hno.out]; rfl) hE0
    · have Hx := Lib.hid hx
      have hno : pb (InSq p x ∧ InSq p y) = false := pb_false (by rw [InSq, InSq, ← Hl.out]; exact fun h => Hx.out h.1)
      have Hno := Lib.hid hno
      clear hx hno
      go_enter Try.func38, Try.ntmps38
      go_wp2_with fail
      refine (validSquare_any _ _ _ p _ hp).mono ?_
      rintro e w2 ⟨rfl, hE0⟩
      rw [hb]
      go_wp2_with fail
      refine (sizeR_any _ _ _ _).mono ?_
      rintro e w3 ⟨rfl, rfl⟩
      go_wp2_with fail
      refine (within_any _ _ _ false (decide_eq_false Hx.out) _).mono ?_
      rintro e w3 ⟨rfl, rfl⟩
      go_wp2
      go_ret2
      exact RetIC.nil_ (by rw [rowMM, if_pos Hb.out, Hno.out]; rfl) (by rw [rowMC, if_pos Hb.out, Hno.out]; rfl) hE0
  · have hb : pb (SqOk p) = false := pb_false h
    have Hb := Lib.hid hb
    go_enter Try.func38, Try.ntmps38
    go_wp2_with fail
    refine (validSquare_any _ _ _ p _ hp).mono ?_
    rintro e w2 ⟨rfl, hE⟩
    rw [hb]
    go_wp2
    go_ret2
    exact RetIC.nil_ (by rw [rowMM, Hb.out]; rfl) (by rw [rowMC, Hb.out]; rfl) hE

end Go.Proofs.Ythpcogjglpnjeaa
