/- Sums and products in fields by the reference. Conditions: none. -/
import Derived.Test.YtgggbicmmijlnaaFlds3
namespace Go.Proofs.Ytgggbicmmijlnaa
open Go.RowKit

/-- A field that lies in a block. -/
def B3 (w : World) (b p k : Nat) (a : Option Addr) (n c : Nat) : Prop := w.cell? ⟨b, 0, none⟩ = some (.int .i64 p) ∧ w.cell? ⟨b, 1, none⟩ = some (.int .i64 k) ∧ w.cell? ⟨b, 2, none⟩ = some (.slice a n c)
theorem B3.ext {w w' : World} {b p k : Nat} {a : Option Addr} {n c : Nat} (h : B3 w b p k a n c) (hE : Ext w w') : B3 w' b p k a n c := ⟨hE.cell h.1, hE.cell h.2.1, hE.cell h.2.2⟩

set_option maxRecDepth 100000 in
set_option maxHeartbeats 6400000 in
theorem l03Mul_any (b0 p k : Nat) (a : Option Addr) (n c : Nat) (x y : Nat) (w : World) (hBx : B3 w b0 p k a n c) (hx : RdI w a n c (fpoly p k)) (hp2 : 2 ≤ p) (hp : p ≤ 64) (hk1 : 1 ≤ k) (hk : k ≤ 64) (hpk : p ^ k ≤ 64) (hx1 : x ≤ 1000) (hy1 : y ≤ 1000) :
    Calls Try.prog 76 #[.pointer (some ⟨b0, 0, none⟩), .int .i64 x, .int .i64 y] w fun e w' => e = .returned (.int .i64 (prd x y p k (2 * k - 1))) ∧ Ext w w' := by
  obtain ⟨L, hL⟩ : ∃ L, L = 2 * k - 1 := ⟨_, rfl⟩
  have hLz : 2 * (k : Int) - 1 = (L : Int) := by omega
  have hmk := run_make_row' (P := Try.prog) 56 2 (.int .i64 0) 8 Try.underlying56 Try.info_i64 rfl .i64 .i64 L (by omega) (by omega)
  have HLk := Lib.hid hL
  have hL128 : L ≤ 128 := by omega
  clear hL
  have hb1 := hx.le
  have hb2 := hx.max
  have HPK := Lib.hid hpk
  clear hpk
  have Hn : Hid (n = k + 1) := Lib.hid (by rw [hx.len, fpoly_len])
  obtain ⟨q0, q1, q2⟩ := hBx
  go_enter Try.func76, Try.ntmps76
  go_wp2_with fail
  go_region_held3 (fun w' => w'.cell? ⟨b0, 0, none⟩ = some (.int .i64 p) ∧ w'.cell? ⟨b0, 1, none⟩ = some (.int .i64 k))
    (first | exact ⟨q0, q1⟩ | exact ⟨Ext.cell ((Ext.refl _).drew) q0, Ext.cell ((Ext.refl _).drew) q1⟩ | exact ⟨Ext.cell (Ext.trans ((Ext.refl _).drew) hE4) q0, Ext.cell (Ext.trans ((Ext.refl _).drew) hE4) q1⟩)
    (first
      | (go_at_call 94; (with_reducible refine (l03Digits_any x p k w.drew (by omega) (by omega) (by omega) (by omega)).mono ?_); rintro e w4 ⟨a4, n4, c4, rfl, hO4, hE4⟩))
  have hE44 : Ext w w4 := Ext.trans ((Ext.refl _).drew) hE4
  have q04 := hE44.cell q0
  have q14 := hE44.cell q1
  go_wp2_with fail
  go_region_held3 (fun w' => w'.cell? ⟨b0, 0, none⟩ = some (.int .i64 p) ∧ w'.cell? ⟨b0, 1, none⟩ = some (.int .i64 k))
    (first | exact ⟨q04, q14⟩ | exact ⟨Ext.cell ((Ext.refl _).drew) q04, Ext.cell ((Ext.refl _).drew) q14⟩ | exact ⟨Ext.cell (Ext.trans ((Ext.refl _).drew) hE5) q04, Ext.cell (Ext.trans ((Ext.refl _).drew) hE5) q14⟩)
    (first
      | (go_at_call 94; (with_reducible refine (l03Digits_any y p k w4.drew (by omega) (by omega) (by omega) (by omega)).mono ?_); rintro e w5 ⟨a5, n5, c5, rfl, hO5, hE5⟩))
  have hE45 : Ext w4 w5 := Ext.trans ((Ext.refl _).drew) hE5
  have hE6 := hE44.trans hE45
  obtain rfl : n4 = k := by rw [hO4.len, digs_len]
  obtain rfl : n5 = n4 := by rw [hO5.len, digs_len]
  have hr4 := (hO4.rdI).ext hE45
  have hr5 := hO5.rdI
  have hq1 := hr4.le
  have hq2 := hr4.max
  have hq3 := hr5.le
  have hq4 := hr5.max
  have q01 := hE6.cell q0
  have q11 := hE6.cell q1
  have Q0 := Lib.hid q01
  have Q2 := Lib.hid (hE6.cell q2)
  have H0 := own_made w5 2 (Value.int .i64) 0 L (by omega)
  have hE0 : Ext w5 (w5.alloc (.cells (madeCells #[Value.int .i64 0] L) 2)) := (Ext.refl _).alloc _
  clear q0 q1 q2 q04 q14 hO4 hO5 hE4 hE5
  go_wp2
  clear hmk q01 q11
  go_loopg [10] n5 (fun gh ix wr => ∃ i : Nat, i ≤ n5 ∧ gh = n5 - i ∧ ix = .int .i64 i ∧ OwnI wr w5.heap.size (some ⟨w5.heap.size, 0, none⟩) L L (mulTo (digs x p n5) (digs y p n5) p L i) ∧ Ext w5 wr)
  case atStart => exact ⟨0, Nat.zero_le _, rfl, rfl, H0, hE0⟩
  case round =>
    clear H0 hE0
    obtain ⟨i, hi, rfl, rfl, hO, hE⟩ := hrel
    by_cases hlt : i < n5
    · have hzi : (i : Int) < (n5 : Int) := by omega
      go_wp2
      go_loopg [11] n5 (fun gh ix wi => ∃ j : Nat, j ≤ n5 ∧ gh = n5 - j ∧ ix = .int .i64 j ∧ OwnI wi w5.heap.size (some ⟨w5.heap.size, 0, none⟩) L L (mulIn (digs x p n5) (digs y p n5) p i j (mulTo (digs x p n5) (digs y p n5) p L i)) ∧ Ext w5 wi)
      case atStart => exact ⟨0, Nat.zero_le _, rfl, rfl, hO, hE⟩
      case round =>
        clear hO hE
        obtain ⟨j, hj, rfl, rfl, hO, hE⟩ := hrel
        by_cases hlj : j < n5
        · have hzj : (j : Int) < (n5 : Int) := by omega
          have hat : i + j < L := by have := HLk.out; omega
          have hzat : (i : Int) + (j : Int) < (L : Int) := by omega
          obtain ⟨hcv, hfv⟩ := hO.giI5 hat
          obtain ⟨v, hv⟩ : ∃ v, gi (mulIn (digs x p n5) (digs y p n5) p i j (mulTo (digs x p n5) (digs y p n5) p L i)) (i + j) = v := ⟨_, rfl⟩
          have HV := Lib.hid hv
          obtain ⟨hv0, hv1⟩ := (mulIn_bnd (mulTo_bnd (xs := digs x p n5) (ys := digs y p n5) (show (0 : Int) < (p : Int) by omega) L i) i j (xs := digs x p n5) (ys := digs y p n5)) (i + j)
          rw [hv] at hcv hv0 hv1
          clear hv
          obtain ⟨b4, o4, rfl, hcx⟩ := (hr4.ext hE).gi hlt
          obtain ⟨b5, o5, rfl, hcy⟩ := (hr5.ext hE).gi hlj
          obtain ⟨xv, hxv⟩ : ∃ xv, gi (digs x p n5) i = xv := ⟨_, rfl⟩
          obtain ⟨yv, hyv⟩ : ∃ yv, gi (digs y p n5) j = yv := ⟨_, rfl⟩
          have HXV := Lib.hid hxv
          have HYV := Lib.hid hyv
          obtain ⟨hxv0, hxv1⟩ := (digs_bnd (n := x) (p := p) (k := n5) (by omega)) i
          obtain ⟨hyv0, hyv1⟩ := (digs_bnd (n := y) (p := p) (k := n5) (by omega)) j
          rw [hxv] at hcx hxv0 hxv1
          rw [hyv] at hcy hyv0 hyv1
          clear hxv hyv
          obtain ⟨xv, rfl⟩ := Int.eq_ofNat_of_zero_le hxv0
          obtain ⟨yv, rfl⟩ := Int.eq_ofNat_of_zero_le hyv0
          have hm0 : (0 : Int) ≤ (xv : Int) * (yv : Int) := by exact_mod_cast Nat.zero_le (xv * yv)
          have hm1 : (xv : Int) * (yv : Int) ≤ 4096 := by have := Nat.mul_le_mul (show xv ≤ 64 by omega) (show yv ≤ 64 by omega); exact_mod_cast this
          obtain ⟨t, ht⟩ : ∃ t, (v + (xv : Int) * (yv : Int)) % (p : Int) = t := ⟨_, rfl⟩
          have hpz : (1 : Int) ≤ (p : Int) := by omega
          have HS : Hid ((mulIn (digs x p n5) (digs y p n5) p i j (mulTo (digs x p n5) (digs y p n5) p L i)).set (i + j) t = mulIn (digs x p n5) (digs y p n5) p i (j + 1) (mulTo (digs x p n5) (digs y p n5) p L i)) := Lib.hid (by rw [mulIn, HV.out, HXV.out, HYV.out, ht])
          have hO2 := hO.set (k := i + j) rfl t
          rw [HS.out] at hO2
          have hE2 := hE.setCell (p := ⟨w5.heap.size, i + j, none⟩) (Nat.le_refl _) (.int .i64 t)
          have hcp : wr.cell? ⟨b0, 0, none⟩ = some (.int .i64 p) := hE.cell Q0.out
          clear hO hE
          go_wp2_with fail
          go_region
          go_wp2
          go_roundg (n5 - (j + 1))
          case measure => go_light; omega
          case rel => go_light; exact ⟨j + 1, by omega, rfl, by go_num, hO2.ext ((Ext.refl _).drew), hE2.drew⟩
        · have hzj : ¬ (j : Int) < (n5 : Int) := by omega
          obtain rfl : n5 = j := by omega
          have HS : Hid (mulIn (digs x p n5) (digs y p n5) p i n5 (mulTo (digs x p n5) (digs y p n5) p L i) = mulTo (digs x p n5) (digs y p n5) p L (i + 1)) := Lib.hid (by rw [mulTo, digs_len])
          rw [HS.out] at hO
          go_wp2
          go_roundg (n5 - (i + 1))
          case measure => go_light; omega
          case rel => go_light; exact ⟨i + 1, by omega, rfl, by go_num, hO, hE⟩
    · have hzi : ¬ (i : Int) < (n5 : Int) := by omega
      obtain rfl : n5 = i := by omega
      have q0 : wr.cell? ⟨b0, 0, none⟩ = some (.int .i64 p) := hE.cell Q0.out
      have q2 : wr.cell? ⟨b0, 2, none⟩ = some (.slice a n c) := hE.cell Q2.out
      have HX := Lib.hid (hx.ext (hE6.trans hE))
      have HRO := Lib.hid hO.rdI
      have HBm := Lib.hid (mulTo_bnd (xs := digs x p n5) (ys := digs y p n5) (show (0 : Int) < (p : Int) by omega) L n5)
      clear hO
      go_wp2_with fail
      go_region_held3 (fun w' => w'.cell? ⟨b0, 0, none⟩ = some (.int .i64 p) ∧ w'.cell? ⟨b0, 2, none⟩ = some (.slice a n c))
        (first | exact ⟨q0, q2⟩ | exact ⟨Ext.cell ((Ext.refl _).drew) q0, Ext.cell ((Ext.refl _).drew) q2⟩ | exact ⟨Ext.cell (Ext.trans ((Ext.refl _).drew) hE7) q0, Ext.cell (Ext.trans ((Ext.refl _).drew) hE7) q2⟩)
        (first
          | (go_at_call 97; refine (l03Rest_any _ L L (mulTo (digs x p n5) (digs y p n5) p L n5) a n c (fpoly p n5) p _ (HRO.out.ext ((Ext.refl _).drew)) (HX.out.ext ((Ext.refl _).drew)) HBm.out (fpoly_bnd hp2) (by omega) hp (by rw [Hn.out]; omega) (by rw [Hn.out, HLk.out]; omega) (by omega)).mono ?_; rintro e w7 ⟨a7, n7, c7, rfl, hO7, hE7⟩; have Hn7 : Hid (n7 = n5) := Lib.hid (by rw [hO7.len, rest_len (by rw [fpoly_len, mulTo_len, HLk.out]; omega), fpoly_len]; omega); have hn7 : n7 ≤ 64 := (by rw [Hn7.out]; omega))
          | (go_at_call 96; refine (l03Number_any a7 n7 c7 (rest (mulTo (digs x p n5) (digs y p n5) p L n5) (fpoly p n5) p) p _ hO7.rdI (rest_bnd HBm.out) hp (by rw [Hn7.out]; exact HPK.out) (by omega)).mono ?_; rintro e w' ⟨rfl, rfl⟩))
      have hE8 := (hE6.trans hE).trans (Ext.trans ((Ext.refl _).drew) hE7)
      have HF : Hid (num p (rest (mulTo (digs x p n5) (digs y p n5) p L n5) (fpoly p n5) p) = prd x y p n5 (2 * n5 - 1)) := Lib.hid (by rw [prd, HLk.out])
      go_wp2
      go_ret
      exact ⟨by rw [HF.out]; rfl, hE8⟩

set_option maxRecDepth 100000 in
set_option maxHeartbeats 6400000 in
theorem l03Sum_any (b0 p k : Nat) (a : Option Addr) (n c : Nat) (x y : Nat) (w : World) (hBx : B3 w b0 p k a n c) (hp2 : 2 ≤ p) (hp : p ≤ 64) (hk1 : 1 ≤ k) (hk : k ≤ 64) (hpk : p ^ k ≤ 64) (hx1 : x ≤ 1000) (hy1 : y ≤ 1000) :
    Calls Try.prog 77 #[.pointer (some ⟨b0, 0, none⟩), .int .i64 x, .int .i64 y, .int .i64 1] w fun e w' => e = .returned (.int .i64 (cmb x y p k)) ∧ Ext w w' := by
  have HPK := Lib.hid hpk
  clear hpk
  obtain ⟨q0, q1, q2⟩ := hBx
  have hb0 : b0 < w.heap.size := World.block_lt_of_cell? _ _ q0
  go_enter Try.func77, Try.ntmps77
  go_wp2_with fail
  go_region_held3 (fun w' => w'.cell? ⟨b0, 0, none⟩ = some (.int .i64 p) ∧ w'.cell? ⟨b0, 1, none⟩ = some (.int .i64 k))
    (first | exact ⟨q0, q1⟩ | exact ⟨Ext.cell ((Ext.refl _).drew) q0, Ext.cell ((Ext.refl _).drew) q1⟩ | exact ⟨Ext.cell (Ext.trans ((Ext.refl _).drew) hE4) q0, Ext.cell (Ext.trans ((Ext.refl _).drew) hE4) q1⟩)
    (first
      | (go_at_call 94; (with_reducible refine (l03Digits_any x p k w.drew (by omega) (by omega) (by omega) (by omega)).mono ?_); rintro e w4 ⟨a4, n4, c4, rfl, hO4, hE4⟩))
  have hE44 : Ext w w4 := Ext.trans ((Ext.refl _).drew) hE4
  have q04 := hE44.cell q0
  have q14 := hE44.cell q1
  go_wp2_with fail
  go_region_held3 (fun w' => w'.cell? ⟨b0, 0, none⟩ = some (.int .i64 p) ∧ w'.cell? ⟨b0, 1, none⟩ = some (.int .i64 k))
    (first | exact ⟨q04, q14⟩ | exact ⟨Ext.cell ((Ext.refl _).drew) q04, Ext.cell ((Ext.refl _).drew) q14⟩ | exact ⟨Ext.cell (Ext.trans ((Ext.refl _).drew) hE5) q04, Ext.cell (Ext.trans ((Ext.refl _).drew) hE5) q14⟩)
    (first
      | (go_at_call 94; (with_reducible refine (l03Digits_any y p k w4.drew (by omega) (by omega) (by omega) (by omega)).mono ?_); rintro e w5 ⟨a5, n5, c5, rfl, hO5, hE5⟩))
  have hE45 : Ext w4 w5 := Ext.trans ((Ext.refl _).drew) hE5
  have hE6 := hE44.trans hE45
  obtain rfl : n4 = k := by rw [hO4.len, digs_len]
  obtain rfl : n5 = n4 := by rw [hO5.len, digs_len]
  have HO4 := Lib.hid ((hO4.ext hE45).base (B' := w.heap.size) (by simp))
  obtain ⟨g4, rfl, hB4, hlt4⟩ := HO4.out.some5 (by omega)
  obtain ⟨g5, rfl, hB5, hlt5⟩ := hO5.some5 (by omega)
  have hne : g4 ≠ g5 := by have := (hO4.lt (g := g4) rfl).2; simp at hB5; omega
  have HR5 := Lib.hid hO5.rdI
  have hO0 := HO4.out
  have Q0 := Lib.hid q0
  have hq1 := hO0.le
  have hq3 := HR5.out.le
  clear q0 q1 q2 q04 q14 hO4 hO5 hE4 hE5
  go_wp2
  go_loopg [11] n5 (fun gh ix wr => ∃ i : Nat, i ≤ n5 ∧ gh = n5 - i ∧ ix = .int .i64 i ∧ OwnI wr w.heap.size (some ⟨g4, 0, none⟩) n5 c4 (addTo (digs x p n5) (digs y p n5) p i) ∧ RdI wr (some ⟨g5, 0, none⟩) n5 c5 (digs y p n5) ∧ Ext w wr)
  case atStart => exact ⟨0, Nat.zero_le _, rfl, rfl, hO0, HR5.out, hE6⟩
  case round =>
    clear hO0
    obtain ⟨i, hi, rfl, rfl, hO, hR, hE⟩ := hrel
    by_cases hlt : i < n5
    · have hzi : (i : Int) < (n5 : Int) := by omega
      obtain ⟨hcv, hfv⟩ := hO.giI5 hlt
      obtain ⟨b5, o5, hh, hcy⟩ := hR.gi hlt
      cases hh
      rw [Nat.zero_add] at hcy
      obtain ⟨v, hv⟩ : ∃ v, gi (addTo (digs x p n5) (digs y p n5) p i) i = v := ⟨_, rfl⟩
      have HV := Lib.hid hv
      obtain ⟨hv0, hv1⟩ := (addTo_bnd (ys := digs y p n5) (digs_bnd (n := x) (p := p) (k := n5) (by omega)) i) i
      rw [hv] at hcv hv0 hv1
      clear hv
      obtain ⟨yv, hyv⟩ : ∃ yv, gi (digs y p n5) i = yv := ⟨_, rfl⟩
      have HYV := Lib.hid hyv
      obtain ⟨hyv0, hyv1⟩ := (digs_bnd (n := y) (p := p) (k := n5) (by omega)) i
      rw [hyv] at hcy hyv0 hyv1
      clear hyv
      obtain ⟨t, ht⟩ : ∃ t, (v + yv) % (p : Int) = t := ⟨_, rfl⟩
      have hpz : (1 : Int) ≤ (p : Int) := by omega
      have HS : Hid ((addTo (digs x p n5) (digs y p n5) p i).set i t = addTo (digs x p n5) (digs y p n5) p (i + 1)) := Lib.hid (by rw [addTo, HV.out, HYV.out, ← ht])
      have hO2 := hO.set (k := i) rfl t
      rw [HS.out] at hO2
      have hE2 := hE.setCell (p := ⟨g4, i, none⟩) (by show w.heap.size ≤ g4; omega) (.int .i64 t)
      have hcp : wr.cell? ⟨b0, 0, none⟩ = some (.int .i64 p) := hE.cell Q0.out
      have hO4y : ∀ k, k < n5 → (wr.setCell ⟨g4, i, none⟩ (.int .i64 t)).cell? ⟨g5, k, none⟩ = wr.cell? ⟨g5, k, none⟩ := fun k _ => World.cell?_of_block (Below.heap_setCell _ _ _ _ (fun e => hne e.symm))
      have hR2 : RdI (wr.setCell ⟨g4, i, none⟩ (.int .i64 t)) (some ⟨g5, 0, none⟩) n5 c5 (digs y p n5) := ⟨hR.len, hR.le, hR.max, hR.nil, fun k z hz => by
        obtain ⟨b, o, vv, h1, h2, h3⟩ := hR.get k z hz
        cases h1
        refine ⟨_, _, vv, rfl, ?_, h3⟩
        rw [Nat.zero_add] at h2 ⊢
        rw [hO4y k (by rw [hR.len]; exact (List.getElem?_eq_some_iff.1 hz).1)]
        exact h2⟩
      clear hO hE hR hO4y
      go_wp2_with fail
      go_region
      go_wp2
      go_roundg (n5 - (i + 1))
      case measure => go_light; omega
      case rel => go_light; exact ⟨i + 1, by omega, rfl, by go_num, hO2.ext ((Ext.refl _).drew), hR2.ext ((Ext.refl _).drew), hE2.drew⟩
    · have hzi : ¬ (i : Int) < (n5 : Int) := by omega
      obtain rfl : n5 = i := by omega
      have q0 : wr.cell? ⟨b0, 0, none⟩ = some (.int .i64 p) := hE.cell Q0.out
      have HBm := Lib.hid (addTo_bnd (ys := digs y p n5) (digs_bnd (n := x) (p := p) (k := n5) (by omega)) n5)
      go_wp2_with fail
      refine (l03Number_any _ n5 _ (addTo (digs x p n5) (digs y p n5) p n5) p _ hO.rdI HBm.out hp HPK.out (by omega)).mono ?_
      rintro e w' ⟨rfl, rfl⟩
      go_wp2
      go_ret
      exact ⟨rfl, hE⟩
end Go.Proofs.Ytgggbicmmijlnaa
