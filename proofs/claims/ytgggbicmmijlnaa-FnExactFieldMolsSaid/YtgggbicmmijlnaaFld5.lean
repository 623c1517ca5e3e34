/- Sums and products in fields by the program. Conditions: none. -/
import Derived.Test.YtgggbicmmijlnaaFld4
import Derived.Test.YtgggbicmmijlnaaAug
namespace Go.Proofs.Ytgggbicmmijlnaa
open Go.RowKit

theorem fpoly_len (p k : Nat) : (fpoly p k).length = k + 1 := by rw [fpoly, List.length_append, digs_len]; rfl
theorem fpoly_bnd {p k : Nat} (hp : 2 ≤ p) : Bnd (fpoly p k) p := (digs_bnd (by omega)).snoc (by omega)
theorem Own.giI5 {w : World} {B g n c : Nat} {xs : List Int} (h : OwnI w B (some ⟨g, 0, none⟩) n c xs) {k : Nat} (hk : k < n) : w.cell? ⟨g, k, none⟩ = some (.int .i64 (gi xs k)) ∧ w.frozen? ⟨g, k, none⟩ = false := by
  obtain ⟨g', b, h1, _, h2, h3, h4⟩ := h.at_ hk
  cases h1
  exact ⟨by rw [gi_of h4.out]; exact h2, h3⟩
theorem Own.some5 {w : World} {B n c : Nat} {a : Option Addr} {xs : List Int} (h : OwnI w B a n c xs) (hn : 0 < n) : ∃ g, a = some ⟨g, 0, none⟩ ∧ B ≤ g ∧ g < w.heap.size := by
  obtain ⟨g, b, h1, h2, _⟩ := h.at_ (k := 0) hn
  subst h1
  exact ⟨g, rfl, h2, (h.lt (g := g) rfl).2⟩

set_option maxRecDepth 100000 in
set_option maxHeartbeats 6400000 in
theorem product_any (p k : Nat) (a : Option Addr) (n c : Nat) (x y : Nat) (w : World) (hx : RdI w a n c (fpoly p k)) (hp2 : 2 ≤ p) (hp : p ≤ 64) (hk1 : 1 ≤ k) (hk : k ≤ 64) (hpk : p ^ k ≤ 64) (hx1 : x ≤ 1000) (hy1 : y ≤ 1000) :
    Calls Try.prog 54 #[.agg #[.int .i64 p, .int .i64 k, .slice a n c], .int .i64 x, .int .i64 y] w fun e w' => e = .returned (.int .i64 (prd x y p k (2 * k))) ∧ Ext w w' := by
  obtain ⟨L, hL⟩ : ∃ L, L = 2 * k := ⟨_, rfl⟩
  have hLz : 2 * (k : Int) = (L : Int) := by omega
  have hmk := run_make_row' (P := Try.prog) 56 2 (.int .i64 0) 8 Try.underlying56 Try.info_i64 rfl .i64 .i64 L (by omega) (by omega)
  have HLk := Lib.hid hL
  have hL128 : L ≤ 128 := by omega
  clear hL
  have hb1 := hx.le
  have hb2 := hx.max
  have HPK := Lib.hid hpk
  clear hpk
  have Hn : Hid (n = k + 1) := Lib.hid (by rw [hx.len, fpoly_len])
  obtain ⟨W, hW⟩ : ∃ W, (w.alloc (.cells #[.int .i64 p, .int .i64 k, .slice a n c] 67)) = W := ⟨_, rfl⟩
  have hEW : Ext w W := by rw [← hW]; exact (Ext.refl _).alloc _
  have HG : Hid (W.heap[w.heap.size]? = some (.cells #[.int .i64 p, .int .i64 k, .slice a n c] 67 (0, 0))) := Lib.hid (by rw [← hW]; exact heap_alloc_new _ _)
  have q0 : W.cell? ⟨w.heap.size, 0, none⟩ = some (.int .i64 p) := cell_blk HG.out rfl
  have q1 : W.cell? ⟨w.heap.size, 1, none⟩ = some (.int .i64 k) := cell_blk HG.out rfl
  go_enter Try.func54, Try.ntmps54
  go_wp2_with fail
  clear hW
  go_region_held3 (fun w' => w'.cell? ⟨w.heap.size, 0, none⟩ = some (.int .i64 p) ∧ w'.cell? ⟨w.heap.size, 1, none⟩ = some (.int .i64 k))
    (first | exact ⟨q0, q1⟩ | exact ⟨Ext.cell ((Ext.refl _).drew) q0, Ext.cell ((Ext.refl _).drew) q1⟩ | exact ⟨Ext.cell (Ext.trans ((Ext.refl _).drew) hE4) q0, Ext.cell (Ext.trans ((Ext.refl _).drew) hE4) q1⟩ | exact ⟨Ext.cell (Ext.trans (Ext.trans ((Ext.refl _).drew) hE4) hE5) q0, Ext.cell (Ext.trans (Ext.trans ((Ext.refl _).drew) hE4) hE5) q1⟩)
    (first
      | (go_at_call 80; (with_reducible refine (digitsOf_any x p k W.drew (by omega) (by omega) (by omega) (by omega)).mono ?_); rintro e w4 ⟨a4, n4, c4, rfl, hO4, hE4⟩)
      | (go_at_call 80; (with_reducible refine (digitsOf_any y p k w4 (by omega) (by omega) (by omega) (by omega)).mono ?_); rintro e w5 ⟨a5, n5, c5, rfl, hO5, hE5⟩))
  have hEd : Ext W w5 := Ext.trans (Ext.trans ((Ext.refl _).drew) hE4) hE5
  have hE6 := hEW.trans hEd
  obtain rfl : n4 = k := by rw [hO4.len, digs_len]
  obtain rfl : n5 = n4 := by rw [hO5.len, digs_len]
  have hr4 := (hO4.rdI).ext hE5
  have hr5 := hO5.rdI
  have hq1 := hr4.le
  have hq2 := hr4.max
  have hq3 := hr5.le
  have hq4 := hr5.max
  have HG5 := Lib.hid (heap_ext hEd HG.out)
  have q01 : w5.cell? ⟨w.heap.size, 0, none⟩ = some (.int .i64 p) := cell_blk HG5.out rfl
  have q11 : w5.cell? ⟨w.heap.size, 1, none⟩ = some (.int .i64 n5) := cell_blk HG5.out rfl
  have H0 := own_made w5 2 (Value.int .i64) 0 L (by omega)
  have hE0 : Ext w5 (w5.alloc (.cells (madeCells #[Value.int .i64 0] L) 2)) := (Ext.refl _).alloc _
  clear q0 q1 hO4 hO5 hE4 hE5
  go_wp2
  clear hmk q01 q11
  go_loopg [30] n5 (fun gh ix wr => ∃ i : Nat, i ≤ n5 ∧ gh = n5 - i ∧ ix = .int .i64 i ∧ OwnI wr w5.heap.size (some ⟨w5.heap.size, 0, none⟩) L L (mulTo (digs x p n5) (digs y p n5) p L i) ∧ Ext w5 wr)
  case atStart => exact ⟨0, Nat.zero_le _, rfl, rfl, H0, hE0⟩
  case round =>
    clear H0 hE0
    obtain ⟨i, hi, rfl, rfl, hO, hE⟩ := hrel
    by_cases hlt : i < n5
    · have hzi : (i : Int) < (n5 : Int) := by omega
      go_wp2
      go_loopg [35] n5 (fun gh ix wi => ∃ j : Nat, j ≤ n5 ∧ gh = n5 - j ∧ ix = .int .i64 j ∧ OwnI wi w5.heap.size (some ⟨w5.heap.size, 0, none⟩) L L (mulIn (digs x p n5) (digs y p n5) p i j (mulTo (digs x p n5) (digs y p n5) p L i)) ∧ Ext w5 wi)
      case atStart => exact ⟨0, Nat.zero_le _, rfl, rfl, hO, hE⟩
      case round =>
        clear hO hE
        obtain ⟨j, hj, rfl, rfl, hO, hE⟩ := hrel
        by_cases hlj : j < n5
        · have hzj : (j : Int) < (n5 : Int) := by omega
          have hat : i + j < L := by have := HLk.out; omega
          have hzat : (i : Int) + (j : Int) < (L : Int) := by omega
          obtain ⟨hcv, hfv⟩ := hO.giI5 hat
          obtain ⟨v, hv⟩ : ∃ v, gi (mulIn (digs x p n5) (digs y p n5) p i j (mulTo (digs x p n5) (digs y p n5) p L i)) (i + j) = v := ⟨_, rfl⟩
          have HV := Lib.hid hv
          obtain ⟨hv0, hv1⟩ := (mulIn_bnd (mulTo_bnd (xs := digs x p n5) (ys := digs y p n5) (show (0 : Int) < (p : Int) by omega) L i) i j (xs := digs x p n5) (ys := digs y p n5)) (i + j)
          rw [hv] at hcv hv0 hv1
          clear hv
          obtain ⟨b4, o4, rfl, hcx⟩ := (hr4.ext hE).gi hlt
          obtain ⟨b5, o5, rfl, hcy⟩ := (hr5.ext hE).gi hlj
          obtain ⟨xv, hxv⟩ : ∃ xv, gi (digs x p n5) i = xv := ⟨_, rfl⟩
          obtain ⟨yv, hyv⟩ : ∃ yv, gi (digs y p n5) j = yv := ⟨_, rfl⟩
          have HXV := Lib.hid hxv
          have HYV := Lib.hid hyv
          obtain ⟨hxv0, hxv1⟩ := (digs_bnd (n := x) (p := p) (k := n5) (by omega)) i
          obtain ⟨hyv0, hyv1⟩ := (digs_bnd (n := y) (p := p) (k := n5) (by omega)) j
          rw [hxv] at hcx hxv0 hxv1
          rw [hyv] at hcy hyv0 hyv1
          clear hxv hyv
          obtain ⟨xv, rfl⟩ := Int.eq_ofNat_of_zero_le hxv0
          obtain ⟨yv, rfl⟩ := Int.eq_ofNat_of_zero_le hyv0
          have hm0 : (0 : Int) ≤ (xv : Int) * (yv : Int) := by exact_mod_cast Nat.zero_le (xv * yv)
          have hm1 : (xv : Int) * (yv : Int) ≤ 4096 := by have := Nat.mul_le_mul (show xv ≤ 64 by omega) (show yv ≤ 64 by omega); exact_mod_cast this
          obtain ⟨t, ht⟩ : ∃ t, (v + (xv : Int) * (yv : Int)) % (p : Int) = t := ⟨_, rfl⟩
          have hpz : (1 : Int) ≤ (p : Int) := by omega
          have HS : Hid ((mulIn (digs x p n5) (digs y p n5) p i j (mulTo (digs x p n5) (digs y p n5) p L i)).set (i + j) t = mulIn (digs x p n5) (digs y p n5) p i (j + 1) (mulTo (digs x p n5) (digs y p n5) p L i)) := Lib.hid (by rw [mulIn, HV.out, HXV.out, HYV.out, ht])
          have hO2 := hO.set (k := i + j) rfl t
          rw [HS.out] at hO2
          have hE2 := hE.setCell (p := ⟨w5.heap.size, i + j, none⟩) (Nat.le_refl _) (.int .i64 t)
          have hcp : wr.cell? ⟨w.heap.size, 0, none⟩ = some (.int .i64 p) := cell_blk (heap_ext hE HG5.out) rfl
          clear hO hE
          go_wp2_with fail
          go_region
          go_wp2
          go_roundg (n5 - (j + 1))
          case measure => go_light; omega
          case rel => go_light; exact ⟨j + 1, by omega, rfl, by go_num, hO2.ext ((Ext.refl _).drew), hE2.drew⟩
        · have hzj : ¬ (j : Int) < (n5 : Int) := by omega
          obtain rfl : n5 = j := by omega
          have HS : Hid (mulIn (digs x p n5) (digs y p n5) p i n5 (mulTo (digs x p n5) (digs y p n5) p L i) = mulTo (digs x p n5) (digs y p n5) p L (i + 1)) := Lib.hid (by rw [mulTo, digs_len])
          rw [HS.out] at hO
          go_wp2
          go_roundg (n5 - (i + 1))
          case measure => go_light; omega
          case rel => go_light; exact ⟨i + 1, by omega, rfl, by go_num, hO, hE⟩
    · have hzi : ¬ (i : Int) < (n5 : Int) := by omega
      obtain rfl : n5 = i := by omega
      have q0 : wr.cell? ⟨w.heap.size, 0, none⟩ = some (.int .i64 p) := cell_blk (heap_ext hE HG5.out) rfl
      have q2 : wr.cell? ⟨w.heap.size, 2, none⟩ = some (.slice a n c) := cell_blk (heap_ext hE HG5.out) rfl
      have HX := Lib.hid (hx.ext (hE6.trans hE))
      have HRO := Lib.hid hO.rdI
      have HBm := Lib.hid (mulTo_bnd (xs := digs x p n5) (ys := digs y p n5) (show (0 : Int) < (p : Int) by omega) L n5)
      clear hO
      go_wp2_with fail
      go_region_held3 (fun w' => w'.cell? ⟨w.heap.size, 0, none⟩ = some (.int .i64 p) ∧ w'.cell? ⟨w.heap.size, 2, none⟩ = some (.slice a n c))
        (first | exact ⟨q0, q2⟩ | exact ⟨Ext.cell ((Ext.refl _).drew) q0, Ext.cell ((Ext.refl _).drew) q2⟩ | exact ⟨Ext.cell (Ext.trans ((Ext.refl _).drew) hE7) q0, Ext.cell (Ext.trans ((Ext.refl _).drew) hE7) q2⟩)
        (first
          | (go_at_call 82; refine (remainder_any _ L L (mulTo (digs x p n5) (digs y p n5) p L n5) a n c (fpoly p n5) p _ (HRO.out.ext ((Ext.refl _).drew)) (HX.out.ext ((Ext.refl _).drew)) HBm.out (fpoly_bnd hp2) (by omega) hp (by rw [Hn.out]; omega) (by rw [Hn.out, HLk.out]; omega) (by omega)).mono ?_; rintro e w7 ⟨a7, n7, c7, rfl, hO7, hE7⟩; have Hn7 : Hid (n7 = n5) := Lib.hid (by rw [hO7.len, rest_len (by rw [fpoly_len, mulTo_len, HLk.out]; omega), fpoly_len]; omega); have hn7 : n7 ≤ 64 := (by rw [Hn7.out]; omega))
          | (go_at_call 81; refine (numberOf_any a7 n7 c7 (rest (mulTo (digs x p n5) (digs y p n5) p L n5) (fpoly p n5) p) p _ hO7.rdI (rest_bnd HBm.out) hp (by rw [Hn7.out]; exact HPK.out) (by omega)).mono ?_; rintro e w' ⟨rfl, rfl⟩))
      have hE8 := (hE6.trans hE).trans (Ext.trans ((Ext.refl _).drew) hE7)
      have HF : Hid (num p (rest (mulTo (digs x p n5) (digs y p n5) p L n5) (fpoly p n5) p) = prd x y p n5 (2 * n5)) := Lib.hid (by rw [prd, HLk.out])
      go_wp2
      go_ret
      exact ⟨by rw [HF.out]; rfl, hE8⟩
end Go.Proofs.Ytgggbicmmijlnaa
