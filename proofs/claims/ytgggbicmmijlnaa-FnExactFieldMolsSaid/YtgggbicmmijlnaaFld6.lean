/- Sums in fields by the program. Conditions: none. -/
import Derived.Test.YtgggbicmmijlnaaFld5
namespace Go.Proofs.Ytgggbicmmijlnaa
open Go.RowKit

def cmb (x y p k : Nat) : Int := num p (addTo (digs x p k) (digs y p k) p k)
set_option maxRecDepth 100000 in
set_option maxHeartbeats 6400000 in
theorem combine_any (p k : Nat) (a : Option Addr) (n c : Nat) (x y : Nat) (w : World) (hp2 : 2 ≤ p) (hp : p ≤ 64) (hk1 : 1 ≤ k) (hk : k ≤ 64) (hpk : p ^ k ≤ 64) (hx1 : x ≤ 1000) (hy1 : y ≤ 1000) :
    Calls Try.prog 53 #[.agg #[.int .i64 p, .int .i64 k, .slice a n c], .int .i64 x, .int .i64 y, .int .i64 1] w fun e w' => e = .returned (.int .i64 (cmb x y p k)) ∧ Ext w w' := by
  have HPK := Lib.hid hpk
  clear hpk
  obtain ⟨W, hW⟩ : ∃ W, (w.alloc (.cells #[.int .i64 p, .int .i64 k, .slice a n c] 67)) = W := ⟨_, rfl⟩
  have hEW : Ext w W := by rw [← hW]; exact (Ext.refl _).alloc _
  have HG : Hid (W.heap[w.heap.size]? = some (.cells #[.int .i64 p, .int .i64 k, .slice a n c] 67 (0, 0))) := Lib.hid (by rw [← hW]; exact heap_alloc_new _ _)
  have q0 : W.cell? ⟨w.heap.size, 0, none⟩ = some (.int .i64 p) := cell_blk HG.out rfl
  have q1 : W.cell? ⟨w.heap.size, 1, none⟩ = some (.int .i64 k) := cell_blk HG.out rfl
  go_enter Try.func53, Try.ntmps53
  go_wp2_with fail
  clear hW
  go_region_held3 (fun w' => w'.cell? ⟨w.heap.size, 0, none⟩ = some (.int .i64 p) ∧ w'.cell? ⟨w.heap.size, 1, none⟩ = some (.int .i64 k))
    (first | exact ⟨q0, q1⟩ | exact ⟨Ext.cell ((Ext.refl _).drew) q0, Ext.cell ((Ext.refl _).drew) q1⟩ | exact ⟨Ext.cell (Ext.trans ((Ext.refl _).drew) hE4) q0, Ext.cell (Ext.trans ((Ext.refl _).drew) hE4) q1⟩ | exact ⟨Ext.cell (Ext.trans (Ext.trans ((Ext.refl _).drew) hE4) hE5) q0, Ext.cell (Ext.trans (Ext.trans ((Ext.refl _).drew) hE4) hE5) q1⟩)
    (first
      | (go_at_call 80; (with_reducible refine (digitsOf_any x p k W.drew (by omega) (by omega) (by omega) (by omega)).mono ?_); rintro e w4 ⟨a4, n4, c4, rfl, hO4, hE4⟩)
      | (go_at_call 80; (with_reducible refine (digitsOf_any y p k w4 (by omega) (by omega) (by omega) (by omega)).mono ?_); rintro e w5 ⟨a5, n5, c5, rfl, hO5, hE5⟩))
  have hEd : Ext W w5 := Ext.trans (Ext.trans ((Ext.refl _).drew) hE4) hE5
  have hE6 := hEW.trans hEd
  obtain rfl : n4 = k := by rw [hO4.len, digs_len]
  obtain rfl : n5 = n4 := by rw [hO5.len, digs_len]
  have HO4 := Lib.hid ((hO4.ext hE5).base (B' := W.heap.size) (by simp))
  obtain ⟨g4, rfl, hB4, hlt4⟩ := HO4.out.some5 (by omega)
  obtain ⟨g5, rfl, hB5, hlt5⟩ := hO5.some5 (by omega)
  have hne : g4 ≠ g5 := by have := (hO4.lt (g := g4) rfl).2; omega
  have HR5 := Lib.hid hO5.rdI
  have hO0 := HO4.out
  have HG5 := Lib.hid (heap_ext hEd HG.out)
  have hwW : w.heap.size < W.heap.size := (Array.getElem?_eq_some_iff.1 HG.out).1
  have hq1 := hO0.le
  have hq3 := HR5.out.le
  clear q0 q1 hO4 hO5 hE4 hE5
  go_wp2
  go_loopg [26] n5 (fun gh ix wr => ∃ i : Nat, i ≤ n5 ∧ gh = n5 - i ∧ ix = .int .i64 i ∧ OwnI wr W.heap.size (some ⟨g4, 0, none⟩) n5 c4 (addTo (digs x p n5) (digs y p n5) p i) ∧ RdI wr (some ⟨g5, 0, none⟩) n5 c5 (digs y p n5) ∧ Hid (wr.heap[w.heap.size]? = some (.cells #[.int .i64 p, .int .i64 n5, .slice a n c] 67 (0, 0))) ∧ Ext w wr)
  case atStart => exact ⟨0, Nat.zero_le _, rfl, rfl, hO0, HR5.out, HG5, hE6⟩
  case round =>
    clear hO0
    obtain ⟨i, hi, rfl, rfl, hO, hR, HGr, hE⟩ := hrel
    by_cases hlt : i < n5
    · have hzi : (i : Int) < (n5 : Int) := by omega
      obtain ⟨hcv, hfv⟩ := hO.giI5 hlt
      obtain ⟨b5, o5, hh, hcy⟩ := hR.gi hlt
      cases hh
      rw [Nat.zero_add] at hcy
      obtain ⟨v, hv⟩ : ∃ v, gi (addTo (digs x p n5) (digs y p n5) p i) i = v := ⟨_, rfl⟩
      have HV := Lib.hid hv
      obtain ⟨hv0, hv1⟩ := (addTo_bnd (ys := digs y p n5) (digs_bnd (n := x) (p := p) (k := n5) (by omega)) i) i
      rw [hv] at hcv hv0 hv1
      clear hv
      obtain ⟨yv, hyv⟩ : ∃ yv, gi (digs y p n5) i = yv := ⟨_, rfl⟩
      have HYV := Lib.hid hyv
      obtain ⟨hyv0, hyv1⟩ := (digs_bnd (n := y) (p := p) (k := n5) (by omega)) i
      rw [hyv] at hcy hyv0 hyv1
      clear hyv
      obtain ⟨t, ht⟩ : ∃ t, (v + yv + (p : Int)) % (p : Int) = t := ⟨_, rfl⟩
      have hpz : (1 : Int) ≤ (p : Int) := by omega
      have HS : Hid ((addTo (digs x p n5) (digs y p n5) p i).set i t = addTo (digs x p n5) (digs y p n5) p (i + 1)) := Lib.hid (by rw [addTo, HV.out, HYV.out, ← ht, Int.add_emod_right])
      have hO2 := hO.set (k := i) rfl t
      rw [HS.out] at hO2
      have hE2 := hE.setCell (p := ⟨g4, i, none⟩) (by show w.heap.size ≤ g4; omega) (.int .i64 t)
      have hcp : wr.cell? ⟨w.heap.size, 0, none⟩ = some (.int .i64 p) := cell_blk HGr.out rfl
      have hO4y : ∀ k, k < n5 → (wr.setCell ⟨g4, i, none⟩ (.int .i64 t)).cell? ⟨g5, k, none⟩ = wr.cell? ⟨g5, k, none⟩ := fun k _ => World.cell?_of_block (Below.heap_setCell _ _ _ _ (fun e => hne e.symm))
      have hR2 : RdI (wr.setCell ⟨g4, i, none⟩ (.int .i64 t)) (some ⟨g5, 0, none⟩) n5 c5 (digs y p n5) := ⟨hR.len, hR.le, hR.max, hR.nil, fun k z hz => by
        obtain ⟨b, o, vv, h1, h2, h3⟩ := hR.get k z hz
        cases h1
        refine ⟨_, _, vv, rfl, ?_, h3⟩
        rw [Nat.zero_add] at h2 ⊢
        rw [hO4y k (by rw [hR.len]; exact (List.getElem?_eq_some_iff.1 hz).1)]
        exact h2⟩
      have HG2 : Hid ((wr.setCell ⟨g4, i, none⟩ (.int .i64 t)).heap[w.heap.size]? = some (.cells #[.int .i64 p, .int .i64 n5, .slice a n c] 67 (0, 0))) := Lib.hid (by rw [Below.heap_setCell _ _ _ _ (show w.heap.size ≠ g4 by omega)]; exact HGr.out)
      clear hO hE hR hO4y
      go_wp2_with fail
      go_region
      go_wp2
      go_roundg (n5 - (i + 1))
      case measure => go_light; omega
      case rel => go_light; exact ⟨i + 1, by omega, rfl, by go_num, hO2.ext ((Ext.refl _).drew), hR2.ext ((Ext.refl _).drew), Lib.hid (heap_ext ((Ext.refl _).drew) HG2.out), hE2.drew⟩
    · have hzi : ¬ (i : Int) < (n5 : Int) := by omega
      obtain rfl : n5 = i := by omega
      have q0 : wr.cell? ⟨w.heap.size, 0, none⟩ = some (.int .i64 p) := cell_blk HGr.out rfl
      have HBm := Lib.hid (addTo_bnd (ys := digs y p n5) (digs_bnd (n := x) (p := p) (k := n5) (by omega)) n5)
      go_wp2_with fail
      refine (numberOf_any _ n5 _ (addTo (digs x p n5) (digs y p n5) p n5) p _ hO.rdI HBm.out hp HPK.out (by omega)).mono ?_
      rintro e w' ⟨rfl, rfl⟩
      go_wp2
      go_ret
      exact ⟨rfl, hE⟩
end Go.Proofs.Ytgggbicmmijlnaa
