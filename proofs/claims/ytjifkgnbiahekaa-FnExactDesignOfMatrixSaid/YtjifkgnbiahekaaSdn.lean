/- SortDesign of both. Conditions: none. -/
import Derived.Test.YtjifkgnbiahekaaSd
import Derived.Test.YtjifkgnbiahekaaVd
import Derived.Test.YtjifkgnbiahekaaRst
import Derived.Test.YtjifkgnbiahekaaOwnL
namespace Go.Proofs.Ytjifkgnbiahekaa
open Go.RowKit

noncomputable def mkC (z : Int) (p : List (List Int)) : Int := if pb (AllBlk z p) then (if p.length ≤ 128 then 0 else 5) else 1
noncomputable def mkZ (z : Int) (p : List (List Int)) : Int := if mkC z p = 0 then z else 0
noncomputable def mkM (z : Int) (p : List (List Int)) : List (List Int) := if mkC z p = 0 then srtL p else []
theorem mkC_0 {z : Int} {p : List (List Int)} (h : AllBlk z p) (hl : p.length ≤ 128) : mkC z p = 0 := by rw [mkC, if_pos (pb_true h), if_pos hl]
theorem mkC_5 {z : Int} {p : List (List Int)} (h : AllBlk z p) (hl : ¬ p.length ≤ 128) : mkC z p = 5 := by rw [mkC, if_pos (pb_true h), if_neg hl]
theorem mkC_1 {z : Int} {p : List (List Int)} (h : ¬ AllBlk z p) : mkC z p = 1 := by rw [mkC, pb_false h]; rfl
theorem mk_no {z : Int} {p : List (List Int)} {c : Int} (h : mkC z p = c) (hc : c ≠ 0) : 0 = mkZ z p ∧ [] = mkM z p ∧ c = mkC z p := by
  rw [mkZ, mkM, h, if_neg hc, if_neg hc]; exact ⟨rfl, rfl, rfl⟩
theorem mk_yes {z : Int} {p : List (List Int)} (h : mkC z p = 0) : z = mkZ z p ∧ srtL p = mkM z p ∧ 0 = mkC z p := by
  rw [mkZ, mkM, h, if_pos rfl, if_pos rfl]; exact ⟨rfl, rfl, rfl⟩

theorem tot_perm {p q : List (List Int)} (h : p.Perm q) : tot p = tot q := by
  induction h with
  | nil => rfl
  | cons x _ ih => simp only [tot, List.map_cons, List.sum_cons] at *; omega
  | swap x y l => simp only [tot, List.map_cons, List.sum_cons]; omega
  | trans _ _ h1 h2 => exact h1.trans h2
theorem srtL_tot (p : List (List Int)) : tot (srtL p) = tot p := tot_perm (srtL_perm p)

set_option maxRecDepth 100000 in
set_option maxHeartbeats 3200000 in
theorem l10Make_any (z : Int) (a : Option Addr) (n c : Nat) (p : List (List Int)) (w : World) (hx : RdR w a n c p) (hs : p.length + tot p ≤ 1048576) (h1 : -9223372036854775807 ≤ z) (h2 : z ≤ 9223372036854775807) :
    Calls Try.prog 72 #[.int .i64 z, .slice a n c] w (RetDC w (mkZ z p) (mkM z p) (mkC z p)) := by
  have hb1 := hx.le
  have hb2 := hx.max
  have Hl := Lib.hid hx.len
  have hEW : Ext w (w.alloc (.cells #[.int .i64 0, .slice none 0 0] 28)) := (Ext.refl _).alloc _
  have HB : Hid ((w.alloc (.cells #[.int .i64 0, .slice none 0 0] 28)).heap[w.heap.size]? = some (.cells #[.int .i64 0, .slice none 0 0] 28 (0, 0))) := Lib.hid (heap_alloc_new _ _)
  have hsW : (w.alloc (.cells #[.int .i64 0, .slice none 0 0] 28)).heap.size = w.heap.size + 1 := by simp
  go_enter Try.func72, Try.ntmps72
  go_wp2
  go_loopg [6] n (fun gh i wr => ∃ k : Nat, k ≤ n ∧ gh = n - k ∧ i = .int .i64 k ∧ Ext (w.alloc (.cells #[.int .i64 0, .slice none 0 0] 28)) wr ∧ Hid (∀ i, i < k → BlkOk z (gr p i)))
  case atStart => exact ⟨0, Nat.zero_le _, rfl, rfl, Ext.refl _, Lib.hid (fun i h => absurd h (Nat.not_lt_zero _))⟩
  case round =>
    obtain ⟨k, hk, rfl, rfl, hE, HP⟩ := hrel
    have hEw := hEW.trans hE
    by_cases hlt : k < n
    · have hz : (k : Int) < (n : Int) := by omega
      obtain ⟨b, o, ai, ni, ci, rfl, hc, hrow⟩ := (hx.ext hEw).gr hlt
      rcases pbc (BlkOk z (gr p k)) with ⟨hb, Hb⟩ | ⟨hb, Hb⟩
      · go_wp2_with fail
        refine (l10Block_any ai ni ci (gr p k) z _ hrow h1 h2).mono ?_
        rintro e w5 ⟨rfl, hQ⟩
        rw [hb]
        have hE5 := hE.trans hQ.ext
        have HP2 : Hid (∀ i, i < k + 1 → BlkOk z (gr p i)) := Lib.hid (fun i hi => by
          by_cases e : i = k
          · subst e; exact Hb.out
          · exact HP.out i (by omega))
        clear hE hEw hQ hc hrow hb
        go_wp2
        go_roundg (n - (k + 1))
        case measure => go_light; omega
        case rel => go_light; exact ⟨k + 1, by omega, rfl, by go_num, hE5, HP2⟩
      · go_wp2_with fail
        refine (l10Block_any ai ni ci (gr p k) z _ hrow h1 h2).mono ?_
        rintro e w5 ⟨rfl, hQ⟩
        rw [hb]
        have hE5 := hE.trans hQ.ext
        have hC := Lib.hid (mk_no (mkC_1 (z := z) (p := p) (fun h => Hb.out (h k (by have := Hl.out; omega)))) (by decide))
        clear hE hEw hQ hc hrow hb
        have HBr := heap_ext hE5 HB.out
        have q0 := cell_blk (k := 0) HBr rfl
        have q1 := cell_blk (k := 1) HBr rfl
        have f0 := frozen_blk (k := 0) HBr
        have f1 := frozen_blk (k := 1) HBr
        have HBh := Lib.hid HBr
        clear HBr
        go_wp2
        (try simp only [Exit.inBlock, Exit.then])
        refine bodyPost_ret (results_row_tmp rfl _ _ w.heap.size #[.int .i64 0, .slice none 0 0] rfl (run_loadVar_row _ w.heap.size 28 28 #[.int .i64 0, .slice none 0 0] (0, 0) _ (by first | exact HBh.out | simp [World.setCell, Array.getElem?_modify, HBh.out]) Try.underlying28 rfl (by kernel_rfl))) rfl ?_
        exact RetDC.nil_ hC.out.1 hC.out.2.1 hC.out.2.2 (by first | exact ((hEW.trans hE5).setCell (p := ⟨w.heap.size, 0, none⟩) (Nat.le_refl _) (.int .i64 0)).setCell (p := ⟨w.heap.size, 1, none⟩) (Nat.le_refl _) (.slice none 0 0) | exact hEW)
    · have hz : ¬ (k : Int) < (n : Int) := by omega
      obtain rfl : n = k := by omega
      have Hall : Hid (AllBlk z p) := Lib.hid (by have := HP.out; rwa [Hl.out] at this)
      by_cases h128 : (128 : Int) < (n : Int)
      · have hg : decide ((128 : Int) < (n : Int)) = true := decide_eq_true h128
        have hC := Lib.hid (mk_no (mkC_5 Hall.out (by have := Hl.out; omega)) (by decide))
        clear hEw
        have HBr := heap_ext hE HB.out
        have q0 := cell_blk (k := 0) HBr rfl
        have q1 := cell_blk (k := 1) HBr rfl
        have f0 := frozen_blk (k := 0) HBr
        have f1 := frozen_blk (k := 1) HBr
        have HBh := Lib.hid HBr
        clear HBr
        go_wp2
        (try simp only [Exit.inBlock, Exit.then])
        refine bodyPost_ret (results_row_tmp rfl _ _ w.heap.size #[.int .i64 0, .slice none 0 0] rfl (run_loadVar_row _ w.heap.size 28 28 #[.int .i64 0, .slice none 0 0] (0, 0) _ (by first | exact HBh.out | simp [World.setCell, Array.getElem?_modify, HBh.out]) Try.underlying28 rfl (by kernel_rfl))) rfl ?_
        exact RetDC.nil_ hC.out.1 hC.out.2.1 hC.out.2.2 (by first | exact ((hEW.trans hE).setCell (p := ⟨w.heap.size, 0, none⟩) (Nat.le_refl _) (.int .i64 0)).setCell (p := ⟨w.heap.size, 1, none⟩) (Nat.le_refl _) (.slice none 0 0) | exact hEW)
      · have hg : decide ((128 : Int) < (n : Int)) = false := decide_eq_false h128
        have hC := Lib.hid (mk_yes (mkC_0 Hall.out (by have := Hl.out; omega)))
        go_wp2_with fail
        refine (l10Sort_any _ _ _ p _ (hx.ext hEw) hs).mono ?_
        rintro e w5 ⟨a5, n5, c5, rs5, rfl, hO, hE5⟩
        have hE6 := hE.trans hE5
        have hlt : ¬ OwnR.fp a5 rs5 w.heap.size := fun hf => by have h8 := (hO.lt hf).1; have h9 := hE.size; omega
        have HBr := heap_ext hE6 HB.out
        have q0 := cell_blk (k := 0) HBr rfl
        have q1 := cell_blk (k := 1) HBr rfl
        have f0 := frozen_blk (k := 0) HBr
        have f1 := frozen_blk (k := 1) HBr
        have HBh := Lib.hid HBr
        clear HBr
        go_wp2
        (try simp only [Exit.inBlock, Exit.then])
        refine bodyPost_ret (results_row_tmp rfl _ _ w.heap.size #[.int .i64 z, .slice a5 n5 c5] rfl (run_loadVar_row _ w.heap.size 28 28 #[.int .i64 z, .slice a5 n5 c5] (0, 0) _ (by first | exact HBh.out | simp [World.setCell, Array.getElem?_modify, HBh.out]) Try.underlying28 rfl (by kernel_rfl))) rfl ?_
        exact RetDC.mk_ (((hO).setOther (p := ⟨w.heap.size, 0, none⟩) (hlt) (.int .i64 z)).setOther (p := ⟨w.heap.size, 1, none⟩) (hlt) (.slice a5 n5 c5)) (hEW.trans hE).size hC.out.1 hC.out.2.1 hC.out.2.2 (((hEW.trans hE6).setCell (p := ⟨w.heap.size, 0, none⟩) (Nat.le_refl _) (.int .i64 z)).setCell (p := ⟨w.heap.size, 1, none⟩) (Nat.le_refl _) (.slice a5 n5 c5))

set_option maxRecDepth 100000 in
set_option maxHeartbeats 3200000 in
theorem sorted_any (z : Int) (a : Option Addr) (n c : Nat) (p : List (List Int)) (w : World) (hx : RdR w a n c p) (hs : p.length + tot p ≤ 1048576) (hall : AllBlk z p) :
    Calls Try.prog 74 #[.int .i64 z, .slice a n c] w (RetDC w (mkZ z p) (mkM z p) (mkC z p)) := by
  have hb1 := hx.le
  have hb2 := hx.max
  have Hl := Lib.hid hx.len
  have Hall := Lib.hid hall
  have hEW : Ext w (w.alloc (.cells #[.int .i64 0, .slice none 0 0] 28)) := (Ext.refl _).alloc _
  have HB : Hid ((w.alloc (.cells #[.int .i64 0, .slice none 0 0] 28)).heap[w.heap.size]? = some (.cells #[.int .i64 0, .slice none 0 0] 28 (0, 0))) := Lib.hid (heap_alloc_new _ _)
  have hsW : (w.alloc (.cells #[.int .i64 0, .slice none 0 0] 28)).heap.size = w.heap.size + 1 := by simp
  go_enter Try.func74, Try.ntmps74
  by_cases h128 : (128 : Int) < (n : Int)
  · have hg : decide ((128 : Int) < (n : Int)) = true := decide_eq_true h128
    have hC := Lib.hid (mk_no (mkC_5 Hall.out (by have := Hl.out; omega)) (by decide))
    have hE : Ext (w.alloc (.cells #[.int .i64 0, .slice none 0 0] 28)) (w.alloc (.cells #[.int .i64 0, .slice none 0 0] 28)) := Ext.refl _
    have HBr := heap_ext hE HB.out
    have q0 := cell_blk (k := 0) HBr rfl
    have q1 := cell_blk (k := 1) HBr rfl
    have f0 := frozen_blk (k := 0) HBr
    have f1 := frozen_blk (k := 1) HBr
    have HBh := Lib.hid HBr
    clear HBr
    go_wp2
    (try simp only [Exit.inBlock, Exit.then])
    refine bodyPost_ret (results_row_tmp rfl _ _ w.heap.size #[.int .i64 0, .slice none 0 0] rfl (run_loadVar_row _ w.heap.size 28 28 #[.int .i64 0, .slice none 0 0] (0, 0) _ (by first | exact HBh.out | simp [World.setCell, Array.getElem?_modify, HBh.out]) Try.underlying28 rfl (by kernel_rfl))) rfl ?_
    exact RetDC.nil_ hC.out.1 hC.out.2.1 hC.out.2.2 (by first | exact ((hEW.trans hE).setCell (p := ⟨w.heap.size, 0, none⟩) (Nat.le_refl _) (.int .i64 0)).setCell (p := ⟨w.heap.size, 1, none⟩) (Nat.le_refl _) (.slice none 0 0) | exact hEW)
  · have hg : decide ((128 : Int) < (n : Int)) = false := decide_eq_false h128
    have hn : n ≤ 128 := by omega
    have hC := Lib.hid (mk_yes (mkC_0 Hall.out (by have := Hl.out; omega)))
    clear h128
    go_wp2_with fail
    refine (copyLists_any _ _ _ p _ (hx.ext hEW) (by omega)).mono ?_
    rintro e w2 ⟨a2, n2, c2, rs, rfl, hO, hE2⟩
    have hn2 : n2 ≤ 1048576 := by have := hO.len; omega
    have hO2 := hO.ext ((Ext.refl w2).alloc (.cells #[.int .i64 z, .slice a2 n2 c2] 28))
    have HG : Hid ((w2.alloc (.cells #[.int .i64 z, .slice a2 n2 c2] 28)).heap[w2.heap.size]? = some (.cells #[.int .i64 z, .slice a2 n2 c2] 28 (0, 0))) := Lib.hid (heap_alloc_new _ _)
    have hEk := hE2.alloc (.cells #[.int .i64 z, .slice a2 n2 c2] 28)
    go_wp2_with fail
    refine (slSortFunc_any hO2 (by omega)).mono ?_
    rintro e w3 ⟨rfl, ⟨rs3, hO3, hmem⟩, honly⟩
    have hg2 : ¬ onlyA a2 w2.heap.size := fun h => by have := (hO.lt (.inl h)).2; omega
    have HG3 := only_heap honly (by simp) hg2 HG.out
    have hfp : ¬ OwnR.fp a2 rs w.heap.size := fun hf => by have h8 := (hO.lt hf).1; omega
    have HB3 := only_heap honly (by have := hEk.size; omega) (fun h => hfp (.inl h)) (heap_ext hEk HB.out)
    have hE4 : Ext w w3 := Ext.only (hEW.trans hEk) honly (fun b hb => by have := (hO.lt (.inl hb)).1; omega)
    have hlt : ¬ OwnR.fp a2 rs3 w.heap.size := fun hf => hfp (by
      rcases hf with hf | ⟨r, hr, hf⟩
      · exact .inl hf
      · exact .inr ⟨r, (hmem r).1 hr, hf⟩)
    have k0 := cell_blk (k := 0) HG3 rfl
    have k1 := cell_blk (k := 1) HG3 rfl
    have HB4 := Lib.hid HB3
    have hszB : w.heap.size ≤ (w.alloc (.cells #[.int .i64 0, .slice none 0 0] 28)).heap.size := by omega
    clear hO hO2 hEk honly hg2 HG3 hfp HB3 hE2
    have HBr := HB4.out
    have q0 := cell_blk (k := 0) HBr rfl
    have q1 := cell_blk (k := 1) HBr rfl
    have f0 := frozen_blk (k := 0) HBr
    have f1 := frozen_blk (k := 1) HBr
    have HBh := Lib.hid HBr
    clear HBr
    go_wp2
    (try simp only [Exit.inBlock, Exit.then])
    refine bodyPost_ret (results_row_tmp rfl _ _ w.heap.size #[.int .i64 z, .slice a2 n2 c2] rfl (run_loadVar_row _ w.heap.size 28 28 #[.int .i64 z, .slice a2 n2 c2] (0, 0) _ (by first | exact HBh.out | simp [World.setCell, Array.getElem?_modify, HBh.out]) Try.underlying28 rfl (by kernel_rfl))) rfl ?_
    exact RetDC.mk_ (((hO3).setOther (p := ⟨w.heap.size, 0, none⟩) (hlt) (.int .i64 z)).setOther (p := ⟨w.heap.size, 1, none⟩) (hlt) (.slice a2 n2 c2)) hszB hC.out.1 hC.out.2.1 hC.out.2.2 (((hE4).setCell (p := ⟨w.heap.size, 0, none⟩) (Nat.le_refl _) (.int .i64 z)).setCell (p := ⟨w.heap.size, 1, none⟩) (Nat.le_refl _) (.slice a2 n2 c2))

noncomputable def sdC (z : Int) (p : List (List Int)) : Int := if pb (1 ≤ z ∧ z ≤ 32) then mkC z p else 1
noncomputable def sdZ (z : Int) (p : List (List Int)) : Int := if pb (1 ≤ z ∧ z ≤ 32) then mkZ z p else 0
noncomputable def sdM (z : Int) (p : List (List Int)) : List (List Int) := if pb (1 ≤ z ∧ z ≤ 32) then mkM z p else []
theorem sd_no {z : Int} {p : List (List Int)} (h : ¬ ((1 ≤ z ∧ z ≤ 32) ∧ AllBlk z p)) : 0 = sdZ z p ∧ [] = sdM z p ∧ 1 = sdC z p := by
  by_cases hz : 1 ≤ z ∧ z ≤ 32
  · have := mk_no (mkC_1 (z := z) (p := p) (fun ha => h ⟨hz, ha⟩)) (by decide)
    rw [sdZ, sdM, sdC, if_pos (pb_true hz), if_pos (pb_true hz), if_pos (pb_true hz)]
    exact this
  · rw [sdZ, sdM, sdC, pb_false hz]; exact ⟨rfl, rfl, rfl⟩
theorem sd_yes {z : Int} (p : List (List Int)) (hz : 1 ≤ z ∧ z ≤ 32) : mkZ z p = sdZ z p ∧ mkM z p = sdM z p ∧ mkC z p = sdC z p := by
  rw [sdZ, sdM, sdC, if_pos (pb_true hz), if_pos (pb_true hz), if_pos (pb_true hz)]; exact ⟨rfl, rfl, rfl⟩
theorem mkM_tot (z : Int) (p : List (List Int)) : tot (mkM z p) ≤ tot p := by
  rw [mkM]
  split
  · rw [srtL_tot]; exact Nat.le_refl _
  · simp [tot]
theorem sdM_tot (z : Int) (p : List (List Int)) (h : p.length + tot p ≤ 1048576) : tot (sdM z p) ≤ 1048576 := by
  rw [sdM]
  split
  · have := mkM_tot z p; omega
  · simp [tot]

set_option maxRecDepth 100000 in
set_option maxHeartbeats 1600000 in
theorem specSdn (z : Int) (a : Option Addr) (n c : Nat) (p : List (List Int)) (w : World) (lo : -9223372036854775808 ≤ z) (hi : z ≤ 9223372036854775807) (hx : RdR w a n c p) (hs : p.length + tot p ≤ 1048576) :
    Calls Try.prog 35 #[.int .i64 z, .slice a n c] w (RetDC w (sdZ z p) (sdM z p) (sdC z p)) := by
  have hEW : Ext w (w.alloc (.cells #[.int .i64 0, .slice none 0 0] 28)) := (Ext.refl _).alloc _
  have HB : Hid ((w.alloc (.cells #[.int .i64 0, .slice none 0 0] 28)).heap[w.heap.size]? = some (.cells #[.int .i64 0, .slice none 0 0] 28 (0, 0))) := Lib.hid (heap_alloc_new _ _)
  have hsW : (w.alloc (.cells #[.int .i64 0, .slice none 0 0] 28)).heap.size = w.heap.size + 1 := by simp
  have hszB : w.heap.size ≤ (w.alloc (.cells #[.int .i64 0, .slice none 0 0] 28)).heap.size := by omega
  go_enter Try.func35, Try.ntmps35
  by_cases hz : 1 ≤ z ∧ z ≤ 32
  · have hC := Lib.hid (sd_yes p hz)
    have Hz := Lib.hid hz
    clear hz
    go_wp2_with fail
    refine (l00In_any _ _ _ true (decide_eq_true Hz.out) _).mono ?_
    rintro e w2 ⟨rfl, rfl⟩
    have hE : Ext (w.alloc (.cells #[.int .i64 0, .slice none 0 0] 28)) (w.alloc (.cells #[.int .i64 0, .slice none 0 0] 28)) := Ext.refl _
    go_wp2_with fail
    refine (l10Make_any z _ _ _ p _ (hx.ext hEW) hs (by have := Hz.out; omega) (by have := Hz.out; omega)).mono ?_
    rintro e w5 ⟨a5, n5, c5, rs5, rfl, hO, hE5⟩
    have hE6 := hE.trans hE5
    have hlt : ¬ OwnR.fp a5 rs5 w.heap.size := fun hf => by have h8 := (hO.lt hf).1; have h9 := hE.size; omega
    have hszB2 : w.heap.size ≤ _ := (hEW.trans hE).size
    have HBr := heap_ext hE6 HB.out
    have q0 := cell_blk (k := 0) HBr rfl
    have q1 := cell_blk (k := 1) HBr rfl
    have f0 := frozen_blk (k := 0) HBr
    have f1 := frozen_blk (k := 1) HBr
    have HBh := Lib.hid HBr
    clear HBr
    go_wp2
    (try simp only [Exit.inBlock, Exit.then])
    refine bodyPost_ret (results_row_tmp rfl _ _ w.heap.size #[.int .i64 (mkZ z p), .slice a5 n5 c5] rfl (run_loadVar_row _ w.heap.size 28 28 #[.int .i64 (mkZ z p), .slice a5 n5 c5] (0, 0) _ (by first | exact HBh.out | simp [World.setCell, Array.getElem?_modify, HBh.out]) Try.underlying28 rfl (by kernel_rfl))) rfl ?_
    exact RetDC.mk_ (((hO).setOther (p := ⟨w.heap.size, 0, none⟩) (hlt) (.int .i64 (mkZ z p))).setOther (p := ⟨w.heap.size, 1, none⟩) (hlt) (.slice a5 n5 c5)) hszB2 hC.out.1 hC.out.2.1 hC.out.2.2 (((hEW.trans hE6).setCell (p := ⟨w.heap.size, 0, none⟩) (Nat.le_refl _) (.int .i64 (mkZ z p))).setCell (p := ⟨w.heap.size, 1, none⟩) (Nat.le_refl _) (.slice a5 n5 c5))
  · have hC := Lib.hid (sd_no (z := z) (p := p) (fun h => hz h.1))
    have Hz := Lib.hid hz
    clear hz
    go_wp2_with fail
    refine (l00In_any _ _ _ false (decide_eq_false Hz.out) _).mono ?_
    rintro e w2 ⟨rfl, rfl⟩
    have hE : Ext (w.alloc (.cells #[.int .i64 0, .slice none 0 0] 28)) (w.alloc (.cells #[.int .i64 0, .slice none 0 0] 28)) := Ext.refl _
    have HBr := heap_ext hE HB.out
    have q0 := cell_blk (k := 0) HBr rfl
    have q1 := cell_blk (k := 1) HBr rfl
    have f0 := frozen_blk (k := 0) HBr
    have f1 := frozen_blk (k := 1) HBr
    have HBh := Lib.hid HBr
    clear HBr
    go_wp2
    (try simp only [Exit.inBlock, Exit.then])
    refine bodyPost_ret (results_row_tmp rfl _ _ w.heap.size #[.int .i64 0, .slice none 0 0] rfl (run_loadVar_row _ w.heap.size 28 28 #[.int .i64 0, .slice none 0 0] (0, 0) _ (by first | exact HBh.out | simp [World.setCell, Array.getElem?_modify, HBh.out]) Try.underlying28 rfl (by kernel_rfl))) rfl ?_
    exact RetDC.nil_ hC.out.1 hC.out.2.1 hC.out.2.2 (by first | exact ((hEW.trans hE).setCell (p := ⟨w.heap.size, 0, none⟩) (Nat.le_refl _) (.int .i64 0)).setCell (p := ⟨w.heap.size, 1, none⟩) (Nat.le_refl _) (.slice none 0 0) | exact hEW)

set_option maxRecDepth 100000 in
set_option maxHeartbeats 1600000 in
theorem implSdn (z : Int) (a : Option Addr) (n c : Nat) (p : List (List Int)) (w : World) (lo : -9223372036854775808 ≤ z) (hi : z ≤ 9223372036854775807) (hx : RdR w a n c p) (hs : p.length + tot p ≤ 1048576) :
    Calls Try.prog 36 #[.int .i64 z, .slice a n c] w (RetDC w (sdZ z p) (sdM z p) (sdC z p)) := by
  have hEW : Ext w (w.alloc (.cells #[.int .i64 0, .slice none 0 0] 28)) := (Ext.refl _).alloc _
  have HB : Hid ((w.alloc (.cells #[.int .i64 0, .slice none 0 0] 28)).heap[w.heap.size]? = some (.cells #[.int .i64 0, .slice none 0 0] 28 (0, 0))) := Lib.hid (heap_alloc_new _ _)
  have hsW : (w.alloc (.cells #[.int .i64 0, .slice none 0 0] 28)).heap.size = w.heap.size + 1 := by simp
  have hszB : w.heap.size ≤ (w.alloc (.cells #[.int .i64 0, .slice none 0 0] 28)).heap.size := by omega
  go_enter Try.func36, Try.ntmps36
  by_cases hz : (1 ≤ z ∧ z ≤ 32) ∧ AllBlk z p
  · have hC := Lib.hid (sd_yes p hz.1)
    have Hz := Lib.hid hz
    clear hz
    go_wp2_with fail
    refine (areBlocks_any _ _ _ p z _ (hx.ext hEW)).mono ?_
    rintro e w2 ⟨rfl, hE⟩
    rw [pb_true Hz.out]
    go_wp2_with fail
    refine (sorted_any z _ _ _ p _ (hx.ext (hEW.trans hE)) hs Hz.out.2).mono ?_
    rintro e w5 ⟨a5, n5, c5, rs5, rfl, hO, hE5⟩
    have hE6 := hE.trans hE5
    have hlt : ¬ OwnR.fp a5 rs5 w.heap.size := fun hf => by have h8 := (hO.lt hf).1; have h9 := hE.size; omega
    have hszB2 : w.heap.size ≤ _ := (hEW.trans hE).size
    have HBr := heap_ext hE6 HB.out
    have q0 := cell_blk (k := 0) HBr rfl
    have q1 := cell_blk (k := 1) HBr rfl
    have f0 := frozen_blk (k := 0) HBr
    have f1 := frozen_blk (k := 1) HBr
    have HBh := Lib.hid HBr
    clear HBr
    go_wp2
    (try simp only [Exit.inBlock, Exit.then])
    refine bodyPost_ret (results_row_tmp rfl _ _ w.heap.size #[.int .i64 (mkZ z p), .slice a5 n5 c5] rfl (run_loadVar_row _ w.heap.size 28 28 #[.int .i64 (mkZ z p), .slice a5 n5 c5] (0, 0) _ (by first | exact HBh.out | simp [World.setCell, Array.getElem?_modify, HBh.out]) Try.underlying28 rfl (by kernel_rfl))) rfl ?_
    exact RetDC.mk_ (((hO).setOther (p := ⟨w.heap.size, 0, none⟩) (hlt) (.int .i64 (mkZ z p))).setOther (p := ⟨w.heap.size, 1, none⟩) (hlt) (.slice a5 n5 c5)) hszB2 hC.out.1 hC.out.2.1 hC.out.2.2 (((hEW.trans hE6).setCell (p := ⟨w.heap.size, 0, none⟩) (Nat.le_refl _) (.int .i64 (mkZ z p))).setCell (p := ⟨w.heap.size, 1, none⟩) (Nat.le_refl _) (.slice a5 n5 c5))
  · have hC := Lib.hid (sd_no (z := z) (p := p) hz)
    have Hz := Lib.hid hz
    clear hz
    go_wp2_with fail
    refine (areBlocks_any _ _ _ p z _ (hx.ext hEW)).mono ?_
    rintro e w2 ⟨rfl, hE⟩
    rw [pb_false Hz.out]
    have HBr := heap_ext hE HB.out
    have q0 := cell_blk (k := 0) HBr rfl
    have q1 := cell_blk (k := 1) HBr rfl
    have f0 := frozen_blk (k := 0) HBr
    have f1 := frozen_blk (k := 1) HBr
    have HBh := Lib.hid HBr
    clear HBr
    go_wp2
    (try simp only [Exit.inBlock, Exit.then])
    refine bodyPost_ret (results_row_tmp rfl _ _ w.heap.size #[.int .i64 0, .slice none 0 0] rfl (run_loadVar_row _ w.heap.size 28 28 #[.int .i64 0, .slice none 0 0] (0, 0) _ (by first | exact HBh.out | simp [World.setCell, Array.getElem?_modify, HBh.out]) Try.underlying28 rfl (by kernel_rfl))) rfl ?_
    exact RetDC.nil_ hC.out.1 hC.out.2.1 hC.out.2.2 (by first | exact ((hEW.trans hE).setCell (p := ⟨w.heap.size, 0, none⟩) (Nat.le_refl _) (.int .i64 0)).setCell (p := ⟨w.heap.size, 1, none⟩) (Nat.le_refl _) (.slice none 0 0) | exact hEW)
end Go.Proofs.Ytjifkgnbiahekaa
