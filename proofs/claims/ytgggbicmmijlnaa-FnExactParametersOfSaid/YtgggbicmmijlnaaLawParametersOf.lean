/- The walk of the law FnExactParametersOf: it returns true. Conditions: none. -/
import Derived.Test.YtgggbicmmijlnaaPmts
import Derived.Test.YtgggbicmmijlnaaDsn
import Derived.Test.YtgggbicmmijlnaaTo
import Derived.Test.YtgggbicmmijlnaaEq
import Derived.Test.YtgggbicmmijlnaaSz
namespace Go.Proofs.Ytgggbicmmijlnaa
open Go.RowKit

set_option maxRecDepth 100000 in
set_option maxHeartbeats 3200000 in
theorem eqParameters_any (x1 x2 x3 x4 x5 : Int) (w : World) :
    Calls Try.prog 11 #[.agg #[.int .i64 x1, .int .i64 x2, .int .i64 x3, .int .i64 x4, .int .i64 x5], .agg #[.int .i64 x1, .int .i64 x2, .int .i64 x3, .int .i64 x4, .int .i64 x5]] w fun e w' => e = .returned (.bool true) ∧ Ext w w' := by
  have e1 : (x1 != x1) = false := by simp
  have e2 : (x2 != x2) = false := by simp
  have e3 : (x3 != x3) = false := by simp
  have e4 : (x4 != x4) = false := by simp
  have e5 : (x5 != x5) = false := by simp
  go_enter Try.func11, Try.ntmps11
  go_wp2
  go_ret
  exact ⟨rfl, ((Ext.refl _).alloc _).alloc _⟩

theorem five_cells {w : World} {g : Nat} {t : TypeId} {v1 v2 v3 v4 v5 : Value} (h : w.heap[g]? = some (.cells #[v1, v2, v3, v4, v5] t (0, 0))) :
    w.cell? ⟨g, 0, none⟩ = some v1 ∧ w.cell? ⟨g, 1, none⟩ = some v2 ∧ w.cell? ⟨g, 2, none⟩ = some v3 ∧ w.cell? ⟨g, 3, none⟩ = some v4 ∧ w.cell? ⟨g, 4, none⟩ = some v5 :=
  ⟨cell_blk h rfl, cell_blk h rfl, cell_blk h rfl, cell_blk h rfl, cell_blk h rfl⟩

set_option maxRecDepth 100000 in
set_option maxHeartbeats 3200000 in
theorem lawParametersOf (z0 : Int) (a0 : Option Addr) (n0 c0 : Nat) (x0 : List (List Int)) (w : World) (lo0 : -9223372036854775808 ≤ z0) (hi0 : z0 ≤ 9223372036854775807) (h0 : RdR w a0 n0 c0 x0) :
    Calls Try.prog 3 #[.agg #[.int .i64 z0, .slice a0 n0 c0]] w fun e w' => e = .returned (.bool true) ∧ Ext w w' := by
  by_cases s0 : ((x0.length + tot x0 : Nat) : Int) ≤ 1048576
  · obtain ⟨l0, hl0⟩ : ∃ l : Int, 1048576 - ((x0.length + tot x0 : Nat) : Int) = l := ⟨_, rfl⟩
    have b0 : 0 ≤ l0 ∧ l0 ≤ 1048576 := by omega
    obtain ⟨bl0, bh0⟩ := b0
    have Hl0 := Lib.hid hl0
    have t0 : x0.length + tot x0 ≤ 1048576 := by omega
    clear hl0 s0
    obtain ⟨x1, x2, x3, x4, x5, hx5⟩ : ∃ x1 x2 x3 x4 x5 : Int, parA z0 x0 = #[.int .i64 x1, .int .i64 x2, .int .i64 x3, .int .i64 x4, .int .i64 x5] := ⟨_, _, _, _, _, rfl⟩
    have HX5 := Lib.hid hx5
    clear hx5
    have sc0 : (parC z0 x0 != parC z0 x0) = false := by simp
    go_enter Try.func3, Try.ntmps3
    go_wp2_with fail
    obtain ⟨W, hW⟩ : ∃ W, (w.alloc (.cells #[.int .i64 z0, .slice a0 n0 c0] 24)) = W := ⟨_, rfl⟩
    have XW : Ext w W := by rw [← hW]; exact (Ext.refl _).alloc _
    have kb0 : Bx W (w.heap.size) z0 a0 n0 c0 := by rw [← hW]; exact ⟨(World.cell?_alloc_at _ _ _ _ (by simp)).trans rfl, (World.cell?_alloc_at _ _ _ _ (by simp)).trans rfl⟩
    rw [hW]; clear hW
    refine (szD_ok _ _ _ _ x0 1048576 _ (h0.ext XW) _ (by omega) (by omega) Hl0.out).mono ?_
    rintro e w1 ⟨rfl, E1⟩
    obtain ⟨p0, p1⟩ := kb0.ext E1
    go_wp2_with fail
    refine (to_D z0 a0 n0 c0 x0 _ (h0.ext (XW.trans E1)) (by have := h0.len; omega) (by omega)).mono ?_
    rintro e w2 ⟨a2, n2, c2, r2, rfl, O2, E2⟩
    have E02 := E1.trans E2
    clear p0 p1
    go_wp2_with fail
    refine (specPmt _ _ _ _ x0 _ O2.rd t0 lo0 hi0).mono ?_
    rintro e w3 ⟨rfl, E3⟩
    rw [HX5.out]
    have E03 := E02.trans E3
    obtain ⟨p0, p1⟩ := kb0.ext E03
    have lt0 : w.heap.size < w3.heap.size := World.block_lt_of_cell? _ _ p0
    have ne0 : w.heap.size ≠ w3.heap.size := Nat.ne_of_lt lt0
    go_wp2_with fail
    obtain ⟨w4, hw4⟩ : ∃ W, w3.alloc (.cells #[.int .i64 x1, .int .i64 x2, .int .i64 x3, .int .i64 x4, .int .i64 x5] 27) = W := ⟨_, rfl⟩
    have E34 : Ext w3 w4 := by rw [← hw4]; exact (Ext.refl _).alloc _
    have H4 : Hid (w4.heap[w3.heap.size]? = some (.cells #[.int .i64 x1, .int .i64 x2, .int .i64 x3, .int .i64 x4, .int .i64 x5] 27 (0, 0))) := Lib.hid (by rw [← hw4]; exact heap_alloc_new _ _)
    rw [hw4]; clear hw4 p0 p1 lt0 ne0
    have E04 := E03.trans E34
    refine (to_D z0 a0 n0 c0 x0 _ (h0.ext (XW.trans E04)) (by have := h0.len; omega) (by omega)).mono ?_
    rintro e w5 ⟨a5, n5, c5, r5, rfl, O5, E5⟩
    have E05 := E04.trans E5
    go_wp2_with fail
    obtain ⟨w6, hw6⟩ : ∃ W, w5.alloc (.cells #[.int .i64 z0, .slice a5 n5 c5] 30) = W := ⟨_, rfl⟩
    have E56 : Ext w5 w6 := by rw [← hw6]; exact (Ext.refl _).alloc _
    have kb6 : Bx w6 w5.heap.size z0 a5 n5 c5 := by rw [← hw6]; exact ⟨(World.cell?_alloc_at _ _ _ _ rfl).trans rfl, (World.cell?_alloc_at _ _ _ _ rfl).trans rfl⟩
    rw [hw6]; clear hw6
    have E06 := E05.trans E56
    refine (implPmt _ _ _ _ x0 _ (O5.rd.ext E56) t0 lo0 hi0).mono ?_
    rintro e w7 ⟨rfl, E7⟩
    rw [HX5.out]
    have E07 := E06.trans E7
    have E47 := (E5.trans E56).trans E7
    obtain ⟨c40, c41, c42, c43, c44⟩ := five_cells (heap_ext E47 H4.out)
    have lt4 : w3.heap.size < w7.heap.size := World.block_lt_of_cell? _ _ c40
    have ne4 : w3.heap.size ≠ w7.heap.size := Nat.ne_of_lt lt4
    go_wp2_with fail
    obtain ⟨w8, hw8⟩ : ∃ W, w7.alloc (.cells #[.int .i64 x1, .int .i64 x2, .int .i64 x3, .int .i64 x4, .int .i64 x5] 27) = W := ⟨_, rfl⟩
    have E78 : Ext w7 w8 := by rw [← hw8]; exact (Ext.refl _).alloc _
    rw [hw8]; clear hw8 c40 c41 c42 c43 c44 lt4 ne4
    refine (eqParameters_any x1 x2 x3 x4 x5 _).mono ?_
    rintro e w9 ⟨rfl, E9⟩
    have E79 := E78.trans E9
    have E09 := E07.trans E79
    have E69 := E7.trans E79
    obtain ⟨p0, p1⟩ := kb0.ext E09
    obtain ⟨p2, p3⟩ := kb6.ext E69
    have R5 := O5.rd.ext (E56.trans E69)
    have R0 := h0.ext (XW.trans E09)
    go_wp2_with fail
    go_region_held3 (fun w' => w'.cell? ⟨w5.heap.size, 0, none⟩ = some (.int .i64 z0) ∧ w'.cell? ⟨w5.heap.size, 1, none⟩ = some (.slice a5 n5 c5) ∧ w'.cell? ⟨w.heap.size, 0, none⟩ = some (.int .i64 z0) ∧ w'.cell? ⟨w.heap.size, 1, none⟩ = some (.slice a0 n0 c0))
      (first | exact ⟨p2, p3, p0, p1⟩ | exact ⟨Ext.cell ((Ext.refl _).drew) p2, Ext.cell ((Ext.refl _).drew) p3, Ext.cell ((Ext.refl _).drew) p0, Ext.cell ((Ext.refl _).drew) p1⟩ | exact ⟨Ext.cell (Ext.trans ((Ext.refl _).drew) E10) p2, Ext.cell (Ext.trans ((Ext.refl _).drew) E10) p3, Ext.cell (Ext.trans ((Ext.refl _).drew) E10) p0, Ext.cell (Ext.trans ((Ext.refl _).drew) E10) p1⟩ | exact ⟨Ext.cell (Ext.trans (Ext.trans ((Ext.refl _).drew) E10) E11) p2, Ext.cell (Ext.trans (Ext.trans ((Ext.refl _).drew) E10) E11) p3, Ext.cell (Ext.trans (Ext.trans ((Ext.refl _).drew) E10) E11) p0, Ext.cell (Ext.trans (Ext.trans ((Ext.refl _).drew) E10) E11) p1⟩)
      (first
        | (go_at_call 9; refine (to_D z0 a0 n0 c0 x0 _ (R0.ext ((Ext.refl _).drew)) (by have := h0.len; omega) (by omega)).mono ?_; rintro e w10 ⟨a10, n10, c10, r10, rfl, O10, E10⟩)
        | (go_at_call 12; refine (eq_D _ _ _ _ _ _ _ _ x0 x0 true _ (R5.ext (Ext.trans ((Ext.refl _).drew) E10)) O10.rd rfl (by simp)).mono ?_; rintro e w11 ⟨rfl, E11⟩))
    have E12 := Ext.trans (Ext.trans ((Ext.refl _).drew) E10) E11
    go_wp2
    go_ret
    exact ⟨rfl, XW.trans (E09.trans E12)⟩
  · go_enter Try.func3, Try.ntmps3
    go_wp2_with fail
    obtain ⟨W, hW⟩ : ∃ W, (w.alloc (.cells #[.int .i64 z0, .slice a0 n0 c0] 24)) = W := ⟨_, rfl⟩
    have XW : Ext w W := by rw [← hW]; exact (Ext.refl _).alloc _
    rw [hW]; clear hW
    refine (szD_no _ _ _ _ x0 1048576 _ (h0.ext XW) (by omega) (by omega) (by omega)).mono ?_
    rintro e v0 ⟨rfl, F0⟩
    go_wp2
    go_ret
    exact ⟨rfl, XW.trans F0⟩
end Go.Proofs.Ytgggbicmmijlnaa
