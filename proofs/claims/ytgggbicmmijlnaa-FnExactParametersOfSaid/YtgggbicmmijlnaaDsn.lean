/- The laws' helpers at designs. Conditions: none. -/
import Derived.Test.YtgggbicmmijlnaaBx
namespace Go.Proofs.Ytgggbicmmijlnaa
open Go.RowKit

set_option maxHeartbeats 400000 in
theorem szD_ok (z : Int) (a : Option Addr) (n c : Nat) (xss : List (List Int)) (left : Int) (w : World) (hx : RdR w a n c xss) (r : Int) (h2 : left ≤ 1048576) (hr0 : 0 ≤ r) (hr : left - ((xss.length + tot xss : Nat) : Int) = r) :
    Calls Try.prog 7 #[.agg #[.int .i64 z, .slice a n c], .int .i64 left] w fun e w' => e = .returned (.int .i64 r) ∧ Ext w w' := by
  have Hr := Lib.hid hr
  clear hr
  have hn : ¬ (r < 0) := by omega
  go_enter Try.func7, Try.ntmps7
  go_wp2_with fail
  refine (sz_ok _ _ _ xss left _ (hx.ext ((Ext.refl _).alloc _)) r h2 hr0 Hr.out).mono ?_
  rintro e w' ⟨rfl, rfl⟩
  go_wp2
  go_ret
  exact ⟨rfl, (Ext.refl _).alloc _⟩

set_option maxHeartbeats 400000 in
theorem szD_no (z : Int) (a : Option Addr) (n c : Nat) (xss : List (List Int)) (left : Int) (w : World) (hx : RdR w a n c xss) (h1 : 0 ≤ left) (h2 : left ≤ 1048576) (h : ¬ ((xss.length + tot xss : Nat) : Int) ≤ left) :
    Calls Try.prog 7 #[.agg #[.int .i64 z, .slice a n c], .int .i64 left] w fun e w' => e = .returned (.int .i64 (-1)) ∧ Ext w w' := by
  have H := Lib.hid h
  clear h
  go_enter Try.func7, Try.ntmps7
  go_wp2_with fail
  refine (sz_no _ _ _ xss left _ (hx.ext ((Ext.refl _).alloc _)) h1 h2 (by have := H.out; omega)).mono ?_
  rintro e w' ⟨rfl, rfl⟩
  go_wp2
  go_ret
  exact ⟨rfl, (Ext.refl _).alloc _⟩

set_option maxRecDepth 100000 in
set_option maxHeartbeats 800000 in
theorem to_D (z : Int) (a : Option Addr) (n c : Nat) (xss : List (List Int)) (w : World) (hx : RdR w a n c xss) (hn : n ≤ 1048576) (ht : tot xss ≤ 1048576) :
    Calls Try.prog 9 #[.agg #[.int .i64 z, .slice a n c]] w (RetD w z xss) := by
  go_enter Try.func9, Try.ntmps9
  go_wp2_with fail
  obtain ⟨W, hW⟩ : ∃ W, ((w.alloc (.cells #[.int .i64 z, .slice a n c] 24)).alloc (.cells #[.int .i64 0, .slice none 0 0] 30)).alloc (.cells #[.int .i64 z, .slice none 0 0] 30) = W := ⟨_, rfl⟩
  have hEW : Ext w W := by rw [← hW]; exact (((Ext.refl _).alloc _).alloc _).alloc _
  have s1 : W.heap.size = w.heap.size + 3 := by rw [← hW]; simp
  have c0 : W.cell? ⟨w.heap.size + 1 + 1, 0, none⟩ = some (.int .i64 z) := by rw [← hW]; exact (World.cell?_alloc_at _ _ _ _ (by simp)).trans rfl
  have c1 : W.cell? ⟨w.heap.size + 1 + 1, 1, none⟩ = some (.slice none 0 0) := by rw [← hW]; exact (World.cell?_alloc_at _ _ _ _ (by simp)).trans rfl
  have d0 : W.cell? ⟨w.heap.size + 1, 0, none⟩ = some (.int .i64 0) := by rw [← hW]; exact (World.cell?_alloc_past _ _ _ (by simp)).trans ((World.cell?_alloc_at _ _ _ _ (by simp)).trans rfl)
  have d1 : W.cell? ⟨w.heap.size + 1, 1, none⟩ = some (.slice none 0 0) := by rw [← hW]; exact (World.cell?_alloc_past _ _ _ (by simp)).trans ((World.cell?_alloc_at _ _ _ _ (by simp)).trans rfl)
  have f0 : ∀ k, W.frozen? ⟨w.heap.size + 1 + 1, k, none⟩ = false := fun k => by rw [← hW]; exact World.frozen?_alloc_at _ _ _ _ (by simp)
  have f1 : ∀ k, W.frozen? ⟨w.heap.size + 1, k, none⟩ = false := fun k => by rw [← hW]; exact (World.frozen?_alloc_past _ _ _ (by simp)).trans (World.frozen?_alloc_at _ _ _ _ (by simp))
  have hb0 : W.heap[w.heap.size + 1]? = some (.cells #[.int .i64 0, .slice none 0 0] 30 (0, 0)) := by
    rw [← hW, heap_alloc_old _ _ (by simp)]
    have := heap_alloc_new (w.alloc (.cells #[.int .i64 z, .slice a n c] 24)) (.cells #[.int .i64 0, .slice none 0 0] 30)
    rwa [show (w.alloc (.cells #[.int .i64 z, .slice a n c] 24)).heap.size = w.heap.size + 1 by simp] at this
  rw [hW]
  clear hW
  refine (to_SS _ _ _ xss _ (hx.ext hEW) hn ht).mono ?_
  rintro e w2 ⟨a2, n2, c2, rs, rfl, hO, hE⟩
  have fz : ∀ (b k : Nat), b < W.heap.size → w2.frozen? ⟨b, k, none⟩ = W.frozen? ⟨b, k, none⟩ := fun b k hb => Below.frozen hE hb
  replace c0 := hE.cell c0
  replace c1 := hE.cell c1
  replace d0 := hE.cell d0
  replace d1 := hE.cell d1
  have g1 : w2.frozen? ⟨w.heap.size + 1 + 1, 1, none⟩ = false := by rw [fz _ _ (by omega)]; exact f0 1
  have g2 : w2.frozen? ⟨w.heap.size + 1, 0, none⟩ = false := by rw [fz _ _ (by omega)]; exact f1 0
  have g3 : w2.frozen? ⟨w.heap.size + 1, 1, none⟩ = false := by rw [fz _ _ (by omega)]; exact f1 1
  have hb : w2.heap[w.heap.size + 1]? = some (.cells #[.int .i64 0, .slice none 0 0] 30 (0, 0)) := by rw [← hb0]; exact Below.block hE _ (by omega)
  have HB := Lib.hid hb
  clear f0 f1 fz hb hb0
  go_wp2
  (try simp only [Exit.inBlock, Exit.then])
  refine bodyPost_ret (results_cell_row rfl _ _ (w.heap.size + 1) 30 #[.int .i64 z, .slice a2 n2 c2] (0, 0) _ rfl (by simp [World.setCell, Array.getElem?_modify, HB.out]) Try.underlying30 rfl (by kernel_rfl)) rfl ?_
  have nf : ∀ b, b < w.heap.size + 3 → ¬ OwnR.fp a2 rs b := fun b hb hf => by have := (hO.lt hf).1; omega
  have hO2 := (((hO.setOther (p := ⟨w.heap.size + 1 + 1, 1, none⟩) (nf (w.heap.size + 1 + 1) (by omega)) (.slice a2 n2 c2)).setOther (p := ⟨w.heap.size + 1, 0, none⟩) (nf (w.heap.size + 1) (by omega)) (.int .i64 z)).setOther (p := ⟨w.heap.size + 1, 1, none⟩) (nf (w.heap.size + 1) (by omega)) (.slice a2 n2 c2))
  have hE2 := ((((hEW.trans hE).setCell (p := ⟨w.heap.size + 1 + 1, 1, none⟩) (by simp <;> omega) (.slice a2 n2 c2)).setCell (p := ⟨w.heap.size + 1, 0, none⟩) (by simp <;> omega) (.int .i64 z)).setCell (p := ⟨w.heap.size + 1, 1, none⟩) (by simp <;> omega) (.slice a2 n2 c2))
  refine ⟨a2, n2, c2, rs, ?_, hO2.base (by omega), hE2⟩
  first | rfl | simp

set_option maxHeartbeats 800000 in
theorem eq_D (z z' : Int) (a a' : Option Addr) (n c n' c' : Nat) (xs ys : List (List Int)) (v : Bool) (w : World) (hx : RdR w a n c xs) (hy : RdR w a' n' c' ys) (hz : z = z') (hv : decide (xs = ys) = v) :
    Calls Try.prog 12 #[.agg #[.int .i64 z, .slice a n c], .agg #[.int .i64 z', .slice a' n' c']] w fun e w' => e = .returned (.bool v) ∧ Ext w w' := by
  subst hz
  have hne : (z != z) = false := by simp
  go_enter Try.func12, Try.ntmps12
  go_wp2_with fail
  refine (eq_SS _ _ _ _ _ _ xs ys v _ (hx.ext (((Ext.refl _).alloc _).alloc _)) (hy.ext (((Ext.refl _).alloc _).alloc _)) hv).mono ?_
  rintro e w2 ⟨rfl, hQ⟩
  cases v
  · go_wp2
    go_ret
    exact ⟨rfl, (((Ext.refl _).alloc _).alloc _).trans hQ.ext⟩
  · go_wp2
    go_ret
    exact ⟨rfl, (((Ext.refl _).alloc _).alloc _).trans hQ.ext⟩


end Go.Proofs.Ytgggbicmmijlnaa
