/- The parameters by the reference, and ParametersOf of both. Conditions: none. -/
import Derived.Test.YtgggbicmmijlnaaPmt
namespace Go.Proofs.Ytgggbicmmijlnaa
open Go.RowKit

theorem Five.loadA {w : World} {g : Nat} (h : Five w g) (o : Obj) (v1 v2 v3 v4 v5 : Int) : (loadVar 27 ⟨g, 0, none⟩).run Try.prog ((par5 w g v1 v2 v3 v4 v5).alloc o) = .ok (.agg #[.int .i64 v1, .int .i64 v2, .int .i64 v3, .int .i64 v4, .int .i64 v5]) ((par5 w g v1 v2 v3 v4 v5).alloc o) := by
  obtain ⟨cs, h1, h2⟩ := h
  have h3 := five_set h2 h1 v1 v2 v3 v4 v5
  exact run_loadVar_row _ g 27 27 _ (0, 0) _ (by rw [heap_alloc_old _ _ (Array.getElem?_eq_some_iff.1 h3).1]; exact h3) Try.underlying27 rfl (by kernel_rfl)

theorem toExt {w w' : World} (h : Ext w w') : Ext w w' := h

set_option maxRecDepth 100000 in
set_option maxHeartbeats 12800000 in
theorem l10Parameters_any (b0 : Nat) (z : Nat) (a : Option Addr) (n c : Nat) (p : List (List Int)) (w : World) (hB : Bx w b0 z a n c) (hx : RdR w a n c p) (hd : DsnOk z p) :
    Calls Try.prog 28 #[.pointer (some ⟨b0, 0, none⟩)] w (ParRet w z p) := by
  have hz32 : z ≤ 32 := by have := hd.1; omega
  have hb1 := hx.le
  have hb2 := hx.max
  have Hl := Lib.hid hx.len
  have hn : n ≤ 128 := by rw [Hl.out]; exact hd.2.1
  have Hd := Lib.hid hd
  have hb0 : b0 < w.heap.size := World.block_lt_of_cell? _ _ hB.1
  have hb0n : b0 ≠ w.heap.size := Nat.ne_of_lt hb0
  clear hd
  obtain ⟨W, hW⟩ : ∃ W, (w.alloc (.cells #[.int .i64 0, .int .i64 0, .int .i64 0, .int .i64 0, .int .i64 0] 27)) = W := ⟨_, rfl⟩
  have hEW : Ext w W := by rw [← hW]; exact (Ext.refl _).alloc _
  have HF : Hid (Five W w.heap.size) := Lib.hid ⟨_, rfl, by rw [← hW]; exact heap_alloc_new _ _⟩
  have HB := Lib.hid (hB.ext hEW)
  have g0 : W.cell? ⟨b0, 0, none⟩ = some (.int .i64 z) := HB.out.1
  have g1 : W.cell? ⟨b0, 1, none⟩ = some (.slice a n c) := HB.out.2
  clear hB
  go_enter Try.func28, Try.ntmps28
  by_cases hz2 : z < 2
  · have hzd : decide ((z : Int) < 2) = true := decide_eq_true (by omega)
    have hno := Lib.hid (show ¬ PB z p from fun h => by have := h.of.1; omega)
    have c5 := HF.out.ext (Ext.refl _)
    have HC5 := Lib.hid c5
    have f0 := c5.frozen 0
    have f1 := c5.frozen 1
    have f2 := c5.frozen 2
    have f3 := c5.frozen 3
    have f4 := c5.frozen 4
    obtain ⟨v0, k0⟩ := c5.cell (k := 0) (by omega)
    obtain ⟨v1, k1⟩ := c5.cell (k := 1) (by omega)
    obtain ⟨v2, k2⟩ := c5.cell (k := 2) (by omega)
    obtain ⟨v3, k3⟩ := c5.cell (k := 3) (by omega)
    obtain ⟨v4, k4⟩ := c5.cell (k := 4) (by omega)
    clear c5
    go_wp2
    (try simp only [Exit.inBlock, Exit.then])
    refine bodyPost_ret (results_row_tmp rfl _ _ w.heap.size #[.int .i64 0, .int .i64 0, .int .i64 0, .int .i64 0, .int .i64 0] rfl (HC5.out.load 0 0 0 0 0)) rfl ?_
    exact ParRet.no hno.out ((hEW).par5 (by omega) 0 0 0 0 0)
  · have hzd : decide ((z : Int) < 2) = false := decide_eq_false (by omega)
    have hzd' : ¬ ((z : Int) < 2) := by omega
    by_cases hn0 : n = 0
    · have he : ((n : Int) == 0) = true := by simp [hn0]
      have hno := Lib.hid (show ¬ PB z p from fun h => by have := h.of.2.1; have := Hl.out; omega)
      clear hn0
      have c5 := HF.out.ext (Ext.refl _)
      have HC5 := Lib.hid c5
      have f0 := c5.frozen 0
      have f1 := c5.frozen 1
      have f2 := c5.frozen 2
      have f3 := c5.frozen 3
      have f4 := c5.frozen 4
      obtain ⟨v0, k0⟩ := c5.cell (k := 0) (by omega)
      obtain ⟨v1, k1⟩ := c5.cell (k := 1) (by omega)
      obtain ⟨v2, k2⟩ := c5.cell (k := 2) (by omega)
      obtain ⟨v3, k3⟩ := c5.cell (k := 3) (by omega)
      obtain ⟨v4, k4⟩ := c5.cell (k := 4) (by omega)
      clear c5
      go_wp2
      (try simp only [Exit.inBlock, Exit.then])
      refine bodyPost_ret (results_row_tmp rfl _ _ w.heap.size #[.int .i64 0, .int .i64 0, .int .i64 0, .int .i64 0, .int .i64 0] rfl (HC5.out.load 0 0 0 0 0)) rfl ?_
      exact ParRet.no hno.out ((hEW).par5 (by omega) 0 0 0 0 0)
    · have he : ((n : Int) == 0) = false := by simp [hn0]
      have hnz : (0 : Int) < (n : Int) := by omega
      have hnn : 0 < n := by omega
      obtain ⟨b, o, ai, ni, ci, rfl, hc0w, hrow0w⟩ := hx.gr hnn
      rw [Nat.add_zero] at hc0w
      have hc0 := hEW.cell hc0w
      have Hni := Lib.hid hrow0w.len
      have hbi1 := hrow0w.le
      have hbi2 := hrow0w.max
      have hni32 : ni ≤ 32 := by
        rw [Hni.out]
        exact Nat.le_trans (Hd.out.2.2.1 0 (by rw [← Hl.out]; exact hnn)).len hz32
      have hxW := hx.ext hEW
      clear hrow0w
      go_wp2
      clear hW hc0
      go_loopg [5] n (fun gh ix wr => ∃ k : Nat, k ≤ n ∧ gh = n - k ∧ ix = .int .i64 k ∧ wr = W ∧ Hid ((∀ i, i < k → (gr p i).length = (gr p 0).length) ∧ (0 < k → 2 ≤ ni)))
      case atStart => exact ⟨0, Nat.zero_le _, rfl, rfl, rfl, Lib.hid ⟨(fun i h => absurd h (Nat.not_lt_zero _)), fun h => absurd h (Nat.lt_irrefl _)⟩⟩
      case round =>
        obtain ⟨k, hk, rfl, rfl, rfl, HK⟩ := hrel
        by_cases hlt : k < n
        · have hzk : (k : Int) < (n : Int) := by omega
          obtain ⟨b', o', ak, nk, ck, hh, hck, hrowk⟩ := hxW.gr hlt
          cases hh
          have Hnk := Lib.hid hrowk.len
          have hnk32 : nk ≤ 32 := by
            rw [Hnk.out]
            exact Nat.le_trans (Hd.out.2.2.1 k (by rw [← Hl.out]; exact hlt)).len hz32
          clear hrowk
          by_cases he1 : nk = ni
          · have heb : ((nk : Int) != (ni : Int)) = false := by simp [he1]
            by_cases hni2 : ni < 2
            · have hnd : decide ((ni : Int) < 2) = true := decide_eq_true (by omega)
              have hno := Lib.hid (show ¬ PB z p from fun h => by have := h.of.2.2.1; have := Hni.out; omega)
              clear he1 hni2
              have c5 := HF.out.ext (Ext.refl _)
              have HC5 := Lib.hid c5
              have f0 := c5.frozen 0
              have f1 := c5.frozen 1
              have f2 := c5.frozen 2
              have f3 := c5.frozen 3
              have f4 := c5.frozen 4
              obtain ⟨v0, k0⟩ := c5.cell (k := 0) (by omega)
              obtain ⟨v1, k1⟩ := c5.cell (k := 1) (by omega)
              obtain ⟨v2, k2⟩ := c5.cell (k := 2) (by omega)
              obtain ⟨v3, k3⟩ := c5.cell (k := 3) (by omega)
              obtain ⟨v4, k4⟩ := c5.cell (k := 4) (by omega)
              clear c5
              go_wp2
              (try simp only [Exit.inBlock, Exit.then])
              refine bodyPost_ret (results_row_tmp rfl _ _ w.heap.size #[.int .i64 0, .int .i64 0, .int .i64 0, .int .i64 0, .int .i64 0] rfl (HC5.out.load 0 0 0 0 0)) rfl ?_
              exact ParRet.no hno.out ((hEW).par5 (by omega) 0 0 0 0 0)
            · have hnd : decide ((ni : Int) < 2) = false := decide_eq_false (by omega)
              have HK2 : Hid ((∀ i, i < k + 1 → (gr p i).length = (gr p 0).length) ∧ (0 < k + 1 → 2 ≤ ni)) := Lib.hid ⟨fun i hi => by
                by_cases e : i = k
                · subst e; rw [← Hnk.out, ← Hni.out]; exact he1
                · exact HK.out.1 i (by omega), fun _ => by omega⟩
              clear he1
              go_wp2
              go_roundg (n - (k + 1))
              case measure => go_light; omega
              case rel => go_light; exact ⟨k + 1, by omega, rfl, by go_num, rfl, HK2⟩
          · have heb : ((nk : Int) != (ni : Int)) = true := by simp; omega
            have hno := Lib.hid (show ¬ PB z p from fun h => by have := h.of.2.2.2.1 k (by rw [← Hl.out]; exact hlt); rw [← Hnk.out, ← Hni.out] at this; exact he1 this)
            clear he1
            have c5 := HF.out.ext (Ext.refl _)
            have HC5 := Lib.hid c5
            have f0 := c5.frozen 0
            have f1 := c5.frozen 1
            have f2 := c5.frozen 2
            have f3 := c5.frozen 3
            have f4 := c5.frozen 4
            obtain ⟨v0, k0⟩ := c5.cell (k := 0) (by omega)
            obtain ⟨v1, k1⟩ := c5.cell (k := 1) (by omega)
            obtain ⟨v2, k2⟩ := c5.cell (k := 2) (by omega)
            obtain ⟨v3, k3⟩ := c5.cell (k := 3) (by omega)
            obtain ⟨v4, k4⟩ := c5.cell (k := 4) (by omega)
            clear c5
            go_wp2
            (try simp only [Exit.inBlock, Exit.then])
            refine bodyPost_ret (results_row_tmp rfl _ _ w.heap.size #[.int .i64 0, .int .i64 0, .int .i64 0, .int .i64 0, .int .i64 0] rfl (HC5.out.load 0 0 0 0 0)) rfl ?_
            exact ParRet.no hno.out ((hEW).par5 (by omega) 0 0 0 0 0)
        · have hzk : ¬ (k : Int) < (n : Int) := by omega
          obtain rfl : n = k := by omega
          have hni2 : 2 ≤ ni := HK.out.2 hnn
          go_wp2_with fail
          refine (l10Pairs_any b0 z _ n c p _ HB.out hxW Hd.out).mono ?_
          rintro e w3 ⟨a4, m4, c4, rfl, hO4, hE3⟩
          have HF3 := Lib.hid (HF.out.ext hE3)
          have hEw := hEW.trans hE3
          have hm4 : 0 < m4 := by rw [hO4.len]; exact pcs_pos (by omega)
          have hmz : (0 : Int) < (m4 : Int) := by omega
          have hm4' : m4 ≤ 1024 := by rw [hO4.len]; exact pcs_len hz32
          have HM4 := Lib.hid hO4.len
          have hrd4 := hO4.rdI
          have H4 : Hid (∀ g, blk a4 = some g → g ≠ w.heap.size) := Lib.hid (fun g hg e => by have h1 := (hO4.lt hg).1; obtain ⟨cs, _, h2⟩ := HF.out; have h3 := (Array.getElem?_eq_some_iff.1 h2).1; omega)
          have hbm1 := hrd4.le
          have hbm2 := hrd4.max
          have hx3 := hx.ext hEw
          have q1 : w3.cell? ⟨b0, 1, none⟩ = some (.slice (some ⟨b, o, none⟩) n c) := hE3.cell g1
          have q0 : w3.cell? ⟨b0, 0, none⟩ = some (.int .i64 z) := hE3.cell g0
          clear hO4 g0 g1 hxW
          go_wp2
          go_loopg [7] m4 (fun gh ix wr' => ∃ k : Nat, k ≤ m4 ∧ gh = m4 - k ∧ ix = .int .i64 k ∧ Q w3 wr' ∧ Hid (∀ i, i < k → gi (pcs p z) i = gi (pcs p z) 0))
          case atStart => exact ⟨0, Nat.zero_le _, rfl, rfl, Q.refl _, Lib.hid (fun i h => absurd h (Nat.not_lt_zero _))⟩
          case round =>
            obtain ⟨k, hk, rfl, rfl, hQ, HJ⟩ := hrel
            obtain ⟨b4, o4, rfl, hc40w⟩ := hrd4.gi hm4
            rw [Nat.add_zero] at hc40w
            have hc40 := hQ.ext.cell hc40w
            by_cases hlt : k < m4
            · have hzk : (k : Int) < (m4 : Int) := by omega
              obtain ⟨b4', o4', hh, hc4kw⟩ := hrd4.gi hlt
              cases hh
              have hc4k := hQ.ext.cell hc4kw
              by_cases he1 : gi (pcs p z) k = gi (pcs p z) 0
              · have heb : (gi (pcs p z) k != gi (pcs p z) 0) = false := by simp [he1]
                have HJ2 : Hid (∀ i, i < k + 1 → gi (pcs p z) i = gi (pcs p z) 0) := Lib.hid (fun i hi => by
                  by_cases e : i = k
                  · subst e; exact he1
                  · exact HJ.out i (by omega))
                clear he1
                go_wp2
                go_quiet (fail)
                go_wp2
                go_roundg (m4 - (k + 1))
                case measure => go_light; omega
                case rel => go_light; exact ⟨k + 1, by omega, rfl, by go_num, hQ.drewN _, HJ2⟩
              · have heb : (gi (pcs p z) k != gi (pcs p z) 0) = true := by simp [he1]
                have hno := Lib.hid (show ¬ PB z p from fun h => he1 (h.of.2.2.2.2 k (by rw [← HM4.out]; exact hlt)))
                clear he1
                go_wp2
                go_quiet (fail)
                have HFq := Lib.hid (HF3.out.ext (hQ.drewN nq).ext)
                have c5 := HFq.out.ext (Ext.refl _)
                have HC5 := Lib.hid c5
                have f0 := c5.frozen 0
                have f1 := c5.frozen 1
                have f2 := c5.frozen 2
                have f3 := c5.frozen 3
                have f4 := c5.frozen 4
                obtain ⟨v0, k0⟩ := c5.cell (k := 0) (by omega)
                obtain ⟨v1, k1⟩ := c5.cell (k := 1) (by omega)
                obtain ⟨v2, k2⟩ := c5.cell (k := 2) (by omega)
                obtain ⟨v3, k3⟩ := c5.cell (k := 3) (by omega)
                obtain ⟨v4, k4⟩ := c5.cell (k := 4) (by omega)
                clear c5
                go_wp2
                (try simp only [Exit.inBlock, Exit.then])
                refine bodyPost_ret (results_row_tmp rfl _ _ w.heap.size #[.int .i64 0, .int .i64 0, .int .i64 0, .int .i64 0, .int .i64 0] rfl (HC5.out.load 0 0 0 0 0)) rfl ?_
                exact ParRet.no hno.out ((hEw.trans (hQ.drewN nq).ext).par5 (by omega) 0 0 0 0 0)
            · have hzk : ¬ (k : Int) < (m4 : Int) := by omega
              obtain rfl : m4 = k := by omega
              have L4pre : b4 ≠ w.heap.size := fun e => H4.out b4 rfl e
              have hyes := Lib.hid (Bal.eq Hd.out (by omega) Hl.out hnn (by rw [← Hni.out]; omega) HK.out.1 (by rw [← HM4.out]; exact HJ.out))
              have hEw0 := hEw.trans hQ.ext
              have hE30 := hE3.trans hQ.ext
              have q00 := hQ.ext.cell q0
              have q10 := hQ.ext.cell q1
              have hx30 := hx3.ext hQ.ext
              have HF30 := Lib.hid (HF3.out.ext hQ.ext)
              go_wp2
              have L0 : b0 ≠ w.heap.size := by omega
              have L4 : b4 ≠ w.heap.size := L4pre
              refine wp_region_noPanic ?_
              refine wp_region_held_drew (S := (fun w' => w'.cell? ⟨b0, 0, none⟩ = some (.int .i64 z) ∧ w'.cell? ⟨b0, 1, none⟩ = some (.slice (some ⟨b, o, none⟩) n c) ∧ w'.cell? ⟨b4, o4, none⟩ = some (.int .i64 (gi (pcs p z) 0)))) (by kernel_rfl) ⟨Ext.cell ((Ext.refl _).drew) q00, Ext.cell ((Ext.refl _).drew) q10, Ext.cell ((Ext.refl _).drew) hc40⟩ (fun hHeld => ?_)
              refine wpAnyH_take (i := 0) (v := .pointer (some ⟨b0, 0, none⟩)) rfl (by kernel_rfl) (by kernel_rfl) (by kernel_rfl) (fun _ _ _ h => h) (Or.inl ⟨by rfl, fun w hSw => by (try dsimp only at hSw); go_simp⟩) (by assumption) ?_
              try simp only [Act.put, List.setIfInBounds_toArray, List.set_cons_zero, List.set_cons_succ, List.getElem_toArray, List.getElem_cons_zero, List.getElem_cons_succ]
              refine wpAnyH_take (i := 1) (v := .pointer (some ⟨b0, 0, none⟩)) rfl (by kernel_rfl) (by kernel_rfl) (by kernel_rfl) (fun _ _ _ h => h) (Or.inl ⟨by rfl, fun w hSw => by (try dsimp only at hSw); go_simp⟩) (by assumption) ?_
              try simp only [Act.put, List.setIfInBounds_toArray, List.set_cons_zero, List.set_cons_succ, List.getElem_toArray, List.getElem_cons_zero, List.getElem_cons_succ]
              refine wpAnyH_take (i := 2) (v := .pointer (some ⟨b0, 0, none⟩)) rfl (by kernel_rfl) (by kernel_rfl) (by kernel_rfl) (fun _ _ _ h => h) (Or.inl ⟨by rfl, fun w hSw => by (try dsimp only at hSw); go_simp⟩) (by assumption) ?_
              try simp only [Act.put, List.setIfInBounds_toArray, List.set_cons_zero, List.set_cons_succ, List.getElem_toArray, List.getElem_cons_zero, List.getElem_cons_succ]
              refine wpAnyH_take (i := 3) (v := .int .i64 z) rfl (by kernel_rfl) (by kernel_rfl) (by kernel_rfl) (fun _ _ _ h => h) (Or.inl ⟨by rfl, fun w hSw => by (try dsimp only at hSw); go_simp⟩) (by assumption) ?_
              try simp only [Act.put, List.setIfInBounds_toArray, List.set_cons_zero, List.set_cons_succ, List.getElem_toArray, List.getElem_cons_zero, List.getElem_cons_succ]
              refine wpAnyH_take (i := 4) (v := .pointer (some ⟨b0, 0, none⟩)) rfl (by kernel_rfl) (by kernel_rfl) (by kernel_rfl) (fun _ _ _ h => h) (Or.inl ⟨by rfl, fun w hSw => by (try dsimp only at hSw); go_simp⟩) (by assumption) ?_
              try simp only [Act.put, List.setIfInBounds_toArray, List.set_cons_zero, List.set_cons_succ, List.getElem_toArray, List.getElem_cons_zero, List.getElem_cons_succ]
              refine wpAnyH_take (i := 5) (v := .pointer (some ⟨b0, 0, none⟩)) rfl (by kernel_rfl) (by kernel_rfl) (by kernel_rfl) (fun _ _ _ h => h) (Or.inl ⟨by rfl, fun w hSw => by (try dsimp only at hSw); go_simp⟩) (by assumption) ?_
              try simp only [Act.put, List.setIfInBounds_toArray, List.set_cons_zero, List.set_cons_succ, List.getElem_toArray, List.getElem_cons_zero, List.getElem_cons_succ]
              refine wpAnyH_take (i := 6) (v := .pointer (some ⟨b0, 1, none⟩)) rfl (by kernel_rfl) (by kernel_rfl) (by kernel_rfl) (fun _ _ _ h => h) (Or.inl ⟨by rfl, fun w hSw => by (try dsimp only at hSw); go_simp⟩) (by assumption) ?_
              try simp only [Act.put, List.setIfInBounds_toArray, List.set_cons_zero, List.set_cons_succ, List.getElem_toArray, List.getElem_cons_zero, List.getElem_cons_succ]
              refine wpAnyH_take (i := 7) (v := .slice (some ⟨b, o, none⟩) n c) rfl (by kernel_rfl) (by kernel_rfl) (by kernel_rfl) (fun _ _ _ h => h) (Or.inl ⟨by rfl, fun w hSw => by (try dsimp only at hSw); go_simp⟩) (by assumption) ?_
              try simp only [Act.put, List.setIfInBounds_toArray, List.set_cons_zero, List.set_cons_succ, List.getElem_toArray, List.getElem_cons_zero, List.getElem_cons_succ]
              refine wpAnyH_take (i := 8) (v := .int .i64 n) rfl (by kernel_rfl) (by kernel_rfl) (by kernel_rfl) (fun _ _ _ h => h) (Or.inl ⟨by rfl, fun w hSw => by (try dsimp only at hSw); go_simp⟩) (by assumption) ?_
              try simp only [Act.put, List.setIfInBounds_toArray, List.set_cons_zero, List.set_cons_succ, List.getElem_toArray, List.getElem_cons_zero, List.getElem_cons_succ]
              refine wpAnyH_take (i := 9) (v := .pointer (some ⟨b0, 0, none⟩)) rfl (by kernel_rfl) (by kernel_rfl) (by kernel_rfl) (fun _ _ _ h => h) (Or.inl ⟨by rfl, fun w hSw => by (try dsimp only at hSw); go_simp⟩) (by assumption) ?_
              try simp only [Act.put, List.setIfInBounds_toArray, List.set_cons_zero, List.set_cons_succ, List.getElem_toArray, List.getElem_cons_zero, List.getElem_cons_succ]
              refine wpAnyH_take (i := 13) (v := .int .i64 ni) rfl (by kernel_rfl) (by kernel_rfl) (by kernel_rfl) (fun _ _ _ h => h) (Or.inl ⟨by rfl, fun w hSw => by (try dsimp only at hSw); go_simp⟩) (by assumption) ?_
              try simp only [Act.put, List.setIfInBounds_toArray, List.set_cons_zero, List.set_cons_succ, List.getElem_toArray, List.getElem_cons_zero, List.getElem_cons_succ]
              refine wpAnyH_take (i := 14) (v := .slice (some ⟨b4, o4, none⟩) m4 c4) rfl (by kernel_rfl) (by kernel_rfl) (by kernel_rfl) (fun _ _ _ h => h) (Or.inl ⟨by rfl, fun w hSw => by (try dsimp only at hSw); go_simp⟩) (by assumption) ?_
              try simp only [Act.put, List.setIfInBounds_toArray, List.set_cons_zero, List.set_cons_succ, List.getElem_toArray, List.getElem_cons_zero, List.getElem_cons_succ]
              refine wpAnyH_take (i := 15) (v := .pointer (some ⟨b4, o4, none⟩)) rfl (by kernel_rfl) (by kernel_rfl) (by kernel_rfl) (fun _ _ _ h => h) (Or.inl ⟨by rfl, fun w hSw => by (try dsimp only at hSw); go_simp⟩) (by assumption) ?_
              try simp only [Act.put, List.setIfInBounds_toArray, List.set_cons_zero, List.set_cons_succ, List.getElem_toArray, List.getElem_cons_zero, List.getElem_cons_succ]
              refine wpAnyH_take (i := 16) (v := .int .i64 (gi (pcs p z) 0)) rfl (by kernel_rfl) (by kernel_rfl) (by kernel_rfl) (fun _ _ _ h => h) (Or.inl ⟨by rfl, fun w hSw => by (try dsimp only at hSw); go_simp⟩) (by assumption) ?_
              try simp only [Act.put, List.setIfInBounds_toArray, List.set_cons_zero, List.set_cons_succ, List.getElem_toArray, List.getElem_cons_zero, List.getElem_cons_succ]
              refine wpAnyH_ready (rs := [10]) (by kernel_rfl) (by simp) ?_
              refine (AllReadyH.cons (o := _) rfl (fun K hK => ?_) AllReadyH.nil)
              · go_simp
                refine (l10Replications_any b0 z _ n c p _ (HB.out.ext (hE30.trans ((Ext.refl _).drew))) (hx30.ext ((Ext.refl _).drew)) Hd.out).mono ?_
                rintro e w9 ⟨a9, m9, c9, rfl, hO9, hE9⟩
                have h9z := Lib.hid (hO9.len.trans (repOf_len z p))
                have h9p : 0 < m9 := by have := h9z.out; omega
                have h9i : (0 : Int) < (m9 : Int) := by omega
                have h9n : ¬ ((m9 : Int) = 0) := by omega
                obtain ⟨g9, b9, rfl, _, hc9, _, hx9⟩ := hO9.at_ h9p
                have H9 := Lib.hid (gi_of hx9.out)
                have hEd := Ext.trans ((Ext.refl _).drew) hE9
                have r0 := Ext.cell hEd q00
                have r1 := Ext.cell hEd q10
                have r3 := Ext.cell hEd hc40
                have hf9 := Lib.hid (HF30.out.ext hEd)
                dsimp only
                refine hK.out _ _ ⟨r0, r1, r3⟩ (fun hHeld => ?_)
                clear hK K
                try simp only [Act.put, List.setIfInBounds_toArray, List.set_cons_zero, List.set_cons_succ, List.getElem_toArray, List.getElem_cons_zero, List.getElem_cons_succ]
                refine wpAnyH_take (i := 11) (v := .pointer (some ⟨g9, 0, none⟩)) rfl (by kernel_rfl) (by kernel_rfl) (by kernel_rfl) (fun _ _ _ h => h) (Or.inl ⟨by rfl, fun w hSw => by (try dsimp only at hSw); go_simp⟩) (by assumption) ?_
                try simp only [Act.put, List.setIfInBounds_toArray, List.set_cons_zero, List.set_cons_succ, List.getElem_toArray, List.getElem_cons_zero, List.getElem_cons_succ]
                refine wpAnyH_ready (rs := [12]) (by kernel_rfl) (by simp) ?_
                refine (AllReadyH.cons (o := _) rfl (fun K hK => ?_) AllReadyH.nil)
                · go_simp
                  refine hK.out _ _ ⟨r0, r1, r3⟩ (fun hHeld => ?_)
                  clear hK K
                  try simp only [Act.put, List.setIfInBounds_toArray, List.set_cons_zero, List.set_cons_succ, List.getElem_toArray, List.getElem_cons_zero, List.getElem_cons_succ]
                  refine wpAnyH_take (i := 17) (v := .agg #[.int .i64 z, .int .i64 n, .int .i64 b9, .int .i64 ni, .int .i64 (gi (pcs p z) 0)]) rfl (by kernel_rfl) (by kernel_rfl) (by kernel_rfl) (fun _ _ _ h => h) (Or.inl ⟨by rfl, fun w hSw => by (try dsimp only at hSw); go_simp⟩) (by assumption) ?_
                  try simp only [Act.put, List.setIfInBounds_toArray, List.set_cons_zero, List.set_cons_succ, List.getElem_toArray, List.getElem_cons_zero, List.getElem_cons_succ]
                  refine wpAnyH_ready (rs := [18]) (by kernel_rfl) (by simp) ?_
                  refine (AllReadyH.cons (o := _) rfl (fun K hK => ?_) AllReadyH.nil)
                  · have f0 := hf9.out.frozen 0
                    have f1 := hf9.out.frozen 1
                    have f2 := hf9.out.frozen 2
                    have f3 := hf9.out.frozen 3
                    have f4 := hf9.out.frozen 4
                    obtain ⟨v0, k0⟩ := hf9.out.cell (k := 0) (by omega)
                    obtain ⟨v1, k1⟩ := hf9.out.cell (k := 1) (by omega)
                    obtain ⟨v2, k2⟩ := hf9.out.cell (k := 2) (by omega)
                    obtain ⟨v3, k3⟩ := hf9.out.cell (k := 3) (by omega)
                    obtain ⟨v4, k4⟩ := hf9.out.cell (k := 4) (by omega)
                    go_simp
                    refine hK.out _ _ ⟨par5_cell r0 L0, par5_cell r1 L0, par5_cell r3 L4⟩ (fun hHeld => ?_)
                    clear hK K
                    try simp only [Act.put, List.setIfInBounds_toArray, List.set_cons_zero, List.set_cons_succ, List.getElem_toArray, List.getElem_cons_zero, List.getElem_cons_succ]
                    refine wpAnyH_take (i := 19) (v := .bool true) rfl (by kernel_rfl) (by kernel_rfl) (by kernel_rfl) (fun _ _ _ h => h) (Or.inl ⟨by rfl, fun w hSw => by (try dsimp only at hSw); go_simp⟩) (by assumption) ?_
                    try simp only [Act.put, List.setIfInBounds_toArray, List.set_cons_zero, List.set_cons_succ, List.getElem_toArray, List.getElem_cons_zero, List.getElem_cons_succ]
                    refine wpAnyH_done (by kernel_rfl) ?_ _
                    refine NoPanic.normal ?_
                    go_wp2
                    (try simp only [Exit.inBlock, Exit.then])
                    refine bodyPost_ret (results_row_tmp rfl _ _ w.heap.size #[.int .i64 z, .int .i64 n, .int .i64 b9, .int .i64 ni, .int .i64 (gi (pcs p z) 0)] rfl (hf9.out.load z n b9 ni (gi (pcs p z) 0))) rfl ?_
                    exact ParRet.yes hyes.out Hl.out H9.out.symm (by rw [Hni.out]) rfl ((hEw0.trans hEd).par5 (by omega) _ _ _ _ _)

set_option maxRecDepth 100000 in
set_option maxHeartbeats 3200000 in
theorem implPmt (z : Int) (a : Option Addr) (n c : Nat) (p : List (List Int)) (w : World) (hx : RdR w a n c p) (_ : p.length + tot p ≤ 1048576) (lo : -9223372036854775808 ≤ z) (hi : z ≤ 9223372036854775807) :
    Calls Try.prog 10 #[.agg #[.int .i64 z, .slice a n c]] w (ParRetC w z p) := by
  have hb1 := hx.le
  have hb2 := hx.max
  obtain ⟨W, hW⟩ : ∃ W, ((w.alloc (.cells #[.int .i64 z, .slice a n c] 30)).alloc (.cells #[.int .i64 0, .int .i64 0, .int .i64 0, .int .i64 0, .int .i64 0] 27)) = W := ⟨_, rfl⟩
  have hEW : Ext w W := by rw [← hW]; exact ((Ext.refl _).alloc _).alloc _
  have HG : Hid (W.heap[w.heap.size]? = some (.cells #[.int .i64 z, .slice a n c] 30 (0, 0))) := Lib.hid (by
    rw [← hW, heap_alloc_old _ _ (by simp)]; exact heap_alloc_new _ _)
  have HF : Hid (Five W (w.heap.size + 1)) := Lib.hid ⟨_, rfl, by
    rw [← hW]
    have := heap_alloc_new (w.alloc (.cells #[.int .i64 z, .slice a n c] 30)) (.cells #[.int .i64 0, .int .i64 0, .int .i64 0, .int .i64 0, .int .i64 0] 27)
    rwa [show (w.alloc (.cells #[.int .i64 z, .slice a n c] 30)).heap.size = w.heap.size + 1 by simp] at this⟩
  have HB : Hid (Bx W w.heap.size z a n c) := Lib.hid ⟨cell_blk (k := 0) HG.out rfl, cell_blk (k := 1) HG.out rfl⟩
  have g0 : W.cell? ⟨w.heap.size, 0, none⟩ = some (.int .i64 z) := HB.out.1
  have g1 : W.cell? ⟨w.heap.size, 1, none⟩ = some (.slice a n c) := HB.out.2
  go_enter Try.func10, Try.ntmps10
  go_wp2_with fail
  clear hW
  refine (validDesign_any z a n c p _ (hx.ext hEW)).mono ?_
  rintro e w2 ⟨rfl, hQ⟩
  have hE2 : Ext W w2 := toExt hQ
  have hE := hEW.trans hE2
  have q0 : w2.cell? ⟨w.heap.size, 0, none⟩ = some (.int .i64 z) := hE2.cell g0
  have q1 : w2.cell? ⟨w.heap.size, 1, none⟩ = some (.slice a n c) := hE2.cell g1
  clear g0 g1
  rcases pbc (DsnOk z p) with ⟨hb, Hb⟩ | ⟨hb, Hb⟩
  · rw [hb]
    obtain ⟨z', rfl⟩ := Int.eq_ofNat_of_zero_le (show 0 ≤ z by have := Hb.out.1; omega)
    have HBd := Lib.hid hb
    clear hb
    go_wp2_with fail
    refine (parametersOf_any z' _ n c p _ (hx.ext hE) Hb.out).mono ?_
    rintro e w3 ⟨rfl, hE3⟩
    have hE4 := hE.trans hE3
    have hsz4 : w.heap.size + 1 < w3.heap.size := by obtain ⟨cs, _, h2⟩ := HF.out; have h3 := (Array.getElem?_eq_some_iff.1 h2).1; have h4 := hE2.size; have h5 := hE3.size; omega
    clear q0 q1
    obtain ⟨x1, x2, x3, x4, x5, hx5⟩ : ∃ x1 x2 x3 x4 x5 : Int, parA z' p = #[.int .i64 x1, .int .i64 x2, .int .i64 x3, .int .i64 x4, .int .i64 x5] := ⟨_, _, _, _, _, rfl⟩
    have HX5 := Lib.hid hx5
    rw [hx5]
    clear hx5
    have c5 := HF.out.ext (hE2.trans hE3)
    have HC5 := Lib.hid c5
    have f0 := c5.frozen 0
    have f1 := c5.frozen 1
    have f2 := c5.frozen 2
    have f3 := c5.frozen 3
    have f4 := c5.frozen 4
    obtain ⟨v0, k0⟩ := c5.cell (k := 0) (by omega)
    obtain ⟨v1, k1⟩ := c5.cell (k := 1) (by omega)
    obtain ⟨v2, k2⟩ := c5.cell (k := 2) (by omega)
    obtain ⟨v3, k3⟩ := c5.cell (k := 3) (by omega)
    obtain ⟨v4, k4⟩ := c5.cell (k := 4) (by omega)
    clear c5
    have hne : w.heap.size + 1 ≠ w3.heap.size := by omega
    have hne2 : ¬ w3.heap.size = w.heap.size + 1 := by omega
    rcases pbc (PB z' p) with ⟨hb, Hp⟩ | ⟨hb, Hp⟩
    · rw [hb]
      have HBp := Lib.hid hb
      clear hb
      go_wp2
      (try simp only [Exit.inBlock, Exit.then])
      refine bodyPost_ret (results_row_tmp rfl _ _ (w.heap.size + 1) #[.int .i64 x1, .int .i64 x2, .int .i64 x3, .int .i64 x4, .int .i64 x5] rfl (HC5.out.loadA _ x1 x2 x3 x4 x5)) rfl ?_
      exact ⟨by rw [HX5.out, parC, HBd.out, HBp.out]; rfl, (hE4.par5 (by omega) _ _ _ _ _).alloc _⟩
    · rw [hb]
      have HBp := Lib.hid hb
      clear hb
      go_wp2
      (try simp only [Exit.inBlock, Exit.then])
      refine bodyPost_ret (results_row_tmp rfl _ _ (w.heap.size + 1) #[.int .i64 0, .int .i64 0, .int .i64 0, .int .i64 0, .int .i64 0] rfl (HC5.out.loadA _ 0 0 0 0 0)) rfl ?_
      exact ⟨by rw [parA_no Hp.out, parC, HBd.out, HBp.out]; rfl, (hE4.par5 (by omega) _ _ _ _ _).alloc _⟩
  · rw [hb]
    have hno := Lib.hid (show ¬ PB z p from fun h => Hb.out h.1)
    clear q0 q1
    have HBd := Lib.hid hb
    clear hb
    have c5 := HF.out.ext hE2
    have HC5 := Lib.hid c5
    have f0 := c5.frozen 0
    have f1 := c5.frozen 1
    have f2 := c5.frozen 2
    have f3 := c5.frozen 3
    have f4 := c5.frozen 4
    obtain ⟨v0, k0⟩ := c5.cell (k := 0) (by omega)
    obtain ⟨v1, k1⟩ := c5.cell (k := 1) (by omega)
    obtain ⟨v2, k2⟩ := c5.cell (k := 2) (by omega)
    obtain ⟨v3, k3⟩ := c5.cell (k := 3) (by omega)
    obtain ⟨v4, k4⟩ := c5.cell (k := 4) (by omega)
    clear c5
    go_wp2
    (try simp only [Exit.inBlock, Exit.then])
    refine bodyPost_ret (results_row_tmp rfl _ _ (w.heap.size + 1) #[.int .i64 0, .int .i64 0, .int .i64 0, .int .i64 0, .int .i64 0] rfl (HC5.out.load 0 0 0 0 0)) rfl ?_
    exact ⟨by rw [parA_no hno.out, parC, HBd.out]; rfl, hE.par5 (by omega) 0 0 0 0 0⟩

set_option maxRecDepth 100000 in
set_option maxHeartbeats 3200000 in
theorem specPmt (z : Int) (a : Option Addr) (n c : Nat) (p : List (List Int)) (w : World) (hx : RdR w a n c p) (_ : p.length + tot p ≤ 1048576) (lo : -9223372036854775808 ≤ z) (hi : z ≤ 9223372036854775807) :
    Calls Try.prog 8 #[.agg #[.int .i64 z, .slice a n c]] w (ParRetC w z p) := by
  have hb1 := hx.le
  have hb2 := hx.max
  obtain ⟨W, hW⟩ : ∃ W, ((w.alloc (.cells #[.int .i64 z, .slice a n c] 30)).alloc (.cells #[.int .i64 0, .int .i64 0, .int .i64 0, .int .i64 0, .int .i64 0] 27)) = W := ⟨_, rfl⟩
  have hEW : Ext w W := by rw [← hW]; exact ((Ext.refl _).alloc _).alloc _
  have HG : Hid (W.heap[w.heap.size]? = some (.cells #[.int .i64 z, .slice a n c] 30 (0, 0))) := Lib.hid (by
    rw [← hW, heap_alloc_old _ _ (by simp)]; exact heap_alloc_new _ _)
  have HF : Hid (Five W (w.heap.size + 1)) := Lib.hid ⟨_, rfl, by
    rw [← hW]
    have := heap_alloc_new (w.alloc (.cells #[.int .i64 z, .slice a n c] 30)) (.cells #[.int .i64 0, .int .i64 0, .int .i64 0, .int .i64 0, .int .i64 0] 27)
    rwa [show (w.alloc (.cells #[.int .i64 z, .slice a n c] 30)).heap.size = w.heap.size + 1 by simp] at this⟩
  have HB : Hid (Bx W w.heap.size z a n c) := Lib.hid ⟨cell_blk (k := 0) HG.out rfl, cell_blk (k := 1) HG.out rfl⟩
  have g0 : W.cell? ⟨w.heap.size, 0, none⟩ = some (.int .i64 z) := HB.out.1
  have g1 : W.cell? ⟨w.heap.size, 1, none⟩ = some (.slice a n c) := HB.out.2
  go_enter Try.func8, Try.ntmps8
  go_wp2_with fail
  clear hW
  refine (l10Ok_any _ z a n c p _ HB.out (hx.ext hEW) lo hi).mono ?_
  rintro e w2 ⟨rfl, hQ⟩
  have hE2 : Ext W w2 := hQ.ext
  have hE := hEW.trans hE2
  have q0 : w2.cell? ⟨w.heap.size, 0, none⟩ = some (.int .i64 z) := hE2.cell g0
  have q1 : w2.cell? ⟨w.heap.size, 1, none⟩ = some (.slice a n c) := hE2.cell g1
  clear g0 g1
  rcases pbc (DsnOk z p) with ⟨hb, Hb⟩ | ⟨hb, Hb⟩
  · rw [hb]
    obtain ⟨z', rfl⟩ := Int.eq_ofNat_of_zero_le (show 0 ≤ z by have := Hb.out.1; omega)
    have HBd := Lib.hid hb
    clear hb
    go_wp2_with fail
    refine (l10Parameters_any _ z' _ n c p _ (HB.out.ext hE2) (hx.ext hE) Hb.out).mono ?_
    rintro e w3 ⟨rfl, hE3⟩
    have hE4 := hE.trans hE3
    have hsz4 : w.heap.size + 1 < w3.heap.size := by obtain ⟨cs, _, h2⟩ := HF.out; have h3 := (Array.getElem?_eq_some_iff.1 h2).1; have h4 := hE2.size; have h5 := hE3.size; omega
    clear q0 q1
    obtain ⟨x1, x2, x3, x4, x5, hx5⟩ : ∃ x1 x2 x3 x4 x5 : Int, parA z' p = #[.int .i64 x1, .int .i64 x2, .int .i64 x3, .int .i64 x4, .int .i64 x5] := ⟨_, _, _, _, _, rfl⟩
    have HX5 := Lib.hid hx5
    rw [hx5]
    clear hx5
    have c5 := HF.out.ext (hE2.trans hE3)
    have HC5 := Lib.hid c5
    have f0 := c5.frozen 0
    have f1 := c5.frozen 1
    have f2 := c5.frozen 2
    have f3 := c5.frozen 3
    have f4 := c5.frozen 4
    obtain ⟨v0, k0⟩ := c5.cell (k := 0) (by omega)
    obtain ⟨v1, k1⟩ := c5.cell (k := 1) (by omega)
    obtain ⟨v2, k2⟩ := c5.cell (k := 2) (by omega)
    obtain ⟨v3, k3⟩ := c5.cell (k := 3) (by omega)
    obtain ⟨v4, k4⟩ := c5.cell (k := 4) (by omega)
    clear c5
    have hne : w.heap.size + 1 ≠ w3.heap.size := by omega
    have hne2 : ¬ w3.heap.size = w.heap.size + 1 := by omega
    rcases pbc (PB z' p) with ⟨hb, Hp⟩ | ⟨hb, Hp⟩
    · rw [hb]
      have HBp := Lib.hid hb
      clear hb
      go_wp2
      (try simp only [Exit.inBlock, Exit.then])
      refine bodyPost_ret (results_row_tmp rfl _ _ (w.heap.size + 1) #[.int .i64 x1, .int .i64 x2, .int .i64 x3, .int .i64 x4, .int .i64 x5] rfl (HC5.out.loadA _ x1 x2 x3 x4 x5)) rfl ?_
      exact ⟨by rw [HX5.out, parC, HBd.out, HBp.out]; rfl, (hE4.par5 (by omega) _ _ _ _ _).alloc _⟩
    · rw [hb]
      have HBp := Lib.hid hb
      clear hb
      go_wp2
      (try simp only [Exit.inBlock, Exit.then])
      refine bodyPost_ret (results_row_tmp rfl _ _ (w.heap.size + 1) #[.int .i64 0, .int .i64 0, .int .i64 0, .int .i64 0, .int .i64 0] rfl (HC5.out.loadA _ 0 0 0 0 0)) rfl ?_
      exact ⟨by rw [parA_no Hp.out, parC, HBd.out, HBp.out]; rfl, (hE4.par5 (by omega) _ _ _ _ _).alloc _⟩
  · rw [hb]
    have hno := Lib.hid (show ¬ PB z p from fun h => Hb.out h.1)
    clear q0 q1
    have HBd := Lib.hid hb
    clear hb
    have c5 := HF.out.ext hE2
    have HC5 := Lib.hid c5
    have f0 := c5.frozen 0
    have f1 := c5.frozen 1
    have f2 := c5.frozen 2
    have f3 := c5.frozen 3
    have f4 := c5.frozen 4
    obtain ⟨v0, k0⟩ := c5.cell (k := 0) (by omega)
    obtain ⟨v1, k1⟩ := c5.cell (k := 1) (by omega)
    obtain ⟨v2, k2⟩ := c5.cell (k := 2) (by omega)
    obtain ⟨v3, k3⟩ := c5.cell (k := 3) (by omega)
    obtain ⟨v4, k4⟩ := c5.cell (k := 4) (by omega)
    clear c5
    go_wp2
    (try simp only [Exit.inBlock, Exit.then])
    refine bodyPost_ret (results_row_tmp rfl _ _ (w.heap.size + 1) #[.int .i64 0, .int .i64 0, .int .i64 0, .int .i64 0, .int .i64 0] rfl (HC5.out.load 0 0 0 0 0)) rfl ?_
    exact ⟨by rw [parA_no hno.out, parC, HBd.out]; rfl, hE.par5 (by omega) 0 0 0 0 0⟩
end Go.Proofs.Ytgggbicmmijlnaa
