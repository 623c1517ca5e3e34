/- FieldSquare of the reference. Conditions: none. -/
import Derived.Test.YtgggbicmmijlnaaFlds4
import Derived.Test.YtgggbicmmijlnaaMat
import Derived.Test.YtgggbicmmijlnaaSet2
namespace Go.Proofs.Ytgggbicmmijlnaa
open Go.RowKit

theorem OwnR.cellAtN {w : World} {B : Nat} {a : Option Addr} {n m c : Nat} {p : List (List Int)} {rs : List Row} (h : OwnR w B a n c p rs) (hr : Rect p n m) {x y : Nat} (hx : x < n) (hy : y < m) :
    ∃ g g2 d, a = some ⟨g, 0, none⟩ ∧ w.cell? ⟨g, x, none⟩ = some (.slice (some ⟨g2, 0, none⟩) m d) ∧ B ≤ g2 ∧ w.cell? ⟨g2, y, none⟩ = some (.int .i64 (at2 p x y)) ∧ w.frozen? ⟨g2, y, none⟩ = false ∧
      (∀ v, OwnR (w.setCell ⟨g2, y, none⟩ (.int .i64 v)) B a n c (set2 p x y v) rs) ∧ g ≠ g2 := by
  obtain ⟨g, g2, d, h1, h2, h3, h4, h5, h6⟩ := h.cellAt hr hx hy
  refine ⟨g, g2, d, h1, h2, h3, h4, h5, h6, fun e => ?_⟩
  obtain ⟨g', r, xs, k1, _, k3, _, _, k6, _⟩ := h.at_ hx
  rw [h1] at k1
  cases k1
  rw [h2] at k3
  have hb : blk r.1 = some g2 := by
    injection k3 with k3
    injection k3 with e1 e2 e3
    rw [← e1]; rfl
  exact h.apart r (List.mem_of_getElem? k6.out) g2 hb (by rw [h1, e]; rfl)

/-- The square as far as it is filled. -/
def fsAt (g : Nat → Nat → Int) (q x y : Nat) : List (List Int) := mat q q fun i j => if i < x ∨ (i = x ∧ j < y) then g i j else 0
theorem fsAt_start (g : Nat → Nat → Int) (q : Nat) : fsAt g q 0 0 = mat q q fun _ _ => 0 := mat_congr fun i j _ _ => if_neg (by omega)
theorem fsAt_row (g : Nat → Nat → Int) (q x : Nat) : fsAt g q x q = fsAt g q (x + 1) 0 := mat_congr fun i j _ hj => by
  by_cases h : i < x ∨ (i = x ∧ j < q)
  · rw [if_pos h, if_pos (by omega)]
  · rw [if_neg h, if_neg (by omega)]
theorem fsAt_end (g : Nat → Nat → Int) (q : Nat) : fsAt g q q 0 = sq q g := by rw [sq_mat]; exact mat_congr fun i j hi _ => if_pos (.inl hi)
theorem fsAt_rect (g : Nat → Nat → Int) (q x y : Nat) : Rect (fsAt g q x y) q q := mat_rect _ _ _
theorem gr_mat {n m x : Nat} {f : Nat → Nat → Int} (hx : x < n) : gr (mat n m f) x = (List.range m).map fun y => f x y := gr_of (mat_row hx)
theorem fsAt_step {g : Nat → Nat → Int} {q x y : Nat} (hx : x < q) (hy : y < q) : set2 (fsAt g q x y) x y (g x y) = fsAt g q x (y + 1) := by
  rw [set2, fsAt, gr_mat hx, mat_set hx]
  refine mat_congr fun i j _ _ => ?_
  by_cases h : i = x ∧ j = y
  · obtain ⟨rfl, rfl⟩ := h
    rw [if_pos ⟨rfl, rfl⟩, if_pos (.inr ⟨rfl, by omega⟩)]
  · rw [if_neg h]
    by_cases h2 : i < x ∨ (i = x ∧ j < y)
    · rw [if_pos h2, if_pos (by omega)]
    · rw [if_neg h2, if_neg (by omega)]

set_option maxRecDepth 100000 in
set_option maxHeartbeats 6400000 in
theorem l07Square_any (q m p k : Nat) (w : World) (hsp : sp q = (p, k)) (hp2 : 2 ≤ p) (hk1 : 1 ≤ k) (hpk : p ^ k = q) (hN : leastN p k < 64) (hq : q ≤ 10) (hm : m < q)
    (hP : ∀ x, x < q → ∃ P : Nat, prd m x p k (2 * k - 1) = P ∧ P < q) :
    Calls Try.prog 48 #[.int .i64 q, .int .i64 m] w (RetR w (sq q fun x y => cmb (prd m x p k (2 * k - 1)).toNat y p k)) := by
  obtain ⟨hpl, hkl⟩ := pp_le hp2 hk1 hpk
  have HPQ := Lib.hid hpk
  have HPr := Lib.hid hP
  have HSP := Lib.hid hsp
  have HN := Lib.hid hN
  clear hP hpk hsp hN
  obtain ⟨G, hG⟩ : ∃ G : Nat → Nat → Int, (fun x y => cmb (prd m x p k (2 * k - 1)).toNat y p k) = G := ⟨_, rfl⟩
  rw [hG]
  have HGG := Lib.hid hG
  clear hG
  go_enter Try.func48, Try.ntmps48
  go_wp2_with fail
  refine (l03Make_any q p k _ HSP.out hp2 hk1 (by rw [HPQ.out]; omega) HN.out).mono ?_
  rintro e w2 ⟨a, n, c, rfl, hOp, hE⟩
  go_wp2_with fail
  obtain ⟨W, hW⟩ : ∃ W, (w2.alloc (.cells #[.int .i64 p, .int .i64 k, .slice a n c] 67)) = W := ⟨_, rfl⟩
  have hE2 : Ext w2 W := by rw [← hW]; exact (Ext.refl _).alloc _
  have H3 : Hid (W.heap[w2.heap.size]? = some (.cells #[.int .i64 p, .int .i64 k, .slice a n c] 67 (0, 0))) := Lib.hid (by rw [← hW]; exact heap_alloc_new _ _)
  have HB : Hid (B3 W w2.heap.size p k a n c) := Lib.hid ⟨cell_blk H3.out rfl, cell_blk H3.out rfl, cell_blk H3.out rfl⟩
  have HXp := Lib.hid (hOp.rdI.ext hE2)
  have hEW := hE.trans hE2
  rw [hW]
  clear hW hOp hE hE2
  refine (l06Zero_any q q _ (by omega) (by omega)).mono ?_
  rintro e w4 ⟨a6, n6, d, rs, rfl, hO, hE4⟩
  obtain rfl : q = n6 := by have := hO.len; rw [mat_length] at this; exact this.symm
  have HB4 := HB
  have HX4 := HXp
  have hO0 := hO
  rw [← fsAt_start G q] at hO0
  obtain ⟨g, _, _, ha6, _⟩ := hO0.cellAtN (fsAt_rect G q 0 0) (x := 0) (y := 0) (by omega) (by omega)
  subst ha6
  clear hO
  go_wp2
  go_loopg [7] q (fun gh ix wr => ∃ x : Nat, x ≤ q ∧ gh = q - x ∧ ix = .int .i64 x ∧ OwnR wr W.heap.size (some ⟨g, 0, none⟩) q d (fsAt G q x 0) rs ∧ Ext W wr)
  case atStart => exact ⟨0, Nat.zero_le _, rfl, rfl, hO0, hE4⟩
  case round =>
    clear hO0 hE4
    obtain ⟨x, hxq, rfl, rfl, hO, hE⟩ := hrel
    by_cases hlx : x < q
    · have hzx : (x : Int) < (q : Int) := by omega
      obtain ⟨P, hP1, hP2⟩ := HPr.out x hlx
      have HP1 := Lib.hid hP1
      clear hP1
      go_wp2_with fail
      refine (l03Mul_any _ p k a n c m x _ (HB4.out.ext hE) (HX4.out.ext hE) hp2 (by omega) hk1 (by omega) (by rw [HPQ.out]; omega) (by omega) (by omega)).mono ?_
      rintro e w5 ⟨rfl, hE5⟩
      rw [HP1.out]
      have hO5 := hO.ext hE5
      have hE6 := hE.trans hE5
      clear hO hE hE5
      go_wp2
      go_loopg [9] q (fun gh ix wi => ∃ (y : Nat) (M : List (List Int)), y ≤ q ∧ gh = q - y ∧ ix = .int .i64 y ∧ OwnR wi W.heap.size (some ⟨g, 0, none⟩) q d M rs ∧ Hid (M = fsAt G q x y) ∧ Ext W wi)
      case atStart => exact ⟨0, _, Nat.zero_le _, rfl, rfl, hO5, Lib.hid rfl, hE6⟩
      case round =>
        clear hO5 hE6
        obtain ⟨y, M, hyq, rfl, rfl, hO, HM, hE⟩ := hrel
        by_cases hly : y < q
        · have hzy : (y : Int) < (q : Int) := by omega
          have HMr : Hid (Rect M q q) := Lib.hid (by rw [HM.out]; exact fsAt_rect _ _ _ _)
          have HB3 := HB4
          obtain ⟨g0, gg, dd, hh, hc1, hBg, hc2, hf2, _, hne⟩ := hO.cellAtN HMr.out hlx hly
          cases hh
          have HST : Hid (set2 M x y (cmb P y p k) = fsAt G q x (y + 1)) := Lib.hid (by
            have e : cmb P y p k = G x y := by rw [← HGG.out]; show cmb P y p k = cmb (prd m x p k (2 * k - 1)).toNat y p k; rw [HP1.out, Int.toNat_natCast]
            rw [e, HM.out]; exact fsAt_step hlx hly)
          clear hf2
          go_wp2_with fail
          refine wp_region_noPanic ?_
          refine wp_region_held_drew (S := (fun w' => w'.cell? ⟨g, x, none⟩ = some (.slice (some ⟨gg, 0, none⟩) q dd))) (by kernel_rfl) (Ext.cell ((Ext.refl _).drew) hc1) (fun hHeld => ?_)
          refine wpAnyH_take (i := 0) (v := .slice (some ⟨g, 0, none⟩) q d) rfl (by kernel_rfl) (by kernel_rfl) (by kernel_rfl) (fun _ _ _ h => h) (Or.inl ⟨by rfl, fun w hSw => by (try dsimp only at hSw); go_simp⟩) (by assumption) ?_
          try simp only [Act.put, List.setIfInBounds_toArray, List.set_cons_zero, List.set_cons_succ, List.getElem_toArray, List.getElem_cons_zero, List.getElem_cons_succ]
          refine wpAnyH_take (i := 1) (v := .int .i64 x) rfl (by kernel_rfl) (by kernel_rfl) (by kernel_rfl) (fun _ _ _ h => h) (Or.inl ⟨by rfl, fun w hSw => by (try dsimp only at hSw); go_simp⟩) (by assumption) ?_
          try simp only [Act.put, List.setIfInBounds_toArray, List.set_cons_zero, List.set_cons_succ, List.getElem_toArray, List.getElem_cons_zero, List.getElem_cons_succ]
          refine wpAnyH_take (i := 2) (v := .pointer (some ⟨g, x, none⟩)) rfl (by kernel_rfl) (by kernel_rfl) (by kernel_rfl) (fun _ _ _ h => h) (Or.inl ⟨by rfl, fun w hSw => by (try dsimp only at hSw); go_simp⟩) (by assumption) ?_
          try simp only [Act.put, List.setIfInBounds_toArray, List.set_cons_zero, List.set_cons_succ, List.getElem_toArray, List.getElem_cons_zero, List.getElem_cons_succ]
          refine wpAnyH_take (i := 3) (v := .slice (some ⟨gg, 0, none⟩) q dd) rfl (by kernel_rfl) (by kernel_rfl) (by kernel_rfl) (fun _ _ _ h => h) (Or.inl ⟨by rfl, fun w hSw => by (try dsimp only at hSw); go_simp⟩) (by assumption) ?_
          try simp only [Act.put, List.setIfInBounds_toArray, List.set_cons_zero, List.set_cons_succ, List.getElem_toArray, List.getElem_cons_zero, List.getElem_cons_succ]
          refine wpAnyH_take (i := 4) (v := .int .i64 y) rfl (by kernel_rfl) (by kernel_rfl) (by kernel_rfl) (fun _ _ _ h => h) (Or.inl ⟨by rfl, fun w hSw => by (try dsimp only at hSw); go_simp⟩) (by assumption) ?_
          try simp only [Act.put, List.setIfInBounds_toArray, List.set_cons_zero, List.set_cons_succ, List.getElem_toArray, List.getElem_cons_zero, List.getElem_cons_succ]
          refine wpAnyH_take (i := 5) (v := .int .i64 P) rfl (by kernel_rfl) (by kernel_rfl) (by kernel_rfl) (fun _ _ _ h => h) (Or.inl ⟨by rfl, fun w hSw => by (try dsimp only at hSw); go_simp⟩) (by assumption) ?_
          try simp only [Act.put, List.setIfInBounds_toArray, List.set_cons_zero, List.set_cons_succ, List.getElem_toArray, List.getElem_cons_zero, List.getElem_cons_succ]
          refine wpAnyH_take (i := 6) (v := .int .i64 y) rfl (by kernel_rfl) (by kernel_rfl) (by kernel_rfl) (fun _ _ _ h => h) (Or.inl ⟨by rfl, fun w hSw => by (try dsimp only at hSw); go_simp⟩) (by assumption) ?_
          try simp only [Act.put, List.setIfInBounds_toArray, List.set_cons_zero, List.set_cons_succ, List.getElem_toArray, List.getElem_cons_zero, List.getElem_cons_succ]
          refine wpAnyH_ready (rs := [7]) (by kernel_rfl) (by simp) ?_
          refine (AllReadyH.cons (o := _) rfl (fun K hK => ?_) AllReadyH.nil)
          · go_simp
            refine (l03Sum_any _ p k a n c P y _ (HB3.out.ext (hE.trans ((Ext.refl _).drew))) hp2 (by omega) hk1 (by omega) (by rw [HPQ.out]; omega) (by omega) (by omega)).mono ?_
            rintro e w9 ⟨rfl, hE9⟩
            have hEd := Ext.trans ((Ext.refl wr).drew) hE9
            have hO9 := hO.ext hEd
            obtain ⟨g9, gg9, dd9, hh9, hc19, hB9, hc29, hf29, hset9, hne9⟩ := hO9.cellAtN HMr.out hlx hly
            cases hh9
            have r1 := Ext.cell hEd hc1
            rw [r1] at hc19
            cases hc19
            dsimp only
            refine hK.out _ _ r1 (fun hHeld => ?_)
            clear hK K
            try simp only [Act.put, List.setIfInBounds_toArray, List.set_cons_zero, List.set_cons_succ, List.getElem_toArray, List.getElem_cons_zero, List.getElem_cons_succ]
            refine wpAnyH_take (i := 8) (v := .pointer (some ⟨gg, y, none⟩)) rfl (by kernel_rfl) (by kernel_rfl) (by kernel_rfl) (fun _ _ _ h => h) (Or.inl ⟨by rfl, fun w hSw => by (try dsimp only at hSw); go_simp⟩) (by assumption) ?_
            try simp only [Act.put, List.setIfInBounds_toArray, List.set_cons_zero, List.set_cons_succ, List.getElem_toArray, List.getElem_cons_zero, List.getElem_cons_succ]
            refine wpAnyH_ready (rs := [9]) (by kernel_rfl) (by simp) ?_
            refine (AllReadyH.cons (o := _) rfl (fun K hK => ?_) AllReadyH.nil)
            · go_simp
              refine hK.out _ _ (by show (World.setCell _ _ _).cell? _ = _; rw [World.cell?_of_block (Below.heap_setCell _ _ _ _ hne9)]; exact r1) (fun hHeld => ?_)
              clear hK K
              try simp only [Act.put, List.setIfInBounds_toArray, List.set_cons_zero, List.set_cons_succ, List.getElem_toArray, List.getElem_cons_zero, List.getElem_cons_succ]
              refine wpAnyH_done (by kernel_rfl) ?_ _
              refine NoPanic.normal ?_
              have hfin := hset9 (cmb P y p k)
              rw [HST.out] at hfin
              have hE10 := (hE.trans hEd).setCell (p := ⟨gg, y, none⟩) (by simp at hB9 ⊢; omega) (.int .i64 (cmb P y p k))
              clear hset9 hO9
              go_wp2
              go_roundg (q - (y + 1))
              case measure => go_light; omega
              case rel => go_light; exact ⟨y + 1, _, by omega, rfl, by go_num, hfin, Lib.hid rfl, hE10⟩
        · have hzy : ¬ (y : Int) < (q : Int) := by omega
          obtain rfl : q = y := by omega
          rw [HM.out, fsAt_row] at hO
          go_wp2
          go_roundg (q - (x + 1))
          case measure => go_light; omega
          case rel => go_light; exact ⟨x + 1, by omega, rfl, by go_num, hO, hE⟩
    · have hzx : ¬ (x : Int) < (q : Int) := by omega
      obtain rfl : q = x := by omega
      rw [fsAt_end] at hO
      go_wp2
      go_ret
      exact ⟨_, _, _, rs, rfl, hO.base hEW.size, hEW.trans hE⟩
end Go.Proofs.Ytgggbicmmijlnaa
