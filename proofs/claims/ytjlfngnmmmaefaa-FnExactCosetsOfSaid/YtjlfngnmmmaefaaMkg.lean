/- MakeGroup of both. Conditions: none. -/
import Derived.Test.YtjlfngnmmmaefaaCls
import Derived.Test.YtjlfngnmmmaefaaClI
import Derived.Test.YtjlfngnmmmaefaaRst
import Derived.Test.YtjlfngnmmmaefaaPermI
import Derived.Test.YtjlfngnmmmaefaaPermS
import Derived.Test.YtjlfngnmmmaefaaBx
namespace Go.Proofs.Ytjlfngnmmmaefaa
open Go.RowKit

/-- All that is generated, in order. -/
noncomputable def genL (n : Nat) (gs : List (List Int)) : List (List Int) := if h : pb (∃ L, IsGen n gs L) = true then Classical.choose (pb_iff.1 h) else []
theorem genL_of {n : Nat} {gs L : List (List Int)} (h : IsGen n gs L) : L = genL n gs := by
  have he : ∃ L, IsGen n gs L := ⟨L, h⟩
  rw [genL, dif_pos (pb_true he)]
  exact h.unique (Classical.choose_spec (pb_iff.1 (pb_true he)))
theorem tot_le {p : List (List Int)} {k : Nat} (h : ∀ x, x ∈ p → x.length ≤ k) : tot p ≤ p.length * k := by
  induction p with
  | nil => simp [tot]
  | cons x l ih =>
    have h1 := ih (fun y hy => h y (List.mem_cons_of_mem _ hy))
    have h2 := h x List.mem_cons_self
    rw [List.length_cons, Nat.succ_mul]
    simp only [tot]
    omega
theorem gen_tot {n : Nat} {gs L : List (List Int)} (hp : PermsN n gs) (hn : n ≤ 32) (h : IsGen n gs L) (hl : L.length ≤ 720) : L.length + tot L ≤ 1048576 := by
  have h1 := tot_le (p := L) (k := 32) (fun x hx => by rw [(((h.2.2 x).1 hx).perm hp).1]; exact hn)
  have h2 := Nat.mul_le_mul_right 32 hl
  omega
theorem srtL_self {L : List (List Int)} (h : SortedLL L) : srtL L = L := (srtL_of (List.Perm.refl _) h).symm

/-- What makes a group. -/
def MgOk (z : Int) (gs : List (List Int)) : Prop := (1 ≤ z ∧ z ≤ 32) ∧ AllPerm z gs
noncomputable def mgC (z : Int) (gs : List (List Int)) : Int := if pb (MgOk z gs) then (if pb (Big z.toNat gs 720) then 5 else 0) else 1
noncomputable def mgZ (z : Int) (gs : List (List Int)) : Int := if mgC z gs = 0 then z else 0
noncomputable def mgM (z : Int) (gs : List (List Int)) : List (List Int) := if mgC z gs = 0 then genL z.toNat gs else []
theorem MgOk.perms {z : Int} {gs : List (List Int)} (h : MgOk z gs) : PermsN z.toNat gs := fun g hg => by
  have h1 := h.2 g hg
  have h2 := h.1
  exact ⟨by omega, h1.2.2⟩
theorem mg_1 {z : Int} {gs : List (List Int)} (h : ¬ MgOk z gs) : 0 = mgZ z gs ∧ [] = mgM z gs ∧ 1 = mgC z gs := by
  have e : mgC z gs = 1 := by rw [mgC, pb_false h]; rfl
  rw [mgZ, mgM, e]; exact ⟨rfl, rfl, rfl⟩
theorem mg_5 {z : Int} {gs : List (List Int)} (h : MgOk z gs) (hb : Big z.toNat gs 720) : 0 = mgZ z gs ∧ [] = mgM z gs ∧ 5 = mgC z gs := by
  have e : mgC z gs = 5 := by rw [mgC, if_pos (pb_true h), if_pos (pb_true hb)]
  rw [mgZ, mgM, e]; exact ⟨rfl, rfl, rfl⟩
theorem mg_0 {z : Int} {gs L : List (List Int)} (h : MgOk z gs) (hb : ¬ Big z.toNat gs 720) (hL : IsGen z.toNat gs L) : z = mgZ z gs ∧ L = mgM z gs ∧ 0 = mgC z gs := by
  have e : mgC z gs = 0 := by rw [mgC, if_pos (pb_true h), pb_false hb]; rfl
  rw [mgZ, mgM, e]; exact ⟨rfl, genL_of hL, rfl⟩

set_option maxRecDepth 100000 in
set_option maxHeartbeats 3200000 in
theorem implMkg (z : Int) (a : Option Addr) (n c : Nat) (p : List (List Int)) (w : World) (lo : -9223372036854775808 ≤ z) (hi : z ≤ 9223372036854775807) (hx : RdR w a n c p) (hs : p.length + tot p ≤ 1048576) :
    Calls Try.prog 34 #[.int .i64 z, .slice a n c] w (RetDC w (mgZ z p) (mgM z p) (mgC z p)) := by
  have hEW : Ext w (w.alloc (.cells #[.int .i64 0, .slice none 0 0] 29)) := (Ext.refl _).alloc _
  have Hl := Lib.hid hx.len
  have HB : Hid ((w.alloc (.cells #[.int .i64 0, .slice none 0 0] 29)).heap[w.heap.size]? = some (.cells #[.int .i64 0, .slice none 0 0] 29 (0, 0))) := Lib.hid (heap_alloc_new _ _)
  have hsW : (w.alloc (.cells #[.int .i64 0, .slice none 0 0] 29)).heap.size = w.heap.size + 1 := by simp
  go_enter Try.func34, Try.ntmps34
  by_cases hz : 1 ≤ z ∧ z ≤ 32
  · have Hz := Lib.hid hz
    clear hz
    go_wp2_with fail
    refine (within_any _ _ _ true (decide_eq_true Hz.out) _).mono ?_
    rintro e w2 ⟨rfl, rfl⟩
    go_wp2_with fail
    refine (arePerm_any z _ _ _ p _ (hx.ext hEW) (by have := Hz.out; omega)).mono ?_
    rintro e w2 ⟨rfl, hE⟩
    rcases pbc (AllPerm z p) with ⟨hb, Hb⟩ | ⟨hb, Hb⟩
    · rw [hb]
      have Hok : Hid (MgOk z p) := Lib.hid ⟨Hz.out, Hb.out⟩
      obtain ⟨z', rfl⟩ := Int.eq_ofNat_of_zero_le (show 0 ≤ z by have := Hz.out; omega)
      have hz1 : 1 ≤ z' := by have := Hz.out; omega
      have hz2 : z' ≤ 32 := by have := Hz.out; omega
      clear hb
      go_wp2_with fail
      refine (closure_any z' _ _ _ p _ (hx.ext (hEW.trans hE)) Hok.out.perms hz1 hz2 (by have := Hl.out; omega)).mono ?_
      rintro e w3 ⟨a3, n3, c3, rfl, hE3, L, ⟨rs3, hO⟩, HL⟩
      have hE4 := hE.trans hE3
      rcases pbc (Big z' p 720) with ⟨hb, HBg⟩ | ⟨hb, HBg⟩
      · rw [pb_false (fun h => h HBg.out)]
        have hC := Lib.hid (mg_5 Hok.out HBg.out)
        clear hO hb hE
        have HBr := heap_ext hE4 HB.out
        have q0 := cell_blk (k := 0) HBr rfl
        have q1 := cell_blk (k := 1) HBr rfl
        have f0 := frozen_blk (k := 0) HBr
        have f1 := frozen_blk (k := 1) HBr
        have HBh := Lib.hid HBr
        clear HBr
        go_wp2
        (try simp only [Exit.inBlock, Exit.then])
        refine bodyPost_ret (results_row_tmp rfl _ _ w.heap.size #[.int .i64 0, .slice none 0 0] rfl (run_loadVar_row _ w.heap.size 29 29 #[.int .i64 0, .slice none 0 0] (0, 0) _ (by first | exact HBh.out | simp [World.setCell, Array.getElem?_modify, HBh.out]) Try.underlying29 rfl (by kernel_rfl))) rfl ?_
        exact RetDC.nil_ hC.out.1 hC.out.2.1 hC.out.2.2 (by first | exact ((hEW.trans hE4).setCell (p := ⟨w.heap.size, 0, none⟩) (Nat.le_refl _) (.int .i64 0)).setCell (p := ⟨w.heap.size, 1, none⟩) (Nat.le_refl _) (.slice none 0 0) | exact hEW)
      · rw [pb_true HBg.out]
        have hC := Lib.hid (mg_0 Hok.out HBg.out (HL.out.1 HBg.out).1)
        have hlt : ¬ OwnR.fp a3 rs3 w.heap.size := fun hf => by have h8 := (hO.lt hf).1; have h9 := hE.size; omega
        have hszB : w.heap.size ≤ w2.heap.size := (hEW.trans hE).size
        clear hb
        have HBr := heap_ext hE4 HB.out
        have q0 := cell_blk (k := 0) HBr rfl
        have q1 := cell_blk (k := 1) HBr rfl
        have f0 := frozen_blk (k := 0) HBr
        have f1 := frozen_blk (k := 1) HBr
        have HBh := Lib.hid HBr
        clear HBr
        go_wp2
        (try simp only [Exit.inBlock, Exit.then])
        refine bodyPost_ret (results_row_tmp rfl _ _ w.heap.size #[.int .i64 z', .slice a3 n3 c3] rfl (run_loadVar_row _ w.heap.size 29 29 #[.int .i64 z', .slice a3 n3 c3] (0, 0) _ (by first | exact HBh.out | simp [World.setCell, Array.getElem?_modify, HBh.out]) Try.underlying29 rfl (by kernel_rfl))) rfl ?_
        exact RetDC.mk_ (((hO).setOther (p := ⟨w.heap.size, 0, none⟩) (hlt) (.int .i64 z')).setOther (p := ⟨w.heap.size, 1, none⟩) (hlt) (.slice a3 n3 c3)) hszB hC.out.1 hC.out.2.1 hC.out.2.2 (((hEW.trans hE4).setCell (p := ⟨w.heap.size, 0, none⟩) (Nat.le_refl _) (.int .i64 z')).setCell (p := ⟨w.heap.size, 1, none⟩) (Nat.le_refl _) (.slice a3 n3 c3))
    · rw [hb]
      have hC := Lib.hid (mg_1 (z := z) (gs := p) (fun h => Hb.out h.2))
      clear hb
      have HBr := heap_ext hE HB.out
      have q0 := cell_blk (k := 0) HBr rfl
      have q1 := cell_blk (k := 1) HBr rfl
      have f0 := frozen_blk (k := 0) HBr
      have f1 := frozen_blk (k := 1) HBr
      have HBh := Lib.hid HBr
      clear HBr
      go_wp2
      (try simp only [Exit.inBlock, Exit.then])
      refine bodyPost_ret (results_row_tmp rfl _ _ w.heap.size #[.int .i64 0, .slice none 0 0] rfl (run_loadVar_row _ w.heap.size 29 29 #[.int .i64 0, .slice none 0 0] (0, 0) _ (by first | exact HBh.out | simp [World.setCell, Array.getElem?_modify, HBh.out]) Try.underlying29 rfl (by kernel_rfl))) rfl ?_
      exact RetDC.nil_ hC.out.1 hC.out.2.1 hC.out.2.2 (by first | exact ((hEW.trans hE).setCell (p := ⟨w.heap.size, 0, none⟩) (Nat.le_refl _) (.int .i64 0)).setCell (p := ⟨w.heap.size, 1, none⟩) (Nat.le_refl _) (.slice none 0 0) | exact hEW)
  · have Hz := Lib.hid hz
    have hC := Lib.hid (mg_1 (z := z) (gs := p) (fun h => Hz.out h.1))
    clear hz
    go_wp2_with fail
    refine (within_any _ _ _ false (decide_eq_false Hz.out) _).mono ?_
    rintro e w2 ⟨rfl, rfl⟩
    have HBr := HB.out
    have q0 := cell_blk (k := 0) HBr rfl
    have q1 := cell_blk (k := 1) HBr rfl
    have f0 := frozen_blk (k := 0) HBr
    have f1 := frozen_blk (k := 1) HBr
    have HBh := Lib.hid HBr
    clear HBr
    go_wp2
    (try simp only [Exit.inBlock, Exit.then])
    refine bodyPost_ret (results_row_tmp rfl _ _ w.heap.size #[.int .i64 0, .slice none 0 0] rfl (run_loadVar_row _ w.heap.size 29 29 #[.int .i64 0, .slice none 0 0] (0, 0) _ (by first | exact HBh.out | simp [World.setCell, Array.getElem?_modify, HBh.out]) Try.underlying29 rfl (by kernel_rfl))) rfl ?_
    exact RetDC.nil_ hC.out.1 hC.out.2.1 hC.out.2.2 (by first | exact ((hEW).setCell (p := ⟨w.heap.size, 0, none⟩) (Nat.le_refl _) (.int .i64 0)).setCell (p := ⟨w.heap.size, 1, none⟩) (Nat.le_refl _) (.slice none 0 0) | exact hEW)

set_option maxRecDepth 100000 in
set_option maxHeartbeats 3200000 in
theorem specMkg (z : Int) (a : Option Addr) (n c : Nat) (p : List (List Int)) (w : World) (lo : -9223372036854775808 ≤ z) (hi : z ≤ 9223372036854775807) (hx : RdR w a n c p) (hs : p.length + tot p ≤ 1048576) :
    Calls Try.prog 32 #[.int .i64 z, .slice a n c] w (RetDC w (mgZ z p) (mgM z p) (mgC z p)) := by
  have hb1 := hx.le
  have hb2 := hx.max
  have hEW : Ext w (w.alloc (.cells #[.int .i64 0, .slice none 0 0] 29)) := (Ext.refl _).alloc _
  have Hl := Lib.hid hx.len
  have HB : Hid ((w.alloc (.cells #[.int .i64 0, .slice none 0 0] 29)).heap[w.heap.size]? = some (.cells #[.int .i64 0, .slice none 0 0] 29 (0, 0))) := Lib.hid (heap_alloc_new _ _)
  have hsW : (w.alloc (.cells #[.int .i64 0, .slice none 0 0] 29)).heap.size = w.heap.size + 1 := by simp
  go_enter Try.func32, Try.ntmps32
  by_cases hz : 1 ≤ z ∧ z ≤ 32
  · have Hz := Lib.hid hz
    clear hz
    go_wp2_with fail
    refine (l00In_any _ _ _ true (decide_eq_true Hz.out) _).mono ?_
    rintro e w2 ⟨rfl, rfl⟩
    go_wp2
    go_loopg [6] n (fun gh i wr => ∃ k : Nat, k ≤ n ∧ gh = n - k ∧ i = .int .i64 k ∧ Ext (w.alloc (.cells #[.int .i64 0, .slice none 0 0] 29)) wr ∧ Hid (∀ j, j < k → ((gr p j).length : Int) = z ∧ PermOk (gr p j)))
    case atStart => exact ⟨0, Nat.zero_le _, rfl, rfl, Ext.refl _, Lib.hid (fun i h => absurd h (Nat.not_lt_zero _))⟩
    case round =>
      obtain ⟨k, hk, rfl, rfl, hE, HP⟩ := hrel
      have hEw := hEW.trans hE
      by_cases hlt : k < n
      · have hz1 : (k : Int) < (n : Int) := by omega
        obtain ⟨b, o, ai, ni, ci, rfl, hc0, hrow⟩ := hx.gr hlt
        have hc := hEw.cell hc0
        have HM := Lib.hid hrow.len
        rcases pbc (PermOk (gr p k)) with ⟨hb, Hb⟩ | ⟨hb, Hb⟩
        · go_wp2_with fail
          refine (l04Ok_any ai ni ci (gr p k) _ (hrow.ext hEw)).mono ?_
          rintro e w5 ⟨rfl, hQ⟩
          rw [hb]
          have hE5 := hE.trans ((by first | exact hQ | exact hQ.ext))
          have hc5 := (hEW.trans hE5).cell hc0
          by_cases hl : (ni : Int) = z
          · have hne : ((ni : Int) != z) = false := by simp [hl]
            have HP2 : Hid (∀ j, j < k + 1 → ((gr p j).length : Int) = z ∧ PermOk (gr p j)) := Lib.hid (fun j hj => by
              by_cases e : j = k
              · subst e; exact ⟨by rw [← HM.out]; exact hl, Hb.out⟩
              · exact HP.out j (by omega))
            clear hl hE hEw hQ hc hb
            go_wp2
            go_roundg (n - (k + 1))
            case measure => go_light; omega
            case rel => go_light; exact ⟨k + 1, by omega, rfl, by go_num, hE5, HP2⟩
          · have hne : ((ni : Int) != z) = true := by simp [hl]
            have hC := Lib.hid (mg_1 (z := z) (gs := p) (fun h => hl (by rw [HM.out]; exact (h.2 _ (List.mem_of_getElem? (gr_get (by have := Hl.out; omega)))).1)))
            clear hl hE hEw hQ hc hb
            have HBr := heap_ext hE5 HB.out
            have q0 := cell_blk (k := 0) HBr rfl
            have q1 := cell_blk (k := 1) HBr rfl
            have f0 := frozen_blk (k := 0) HBr
            have f1 := frozen_blk (k := 1) HBr
            have HBh := Lib.hid HBr
            clear HBr
            go_wp2
            (try simp only [Exit.inBlock, Exit.then])
            refine bodyPost_ret (results_row_tmp rfl _ _ w.heap.size #[.int .i64 0, .slice none 0 0] rfl (run_loadVar_row _ w.heap.size 29 29 #[.int .i64 0, .slice none 0 0] (0, 0) _ (by first | exact HBh.out | simp [World.setCell, Array.getElem?_modify, HBh.out]) Try.underlying29 rfl (by kernel_rfl))) rfl ?_
            exact RetDC.nil_ hC.out.1 hC.out.2.1 hC.out.2.2 (by first | exact ((hEW.trans hE5).setCell (p := ⟨w.heap.size, 0, none⟩) (Nat.le_refl _) (.int .i64 0)).setCell (p := ⟨w.heap.size, 1, none⟩) (Nat.le_refl _) (.slice none 0 0) | exact hEW)
        · go_wp2_with fail
          refine (l04Ok_any ai ni ci (gr p k) _ (hrow.ext hEw)).mono ?_
          rintro e w5 ⟨rfl, hQ⟩
          rw [hb]
          have hE5 := hE.trans ((by first | exact hQ | exact hQ.ext))
          have hC := Lib.hid (mg_1 (z := z) (gs := p) (fun h => Hb.out (h.2 _ (List.mem_of_getElem? (gr_get (by have := Hl.out; omega)))).2))
          clear hE hEw hQ hc hb
          have HBr := heap_ext hE5 HB.out
          have q0 := cell_blk (k := 0) HBr rfl
          have q1 := cell_blk (k := 1) HBr rfl
          have f0 := frozen_blk (k := 0) HBr
          have f1 := frozen_blk (k := 1) HBr
          have HBh := Lib.hid HBr
          clear HBr
          go_wp2
          (try simp only [Exit.inBlock, Exit.then])
          refine bodyPost_ret (results_row_tmp rfl _ _ w.heap.size #[.int .i64 0, .slice none 0 0] rfl (run_loadVar_row _ w.heap.size 29 29 #[.int .i64 0, .slice none 0 0] (0, 0) _ (by first | exact HBh.out | simp [World.setCell, Array.getElem?_modify, HBh.out]) Try.underlying29 rfl (by kernel_rfl))) rfl ?_
          exact RetDC.nil_ hC.out.1 hC.out.2.1 hC.out.2.2 (by first | exact ((hEW.trans hE5).setCell (p := ⟨w.heap.size, 0, none⟩) (Nat.le_refl _) (.int .i64 0)).setCell (p := ⟨w.heap.size, 1, none⟩) (Nat.le_refl _) (.slice none 0 0) | exact hEW)
      · have hz1 : ¬ (k : Int) < (n : Int) := by omega
        obtain rfl : n = k := by omega
        have Hok : Hid (MgOk z p) := Lib.hid ⟨Hz.out, fun g hg => by
          obtain ⟨j, hj, rfl⟩ := mem_gr hg
          exact HP.out j (by have := Hl.out; omega)⟩
        obtain ⟨z', rfl⟩ := Int.eq_ofNat_of_zero_le (show 0 ≤ z by have := Hz.out; omega)
        have hz3 : 1 ≤ z' := by have := Hz.out; omega
        have hz2 : z' ≤ 32 := by have := Hz.out; omega
        go_wp2_with fail
        refine (l05Close_any z' _ _ _ p 720 _ (hx.ext hEw) Hok.out.perms hz3 hz2 (by omega) (by omega) (by have := Hl.out; omega)).mono ?_
        rintro e w3 ⟨a3, n3, c3, rfl, hE3, L, hrd, HL⟩
        have hE4 := hE.trans hE3
        rcases pbc (Big z' p 720) with ⟨hb, HBg⟩ | ⟨hb, HBg⟩
        · rw [pb_false (fun h => h HBg.out)]
          have hC := Lib.hid (mg_5 Hok.out HBg.out)
          clear hb hE hEw
          have HBr := heap_ext hE4 HB.out
          have q0 := cell_blk (k := 0) HBr rfl
          have q1 := cell_blk (k := 1) HBr rfl
          have f0 := frozen_blk (k := 0) HBr
          have f1 := frozen_blk (k := 1) HBr
          have HBh := Lib.hid HBr
          clear HBr
          go_wp2
          (try simp only [Exit.inBlock, Exit.then])
          refine bodyPost_ret (results_row_tmp rfl _ _ w.heap.size #[.int .i64 0, .slice none 0 0] rfl (run_loadVar_row _ w.heap.size 29 29 #[.int .i64 0, .slice none 0 0] (0, 0) _ (by first | exact HBh.out | simp [World.setCell, Array.getElem?_modify, HBh.out]) Try.underlying29 rfl (by kernel_rfl))) rfl ?_
          exact RetDC.nil_ hC.out.1 hC.out.2.1 hC.out.2.2 (by first | exact ((hEW.trans hE4).setCell (p := ⟨w.heap.size, 0, none⟩) (Nat.le_refl _) (.int .i64 0)).setCell (p := ⟨w.heap.size, 1, none⟩) (Nat.le_refl _) (.slice none 0 0) | exact hEW)
        · rw [pb_true HBg.out]
          have hC := Lib.hid (mg_0 Hok.out HBg.out (HL.out HBg.out).1)
          go_wp2_with fail
          refine (l10Sort_any _ _ _ L _ hrd (gen_tot Hok.out.perms hz2 (HL.out HBg.out).1 (HL.out HBg.out).2)).mono ?_
          rintro e w6 ⟨a6, n6, c6, rs6, rfl, hO6, hE6⟩
          rw [srtL_self (HL.out HBg.out).1.1] at hO6
          have hE7 := hE4.trans hE6
          have hlt : ¬ OwnR.fp a6 rs6 w.heap.size := fun hf => by have h8 := (hO6.lt hf).1; have h9 := hE4.size; omega
          have hszB : w.heap.size ≤ w3.heap.size := (hEW.trans hE4).size
          clear hb hE hEw
          have HBr := heap_ext hE7 HB.out
          have q0 := cell_blk (k := 0) HBr rfl
          have q1 := cell_blk (k := 1) HBr rfl
          have f0 := frozen_blk (k := 0) HBr
          have f1 := frozen_blk (k := 1) HBr
          have HBh := Lib.hid HBr
          clear HBr
          go_wp2
          (try simp only [Exit.inBlock, Exit.then])
          refine bodyPost_ret (results_row_tmp rfl _ _ w.heap.size #[.int .i64 z', .slice a6 n6 c6] rfl (run_loadVar_row _ w.heap.size 29 29 #[.int .i64 z', .slice a6 n6 c6] (0, 0) _ (by first | exact HBh.out | simp [World.setCell, Array.getElem?_modify, HBh.out]) Try.underlying29 rfl (by kernel_rfl))) rfl ?_
          exact RetDC.mk_ (((hO6).setOther (p := ⟨w.heap.size, 0, none⟩) (hlt) (.int .i64 z')).setOther (p := ⟨w.heap.size, 1, none⟩) (hlt) (.slice a6 n6 c6)) hszB hC.out.1 hC.out.2.1 hC.out.2.2 (((hEW.trans hE7).setCell (p := ⟨w.heap.size, 0, none⟩) (Nat.le_refl _) (.int .i64 z')).setCell (p := ⟨w.heap.size, 1, none⟩) (Nat.le_refl _) (.slice a6 n6 c6))
  · have Hz := Lib.hid hz
    have hC := Lib.hid (mg_1 (z := z) (gs := p) (fun h => Hz.out h.1))
    clear hz
    go_wp2_with fail
    refine (l00In_any _ _ _ false (decide_eq_false Hz.out) _).mono ?_
    rintro e w2 ⟨rfl, rfl⟩
    have HBr := HB.out
    have q0 := cell_blk (k := 0) HBr rfl
    have q1 := cell_blk (k := 1) HBr rfl
    have f0 := frozen_blk (k := 0) HBr
    have f1 := frozen_blk (k := 1) HBr
    have HBh := Lib.hid HBr
    clear HBr
    go_wp2
    (try simp only [Exit.inBlock, Exit.then])
    refine bodyPost_ret (results_row_tmp rfl _ _ w.heap.size #[.int .i64 0, .slice none 0 0] rfl (run_loadVar_row _ w.heap.size 29 29 #[.int .i64 0, .slice none 0 0] (0, 0) _ (by first | exact HBh.out | simp [World.setCell, Array.getElem?_modify, HBh.out]) Try.underlying29 rfl (by kernel_rfl))) rfl ?_
    exact RetDC.nil_ hC.out.1 hC.out.2.1 hC.out.2.2 (by first | exact ((hEW).setCell (p := ⟨w.heap.size, 0, none⟩) (Nat.le_refl _) (.int .i64 0)).setCell (p := ⟨w.heap.size, 1, none⟩) (Nat.le_refl _) (.slice none 0 0) | exact hEW)

theorem mgM_tot (z : Int) (p : List (List Int)) : tot (mgM z p) ≤ 1048576 := by
  rw [mgM]
  split
  · rename_i h
    by_cases hok : MgOk z p
    · by_cases hb : Big z.toNat p 720
      · have := (mg_5 hok hb).2.2; omega
      · by_cases he : ∃ L, IsGen z.toNat p L
        · obtain ⟨L, hL⟩ := he
          rw [← genL_of hL]
          have hl : L.length ≤ 720 := by
            apply Classical.byContradiction
            intro h9
            exact hb ⟨L, hL.2.1, fun x hx => (hL.2.2 x).1 hx, by omega⟩
          have := gen_tot hok.perms (by have := hok.1; omega) hL hl
          omega
        · rw [genL, dif_neg (fun h9 => he (pb_iff.1 h9))]; simp [tot]
    · have := (mg_1 hok).2.2; omega
  · simp [tot]
end Go.Proofs.Ytjlfngnmmmaefaa
