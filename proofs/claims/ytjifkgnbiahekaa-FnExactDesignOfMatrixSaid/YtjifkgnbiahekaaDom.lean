/- DesignOfMatrix of both. Conditions: none. -/
import Derived.Test.YtjifkgnbiahekaaSdn
import Derived.Test.YtjifkgnbiahekaaFill
import Derived.Test.YtjifkgnbiahekaaSl
import Derived.Test.YtjifkgnbiahekaaIn
namespace Go.Proofs.Ytjifkgnbiahekaa
open Go.RowKit

/-- The points below a bound whose row has a 1 in a column. -/
def mblk (m : List (List Int)) (k : Nat) : Nat → List Int
  | 0 => []
  | i + 1 => if at2 m i k = 1 then mblk m k i ++ [(i : Int)] else mblk m k i
theorem mblk_yes {m : List (List Int)} {k i : Nat} (h : at2 m i k = 1) : mblk m k (i + 1) = mblk m k i ++ [(i : Int)] := by rw [mblk, if_pos h]
theorem mblk_no {m : List (List Int)} {k i : Nat} (h : ¬ at2 m i k = 1) : mblk m k (i + 1) = mblk m k i := by rw [mblk, if_neg h]
theorem mblk_len (m : List (List Int)) (k i : Nat) : (mblk m k i).length ≤ i := by
  induction i with
  | zero => exact Nat.le_refl _
  | succ i ih => rw [mblk]; split <;> (try simp) <;> omega
theorem mblk_mem {m : List (List Int)} {k i : Nat} {v : Int} (h : v ∈ mblk m k i) : 0 ≤ v ∧ v < i := by
  induction i with
  | zero => cases h
  | succ i ih =>
    rw [mblk] at h
    split at h
    · rcases List.mem_append.1 h with h | h
      · have := ih h; omega
      · rw [List.mem_singleton.1 h]; omega
    · have := ih h; omega
theorem mblk_rises (m : List (List Int)) (k : Nat) {n : Nat} : ∀ i, i ≤ n → Rises (mblk m k i) 0 ((n : Int) - 1) := by
  intro i
  induction i with
  | zero => intro _ j hj; exact absurd hj (Nat.not_lt_zero _)
  | succ i ih =>
    intro hi
    rw [mblk]
    split
    · intro j hj
      rw [List.length_append, List.length_singleton] at hj
      by_cases e : j < (mblk m k i).length
      · have e1 : gi (mblk m k i ++ [(i : Int)]) j = gi (mblk m k i) j := gi_of (by rw [List.getElem?_append_left e, gi_get e])
        have h0 := ih (by omega) j e
        rw [e1]
        refine ⟨h0.1, fun hj0 => ?_⟩
        have e2 : gi (mblk m k i ++ [(i : Int)]) (j - 1) = gi (mblk m k i) (j - 1) := gi_of (by rw [List.getElem?_append_left (by omega), gi_get (by omega)])
        rw [e2]
        exact h0.2 hj0
      · have hj2 : j = (mblk m k i).length := by omega
        have e1 : gi (mblk m k i ++ [(i : Int)]) j = (i : Int) := gi_of (by rw [hj2]; simp)
        rw [e1]
        refine ⟨⟨by omega, by omega⟩, fun hj0 => ?_⟩
        have e2 : gi (mblk m k i ++ [(i : Int)]) (j - 1) = gi (mblk m k i) (j - 1) := gi_of (by rw [List.getElem?_append_left (by omega), gi_get (by omega)])
        rw [e2]
        exact (mblk_mem (gi_mem (show j - 1 < (mblk m k i).length by omega))).2
    · exact ih (by omega)
def mbl (m : List (List Int)) (n k : Nat) : List (List Int) := (List.range k).map fun j => mblk m j n
theorem mbl_succ (m : List (List Int)) (n k : Nat) : mbl m n (k + 1) = mbl m n k ++ [mblk m k n] := by rw [mbl, List.range_succ, List.map_append]; rfl
theorem mbl_length (m : List (List Int)) (n k : Nat) : (mbl m n k).length = k := by simp [mbl]
theorem gr_mbl {m : List (List Int)} {n k j : Nat} (h : j < k) : gr (mbl m n k) j = mblk m j n := gr_of (by simp [mbl, h])
theorem mbl_tot (m : List (List Int)) (n k : Nat) : tot (mbl m n k) ≤ k * n := by
  induction k with
  | zero => simp [mbl, tot]
  | succ k ih =>
    rw [mbl_succ]
    have : ∀ (p : List (List Int)) (x : List Int), tot (p ++ [x]) = tot p + x.length := by
      intro p x
      induction p with
      | nil => simp [tot]
      | cons y l ih2 => rw [List.cons_append]; simp only [tot]; omega
    rw [this, Nat.succ_mul]
    have := mblk_len m k n
    omega

def RowOk (m : List (List Int)) (i : Nat) : Prop := (gr m i).length = (gr m 0).length ∧ (gr m i).length ≤ 128 ∧ ∀ k, k < (gr m i).length → 0 ≤ at2 m i k ∧ at2 m i k ≤ 1
def DmOk (m : List (List Int)) : Prop := (1 ≤ (m.length : Int) ∧ (m.length : Int) ≤ 32) ∧ ∀ i, i < m.length → RowOk m i
def DmNo (m : List (List Int)) : Prop := ∃ k, k < (gr m 0).length ∧ mblk m k m.length = []
def dmB (m : List (List Int)) : List (List Int) := mbl m m.length (gr m 0).length
noncomputable def dmC (m : List (List Int)) : Int := if pb (DmOk m) then (if pb (DmNo m) then 6 else 0) else 1
noncomputable def dmZ (m : List (List Int)) : Int := if dmC m = 0 then (m.length : Int) else 0
noncomputable def dmM (m : List (List Int)) : List (List Int) := if dmC m = 0 then srtL (dmB m) else []
theorem dmC_1 {m : List (List Int)} (h : ¬ DmOk m) : 0 = dmZ m ∧ [] = dmM m ∧ 1 = dmC m := by
  have e : dmC m = 1 := by rw [dmC, pb_false h]; rfl
  rw [dmZ, dmM, e]; exact ⟨rfl, rfl, rfl⟩
theorem dmC_6 {m : List (List Int)} (h : DmOk m) (h2 : DmNo m) : 0 = dmZ m ∧ [] = dmM m ∧ 6 = dmC m := by
  have e : dmC m = 6 := by rw [dmC, if_pos (pb_true h), if_pos (pb_true h2)]
  rw [dmZ, dmM, e]; exact ⟨rfl, rfl, rfl⟩
theorem dm_all {m : List (List Int)} (h2 : ¬ DmNo m) : AllBlk (m.length : Int) (dmB m) := fun k hk => by
  rw [dmB, mbl_length] at hk
  rw [dmB, gr_mbl hk]
  refine ⟨?_, mblk_rises m k _ (Nat.le_refl _)⟩
  apply Classical.byContradiction
  intro h
  exact h2 ⟨k, hk, List.eq_nil_of_length_eq_zero (by omega)⟩
theorem dmC_0 {m : List (List Int)} (h : DmOk m) (h2 : ¬ DmNo m) : mkZ (m.length : Int) (dmB m) = dmZ m ∧ mkM (m.length : Int) (dmB m) = dmM m ∧ mkC (m.length : Int) (dmB m) = dmC m := by
  have e : dmC m = 0 := by rw [dmC, if_pos (pb_true h), pb_false h2]; rfl
  have hl : (dmB m).length ≤ 128 := by rw [dmB, mbl_length]; exact (h.2 0 (by have := h.1; omega)).2.1
  have e2 := mkC_0 (dm_all h2) hl
  rw [dmZ, dmM, mkZ, mkM, e, e2]
  exact ⟨rfl, rfl, rfl⟩
theorem dmB_tot {m : List (List Int)} (h : DmOk m) : (dmB m).length + tot (dmB m) ≤ 1048576 := by
  have h1 := mbl_tot m m.length (gr m 0).length
  have h2 := (h.2 0 (by have := h.1; omega)).2.1
  have h3 := Nat.mul_le_mul h2 (show m.length ≤ 32 by have := h.1; omega)
  rw [dmB, mbl_length]
  omega
theorem dmM_tot (m : List (List Int)) : tot (dmM m) ≤ 1048576 := by
  by_cases h : DmOk m
  · rw [dmM]
    split
    · rw [srtL_tot]; have := dmB_tot h; omega
    · simp [tot]
  · rw [← (dmC_1 h).2.1]; simp [tot]

/-- The blocks as the program has them: x rows, and k places of the next. -/
def mst (m : List (List Int)) (K x k : Nat) : List (List Int) := (List.range K).map fun j => if j < k then mblk m j (x + 1) else mblk m j x
theorem mst_start (m : List (List Int)) (K : Nat) : mst m K 0 0 = List.replicate K [] := by
  apply List.ext_getElem?
  intro j
  by_cases h : j < K
  · simp [mst, h, mblk]
  · rw [List.getElem?_eq_none (by simp [mst]; omega), List.getElem?_eq_none (by simp; omega)]
theorem mst_row (m : List (List Int)) (K x : Nat) : mst m K x K = mst m K (x + 1) 0 := by
  unfold mst
  apply List.map_congr_left
  intro j hj
  rw [if_pos (List.mem_range.1 hj), if_neg (Nat.not_lt_zero _)]
theorem mst_end (m : List (List Int)) (K n : Nat) : mst m K n 0 = mbl m n K := by
  unfold mst mbl
  apply List.map_congr_left
  intro j hj
  rw [if_neg (Nat.not_lt_zero _)]
theorem mst_get {m : List (List Int)} {K x k : Nat} (h : k < K) : (mst m K x k)[k]? = some (mblk m k x) := by simp [mst, h]
theorem mst_set {m : List (List Int)} {K x k : Nat} (h : k < K) : (mst m K x k).set k (mblk m k (x + 1)) = mst m K x (k + 1) := by
  apply List.ext_getElem?
  intro j
  rw [List.getElem?_set]
  by_cases hj : j < K
  · by_cases e : k = j
    · subst e; simp [mst, h]
    · rw [if_neg e]
      by_cases e2 : j < k
      · have e3 : j < k + 1 := by omega
        simp [mst, hj, e2, e3]
      · have e3 : ¬ j < k + 1 := by omega
        simp [mst, hj, e2, e3]
  · rw [if_neg (by omega), List.getElem?_eq_none (by simp [mst]; omega), List.getElem?_eq_none (by simp [mst]; omega)]
theorem mst_same {m : List (List Int)} {K x k : Nat} (h : k < K) (h1 : ¬ at2 m x k = 1) : mst m K x (k + 1) = mst m K x k := by
  rw [← mst_set h, mblk_no h1]
  apply List.ext_getElem?
  intro j
  rw [List.getElem?_set]
  by_cases e : k = j
  · subst e
    rw [if_pos rfl, if_pos (by simp [mst, h]), mst_get h]
  · rw [if_neg e]

/-- A row that has been grown by an append put back in its place. -/
theorem OwnR.grown {w w' : World} {B g n c : Nat} {xss : List (List Int)} {rs : List Row} (h : OwnR w B (some ⟨g, 0, none⟩) n c xss rs) {k : Nat} {r : Row} (hr : rs[k]? = some r) {ad : Option Addr} {m d : Nat} {ys : List Int}
    (hown : OwnI w' B ad m d ys) (ho : Only (onlyA r.1) w w') (hm : Moved w r.1 ad) : OwnR (w'.setCell ⟨g, k, none⟩ (.slice ad m d)) B (some ⟨g, 0, none⟩) n c (xss.set k ys) (rs.set k (ad, m, d)) := by
  have mem : ∀ {i : Nat} {r' : Row}, rs[i]? = some r' → r' ∈ rs := fun hi => List.mem_of_getElem? hi
  have hkl : k < rs.length := (List.getElem?_eq_some_iff.1 hr).1
  have hl := h.rlen
  have hgl : g < w.heap.size := (h.lt (.inl rfl)).2
  have htop := h.top.only ho (fun g' hg' e => h.apart r (mem hr) g' e hg')
  have hne : ∀ r', r' ∈ rs → blk r'.1 ≠ some g := fun r' hr' e => h.apart r' hr' g e rfl
  have hadg : blk ad ≠ some g := fun e => by
    rcases hm with hm | ⟨g', hm, hlt⟩
    · exact hne r (mem hr) (by rw [← hm]; exact e)
    · rw [hm] at e; cases e; omega
  have hoth : ∀ i r', i ≠ k → rs[i]? = some r' → ∀ g', blk r'.1 = some g' → blk r.1 ≠ some g' := fun i r' hik hi g' hg' => by
    rcases Nat.lt_or_gt_of_ne hik with hlt | hlt
    · exact h.sep i k r' r hlt hi hr g' hg'
    · exact fun e => h.sep k i r r' hlt hr hi g' e hg'
  have hadr : ∀ i r', i ≠ k → rs[i]? = some r' → ∀ g', blk r'.1 = some g' → blk ad ≠ some g' := fun i r' hik hi g' hg' e => by
    rcases hm with hm | ⟨g2, hm, hlt⟩
    · exact hoth i r' hik hi g' hg' (by rw [← hm]; exact e)
    · rw [hm] at e; cases e
      have := (h.lt (.inr ⟨r', mem hi, hg'⟩)).2
      omega
  refine ⟨htop.set rfl (ad, m, d), by simpa using h.len, fun i r' xs' h1 h2 => ?_, fun r' hr' g' hg' => ?_, fun i j r1 r2 hij h1 h2 g' hg1 hg2 => ?_⟩
  · rw [List.getElem?_set] at h1 h2
    by_cases e : k = i
    · subst e
      rw [if_pos rfl, if_pos hkl] at h1
      rw [if_pos rfl, if_pos (by omega)] at h2
      cases h1; cases h2
      exact hown.setOther hadg _
    · rw [if_neg e] at h1 h2
      exact ((h.row i r' xs' h1 h2).only ho (fun g' hg' e2 => hoth i r' (fun e3 => e e3.symm) h1 g' hg' e2)).setOther (hne r' (mem h1)) _
  · obtain ⟨i, hi⟩ := List.mem_iff_getElem?.1 hr'
    rw [List.getElem?_set] at hi
    by_cases e : k = i
    · subst e
      rw [if_pos rfl, if_pos hkl] at hi
      cases hi
      exact fun e2 => hadg (by rw [hg', ← Option.some.inj e2])
    · rw [if_neg e] at hi
      exact h.apart r' (mem hi) g' hg'
  · rw [List.getElem?_set] at h1 h2
    by_cases e1 : k = i
    · subst e1
      rw [if_pos rfl, if_pos hkl] at h1
      rw [if_neg (by omega)] at h2
      cases h1
      exact hadr j r2 (by omega) h2 g' hg2 hg1
    · rw [if_neg e1] at h1
      by_cases e2 : k = j
      · subst e2
        rw [if_pos rfl, if_pos hkl] at h2
        cases h2
        exact hadr i r1 (by omega) h1 g' hg1 hg2
      · rw [if_neg e2] at h2
        exact h.sep i j r1 r2 hij h1 h2 g' hg1 hg2

theorem isBit_any (v : Int) (b : Bool) (w : World) (hb : decide (0 ≤ v ∧ v ≤ 1) = b) : Calls Try.prog 76 #[.int .i64 v] w fun e w' => e = .returned (.bool b) ∧ w = w' := by
  by_cases h0 : v = 0
  · subst h0
    obtain rfl : b = true := by rw [← hb]; rfl
    go_enter Try.func76, Try.ntmps76
    go_wp2
    go_ret
    exact ⟨rfl, rfl⟩
  · have h0b : (v == 0) = false := by simp [h0]
    by_cases h1 : v = 1
    · subst h1
      obtain rfl : b = true := by rw [← hb]; rfl
      go_enter Try.func76, Try.ntmps76
      go_wp2
      go_ret
      exact ⟨rfl, rfl⟩
    · have h1b : (v == 1) = false := by simp [h1]
      obtain rfl : b = false := by rw [← hb]; exact decide_eq_false (by omega)
      clear hb h0 h1
      go_enter Try.func76, Try.ntmps76
      go_wp2
      go_ret
      exact ⟨rfl, rfl⟩

theorem domF (p : List (List Int)) (w : World) : Asks 78 #[] p (fun xs => decide (xs.length = 0)) w := by
  intro i xs a n c w1 hi hE hx
  have Hl := Lib.hid hx.len
  have hb1 := hx.le
  have hb2 := hx.max
  show Calls Try.prog 78 #[.slice a n c] w1 _
  go_enter Try.func78, Try.ntmps78
  by_cases h : n = 0
  · have hz : ((n : Int) == 0) = true := by simp [h]
    have H := Lib.hid h
    clear h
    go_wp2
    go_ret
    exact ⟨ret_bool (by rw [← Hl.out]; exact (decide_eq_true H.out).symm), Ext.refl _⟩
  · have hz : ((n : Int) == 0) = false := by simp [h]
    have H := Lib.hid h
    clear h
    go_wp2
    go_ret
    exact ⟨ret_bool (by rw [← Hl.out]; exact (decide_eq_false H.out).symm), Ext.refl _⟩
theorem dom_any (m : List (List Int)) : (dmB m).any (fun xs => decide (xs.length = 0)) = pb (DmNo m) := by
  by_cases h : DmNo m
  · rw [pb_true h, List.any_eq_true]
    obtain ⟨k, hk, he⟩ := h
    refine ⟨mblk m k m.length, ?_, by rw [he]; rfl⟩
    rw [dmB, mbl]
    exact List.mem_map.2 ⟨k, List.mem_range.2 hk, rfl⟩
  · rw [pb_false h, List.any_eq_false]
    intro xs hm
    rw [dmB, mbl] at hm
    obtain ⟨k, hk, rfl⟩ := List.mem_map.1 hm
    intro he
    exact h ⟨k, List.mem_range.1 hk, List.eq_nil_of_length_eq_zero (of_decide_eq_true he)⟩

set_option maxRecDepth 100000 in
set_option maxHeartbeats 6400000 in
theorem implDom (a : Option Addr) (n c : Nat) (m : List (List Int)) (w : World) (hp : RdR w a n c m) (hs : m.length + tot m ≤ 1048576) :
    Calls Try.prog 39 #[.slice a n c] w (RetDC w (dmZ m) (dmM m) (dmC m)) := by
  have hb1 := hp.le
  have hb2 := hp.max
  have Hl := Lib.hid hp.len
  have hEW : Ext w (w.alloc (.cells #[.int .i64 0, .slice none 0 0] 28)) := (Ext.refl _).alloc _
  have HB : Hid ((w.alloc (.cells #[.int .i64 0, .slice none 0 0] 28)).heap[w.heap.size]? = some (.cells #[.int .i64 0, .slice none 0 0] 28 (0, 0))) := Lib.hid (heap_alloc_new _ _)
  have hsW : (w.alloc (.cells #[.int .i64 0, .slice none 0 0] 28)).heap.size = w.heap.size + 1 := by simp
  go_enter Try.func39, Try.ntmps39
  go_wp2_with fail
  refine (sizeR_any _ _ _ _).mono ?_
  rintro e w2 ⟨rfl, rfl⟩
  by_cases h32 : 1 ≤ (n : Int) ∧ (n : Int) ≤ 32
  · have H32 := Lib.hid h32
    have hz0 : (0 : Int) < (n : Int) := by omega
    have hn0 : 0 < n := by omega
    have hn32 : n ≤ 32 := by omega
    clear h32
    go_wp2_with fail
    refine (within_any _ _ _ true (decide_eq_true H32.out) _).mono ?_
    rintro e w2 ⟨rfl, rfl⟩
    obtain ⟨b, o, a0, K, c0, rfl, hcw0, hrow0⟩ := hp.gr hn0
    rw [Nat.add_zero] at hcw0
    have hc0 := hEW.cell hcw0
    have HK := Lib.hid hrow0.len
    have hK1 := hrow0.le
    have hK2 := hrow0.max
    clear hrow0
    by_cases h128 : (128 : Int) < (K : Int)
    · have hg : decide ((128 : Int) < (K : Int)) = true := decide_eq_true h128
      have hC := Lib.hid (dmC_1 (m := m) (fun h => by have h1 := (h.2 0 (by have := Hl.out; omega)).2.1; have := HK.out; omega))
      have HBr := HB.out
      have q0 := cell_blk (k := 0) HBr rfl
      have q1 := cell_blk (k := 1) HBr rfl
      have f0 := frozen_blk (k := 0) HBr
      have f1 := frozen_blk (k := 1) HBr
      have HBh := Lib.hid HBr
      clear HBr
      go_wp2
      (try simp only [Exit.inBlock, Exit.then])
      refine bodyPost_ret (results_row_tmp rfl _ _ w.heap.size #[.int .i64 0, .slice none 0 0] rfl (run_loadVar_row _ w.heap.size 28 28 #[.int .i64 0, .slice none 0 0] (0, 0) _ (by first | exact HBh.out | simp [World.setCell, Array.getElem?_modify, HBh.out]) Try.underlying28 rfl (by kernel_rfl))) rfl ?_
      exact RetDC.nil_ hC.out.1 hC.out.2.1 hC.out.2.2 (by first | exact ((hEW).setCell (p := ⟨w.heap.size, 0, none⟩) (Nat.le_refl _) (.int .i64 0)).setCell (p := ⟨w.heap.size, 1, none⟩) (Nat.le_refl _) (.slice none 0 0) | exact hEW)
    · have hg : decide ((128 : Int) < (K : Int)) = false := decide_eq_false h128
      have hK : K ≤ 128 := by omega
      have hmk := run_make_row' (P := Try.prog) 22 38 (.slice none 0 0) 24 Try.underlying22 Try.info_S rfl .i64 .i64 K (by omega) (by omega)
      have H0 := OwnR.made (w.alloc (.cells #[.int .i64 0, .slice none 0 0] 28)) K (by omega)
      rw [← mst_start m K, hsW] at H0
      have hE0 : Ext (w.alloc (.cells #[.int .i64 0, .slice none 0 0] 28)) ((w.alloc (.cells #[.int .i64 0, .slice none 0 0] 28)).alloc (.cells (madeCells #[.slice none 0 0] K) 38)) := (Ext.refl _).alloc _
      clear h128
      go_wp2
      clear hmk
      go_loopg [28] n (fun gh i wr => ∃ (x : Nat) (rs : List Row), x ≤ n ∧ gh = n - x ∧ i = .int .i64 x ∧ OwnR wr (w.heap.size + 1) (some ⟨w.heap.size + 1, 0, none⟩) K K (mst m K x 0) rs ∧ Hid (∀ i, i < x → RowOk m i) ∧ Ext (w.alloc (.cells #[.int .i64 0, .slice none 0 0] 28)) wr)
      case atStart => exact ⟨0, _, Nat.zero_le _, rfl, rfl, H0, Lib.hid (fun i h => absurd h (Nat.not_lt_zero _)), hE0⟩
      case round =>
        clear H0 hE0 hc0
        obtain ⟨x, rs, hx, rfl, rfl, hO, HR, hE⟩ := hrel
        by_cases hlt : x < n
        · have hz : (x : Int) < (n : Int) := by omega
          obtain ⟨b', o', ai, mi, ci, hh, hcx, hrow⟩ := hp.gr hlt
          cases hh
          have hc0 := (hEW.trans hE).cell hcw0
          have hc1 := (hEW.trans hE).cell hcx
          have HM := Lib.hid hrow.len
          have hq1 := hrow.le
          have hq2 := hrow.max
          by_cases hmK : mi = K
          · have hne : ((mi : Int) != (K : Int)) = false := by simp [hmK]
            have HmK := Lib.hid hmK
            clear hmK
            go_wp2
            clear hne
            go_loopg [43] mi (fun gh i wr => ∃ (k : Nat) (rs : List Row), k ≤ mi ∧ gh = mi - k ∧ i = .int .i64 k ∧ OwnR wr (w.heap.size + 1) (some ⟨w.heap.size + 1, 0, none⟩) K K (mst m K x k) rs ∧ Hid (∀ j, j < k → 0 ≤ at2 m x j ∧ at2 m x j ≤ 1) ∧ Ext (w.alloc (.cells #[.int .i64 0, .slice none 0 0] 28)) wr)
            case atStart => exact ⟨0, rs, Nat.zero_le _, rfl, rfl, hO, Lib.hid (fun i h => absurd h (Nat.not_lt_zero _)), hE⟩
            case round =>
              clear hO hE hc0 hc1
              obtain ⟨k, rs, hk, rfl, rfl, hO, HJ, hE⟩ := hrel
              by_cases hlk : k < mi
              · have hz2 : (k : Int) < (mi : Int) := by omega
                have hkK : k < K := by have := HmK.out; omega
                have hz3 : (k : Int) < (K : Int) := by omega
                obtain ⟨b1, o1, hai, hcv⟩ := hrow.cell2 hlk
                subst hai
                have hcv2 := (hEW.trans hE).cell hcv
                by_cases hbit : 0 ≤ at2 m x k ∧ at2 m x k ≤ 1
                · have Hbit := Lib.hid hbit
                  have HJ2 : Hid (∀ j, j < k + 1 → 0 ≤ at2 m x j ∧ at2 m x j ≤ 1) := Lib.hid (fun j hj => by
                    by_cases e : j = k
                    · subst e; exact Hbit.out
                    · exact HJ.out j (by omega))
                  clear hbit
                  by_cases h1 : at2 m x k = 1
                  · have h1b : (at2 m x k == 1) = true := by simp [h1]
                    have H1 := Lib.hid h1
                    obtain ⟨g, r, xs, hg1, hB, hct, hft, hrO, hrs, hxs⟩ := hO.at_ hkK
                    cases hg1
                    obtain ⟨ra, rn, rc⟩ := r
                    have hxe : xs = mblk m k x := by have := hxs.out; rw [mst_get hkK] at this; cases this; rfl
                    have hrn : rn ≤ 32 := by have h5 : rn = xs.length := hrO.len; have h6 := mblk_len m k x; rw [hxe] at h5; omega
                    have hszr : w.heap.size + 1 ≤ wr.heap.size := by have := hE.size; omega
                    have Hxe := Lib.hid hxe
                    have hltT : w.heap.size + 1 < wr.heap.size := (hO.lt (.inl rfl)).2
                    have hnb : ∀ g2, blk ra = some g2 → ¬ g2 = w.heap.size + 1 := fun g2 h2 e => hO.apart _ (List.mem_of_getElem? hrs.out) g2 h2 (by rw [e]; rfl)
                    have Hnb := Lib.hid hnb
                    clear h1 hxe hnb
                    go_wp2_with fail
                    refine (isBit_any _ true _ (decide_eq_true Hbit.out)).mono ?_
                    rintro e w5 ⟨rfl, rfl⟩
                    go_wp2_with (at_builtin; refine app_I rfl _ _ rfl hrO hszr rfl (by omega) rfl rfl ?_; intro ad' d' w6 hrow6 honly hmv; have hct6 : w6.cell? ⟨w.heap.size + 1, k, none⟩ = some (.slice ra rn rc) := (cell_other (honly.block _ hltT (fun h => Hnb.out _ h rfl))).trans hct; have hft6 : w6.frozen? ⟨w.heap.size + 1, k, none⟩ = false := (frozen_other (honly.block _ hltT (fun h => Hnb.out _ h rfl))).trans hft)
                    have hOn := hO.grown (r := (ra, rn, rc)) hrs.out hrow6 honly hmv
                    rw [Hxe.out, ← mblk_yes H1.out, mst_set hkK] at hOn
                    have hE6 := hE.app hrO honly (by rw [hsW]; exact Nat.le_refl _)
                    have hE7 := hE6.setCell (p := ⟨w.heap.size + 1, k, none⟩) (by rw [hsW]; exact Nat.le_refl _) (.slice ad' (rn + 1) d')
                    clear hO hE hE6 hrow6 honly hmv hct6 hft6 hct hft hrO hszr
                    (try go_wp2)
                    go_roundg (mi - (k + 1))
                    case measure => go_light; omega
                    case rel => go_light; exact ⟨k + 1, _, by omega, rfl, by go_num, hOn, HJ2, hE7⟩
                  · have h1b : (at2 m x k == 1) = false := by simp [h1]
                    rw [← mst_same hkK h1] at hO
                    clear h1
                    go_wp2_with fail
                    refine (isBit_any _ true _ (decide_eq_true Hbit.out)).mono ?_
                    rintro e w5 ⟨rfl, rfl⟩
                    go_wp2
                    go_roundg (mi - (k + 1))
                    case measure => go_light; omega
                    case rel => go_light; exact ⟨k + 1, rs, by omega, rfl, by go_num, hO, HJ2, hE⟩
                · have Hbit := Lib.hid hbit
                  have hC := Lib.hid (dmC_1 (m := m) (fun h => Hbit.out ((h.2 x (by have := Hl.out; omega)).2.2 k (by rw [← HM.out]; exact hlk))))
                  clear hbit
                  go_wp2_with fail
                  refine (isBit_any _ false _ (decide_eq_false Hbit.out)).mono ?_
                  rintro e w5 ⟨rfl, rfl⟩
                  have HBr := heap_ext hE HB.out
                  have q0 := cell_blk (k := 0) HBr rfl
                  have q1 := cell_blk (k := 1) HBr rfl
                  have f0 := frozen_blk (k := 0) HBr
                  have f1 := frozen_blk (k := 1) HBr
                  have HBh := Lib.hid HBr
                  clear HBr
                  go_wp2
                  (try simp only [Exit.inBlock, Exit.then])
                  refine bodyPost_ret (results_row_tmp rfl _ _ w.heap.size #[.int .i64 0, .slice none 0 0] rfl (run_loadVar_row _ w.heap.size 28 28 #[.int .i64 0, .slice none 0 0] (0, 0) _ (by first | exact HBh.out | simp [World.setCell, Array.getElem?_modify, HBh.out]) Try.underlying28 rfl (by kernel_rfl))) rfl ?_
                  exact RetDC.nil_ hC.out.1 hC.out.2.1 hC.out.2.2 (by first | exact ((hEW.trans hE).setCell (p := ⟨w.heap.size, 0, none⟩) (Nat.le_refl _) (.int .i64 0)).setCell (p := ⟨w.heap.size, 1, none⟩) (Nat.le_refl _) (.slice none 0 0) | exact hEW)
              · have hz2 : ¬ (k : Int) < (mi : Int) := by omega
                obtain rfl : mi = k := by omega
                have HR2 : Hid (∀ i, i < x + 1 → RowOk m i) := Lib.hid (fun i hi => by
                  by_cases e : i = x
                  · subst e
                    exact ⟨by have e1 := HM.out; have e2 := HK.out; have e3 := HmK.out; omega, by rw [← HM.out]; have := HmK.out; omega, fun j hj => HJ.out j (by rw [HM.out]; exact hj)⟩
                  · exact HR.out i (by omega))
                have he : mst m K x mi = mst m K (x + 1) 0 := by rw [← mst_row]; congr 1
                rw [he] at hO
                clear he
                go_wp2
                go_roundg (n - (x + 1))
                case measure => go_light; omega
                case rel => go_light; exact ⟨x + 1, rs, by omega, rfl, by go_num, hO, HR2, hE⟩
          · have hne : ((mi : Int) != (K : Int)) = true := by simp; omega
            have hC := Lib.hid (dmC_1 (m := m) (fun h => by have h1 := (h.2 x (by have := Hl.out; omega)).1; rw [← HM.out, ← HK.out] at h1; exact hmK h1))
            clear hmK
            have HBr := heap_ext hE HB.out
            have q0 := cell_blk (k := 0) HBr rfl
            have q1 := cell_blk (k := 1) HBr rfl
            have f0 := frozen_blk (k := 0) HBr
            have f1 := frozen_blk (k := 1) HBr
            have HBh := Lib.hid HBr
            clear HBr
            go_wp2
            (try simp only [Exit.inBlock, Exit.then])
            refine bodyPost_ret (results_row_tmp rfl _ _ w.heap.size #[.int .i64 0, .slice none 0 0] rfl (run_loadVar_row _ w.heap.size 28 28 #[.int .i64 0, .slice none 0 0] (0, 0) _ (by first | exact HBh.out | simp [World.setCell, Array.getElem?_modify, HBh.out]) Try.underlying28 rfl (by kernel_rfl))) rfl ?_
            exact RetDC.nil_ hC.out.1 hC.out.2.1 hC.out.2.2 (by first | exact ((hEW.trans hE).setCell (p := ⟨w.heap.size, 0, none⟩) (Nat.le_refl _) (.int .i64 0)).setCell (p := ⟨w.heap.size, 1, none⟩) (Nat.le_refl _) (.slice none 0 0) | exact hEW)
        · have hz : ¬ (x : Int) < (n : Int) := by omega
          obtain rfl : n = x := by omega
          have Hok : Hid (DmOk m) := Lib.hid ⟨by have := H32.out; rwa [← Hl.out], fun i hi => HR.out i (by rw [Hl.out]; exact hi)⟩
          have hB : OwnR wr (w.heap.size + 1) (some ⟨w.heap.size + 1, 0, none⟩) K K (dmB m) rs := by
            have h9 := hO
            rw [mst_end] at h9
            rwa [dmB, ← Hl.out, ← HK.out]
          have hrd := hB.rd
          clear hO hB
          go_wp2_with fail
          refine (slContainsFunc_any _ _ _ (dmB m) _ _ _ _ _ hrd (enters_of Try.func78 (by kernel_rfl) (by kernel_rfl)) (domF (dmB m) _) (dom_any m)).mono ?_
          rintro e w5 ⟨rfl, hE5⟩
          have hE6 := hE.trans hE5
          rcases pbc (DmNo m) with ⟨hb, Hb⟩ | ⟨hb, Hb⟩
          · rw [hb]
            have hC := Lib.hid (dmC_6 Hok.out Hb.out)
            clear hb hE
            have HBr := heap_ext hE6 HB.out
            have q0 := cell_blk (k := 0) HBr rfl
            have q1 := cell_blk (k := 1) HBr rfl
            have f0 := frozen_blk (k := 0) HBr
            have f1 := frozen_blk (k := 1) HBr
            have HBh := Lib.hid HBr
            clear HBr
            go_wp2
            (try simp only [Exit.inBlock, Exit.then])
            refine bodyPost_ret (results_row_tmp rfl _ _ w.heap.size #[.int .i64 0, .slice none 0 0] rfl (run_loadVar_row _ w.heap.size 28 28 #[.int .i64 0, .slice none 0 0] (0, 0) _ (by first | exact HBh.out | simp [World.setCell, Array.getElem?_modify, HBh.out]) Try.underlying28 rfl (by kernel_rfl))) rfl ?_
            exact RetDC.nil_ hC.out.1 hC.out.2.1 hC.out.2.2 (by first | exact ((hEW.trans hE6).setCell (p := ⟨w.heap.size, 0, none⟩) (Nat.le_refl _) (.int .i64 0)).setCell (p := ⟨w.heap.size, 1, none⟩) (Nat.le_refl _) (.slice none 0 0) | exact hEW)
          · rw [hb]
            have hC := Lib.hid (dmC_0 Hok.out Hb.out)
            clear hb
            go_wp2_with fail
            refine (sizeR_any _ _ _ _).mono ?_
            rintro e w6 ⟨rfl, rfl⟩
            go_wp2_with fail
            refine (sorted_any (n : Int) _ _ _ (dmB m) _ (hrd.ext hE5) (dmB_tot Hok.out) (by have := dm_all Hb.out; rwa [← Hl.out] at this)).mono ?_
            rintro e w7 ⟨a7, n7, c7, rs7, rfl, hO7, hE7⟩
            have hE8 := hE6.trans hE7
            have hlt7 : ¬ OwnR.fp a7 rs7 w.heap.size := fun hf => by have h8 := (hO7.lt hf).1; have h9 := hE6.size; omega
            have hszB : w.heap.size ≤ w5.heap.size := (hEW.trans hE6).size
            have HBr := heap_ext hE8 HB.out
            have q0 := cell_blk (k := 0) HBr rfl
            have q1 := cell_blk (k := 1) HBr rfl
            have f0 := frozen_blk (k := 0) HBr
            have f1 := frozen_blk (k := 1) HBr
            have HBh := Lib.hid HBr
            clear HBr
            go_wp2
            (try simp only [Exit.inBlock, Exit.then])
            refine bodyPost_ret (results_row_tmp rfl _ _ w.heap.size #[.int .i64 (mkZ (n : Int) (dmB m)), .slice a7 n7 c7] rfl (run_loadVar_row _ w.heap.size 28 28 #[.int .i64 (mkZ (n : Int) (dmB m)), .slice a7 n7 c7] (0, 0) _ (by first | exact HBh.out | simp [World.setCell, Array.getElem?_modify, HBh.out]) Try.underlying28 rfl (by kernel_rfl))) rfl ?_
            exact RetDC.mk_ (((hO7).setOther (p := ⟨w.heap.size, 0, none⟩) (hlt7) (.int .i64 (mkZ (n : Int) (dmB m)))).setOther (p := ⟨w.heap.size, 1, none⟩) (hlt7) (.slice a7 n7 c7)) hszB (by rw [Hl.out]; exact hC.out.1) (by rw [Hl.out]; exact hC.out.2.1) (by rw [Hl.out]; exact hC.out.2.2) (((hEW.trans hE8).setCell (p := ⟨w.heap.size, 0, none⟩) (Nat.le_refl _) (.int .i64 (mkZ (n : Int) (dmB m)))).setCell (p := ⟨w.heap.size, 1, none⟩) (Nat.le_refl _) (.slice a7 n7 c7))
  · have H32 := Lib.hid h32
    have hC := Lib.hid (dmC_1 (m := m) (fun h => H32.out (by have := h.1; rwa [← Hl.out] at this)))
    clear h32
    go_wp2_with fail
    refine (within_any _ _ _ false (decide_eq_false H32.out) _).mono ?_
    rintro e w2 ⟨rfl, rfl⟩
    have HBr := HB.out
    have q0 := cell_blk (k := 0) HBr rfl
    have q1 := cell_blk (k := 1) HBr rfl
    have f0 := frozen_blk (k := 0) HBr
    have f1 := frozen_blk (k := 1) HBr
    have HBh := Lib.hid HBr
    clear HBr
    go_wp2
    (try simp only [Exit.inBlock, Exit.then])
    refine bodyPost_ret (results_row_tmp rfl _ _ w.heap.size #[.int .i64 0, .slice none 0 0] rfl (run_loadVar_row _ w.heap.size 28 28 #[.int .i64 0, .slice none 0 0] (0, 0) _ (by first | exact HBh.out | simp [World.setCell, Array.getElem?_modify, HBh.out]) Try.underlying28 rfl (by kernel_rfl))) rfl ?_
    exact RetDC.nil_ hC.out.1 hC.out.2.1 hC.out.2.2 (by first | exact ((hEW).setCell (p := ⟨w.heap.size, 0, none⟩) (Nat.le_refl _) (.int .i64 0)).setCell (p := ⟨w.heap.size, 1, none⟩) (Nat.le_refl _) (.slice none 0 0) | exact hEW)


set_option maxRecDepth 100000 in
set_option maxHeartbeats 6400000 in
theorem specDom (a : Option Addr) (n c : Nat) (m : List (List Int)) (w : World) (hp : RdR w a n c m) (hs : m.length + tot m ≤ 1048576) :
    Calls Try.prog 38 #[.slice a n c] w (RetDC w (dmZ m) (dmM m) (dmC m)) := by
  have hb1 := hp.le
  have hb2 := hp.max
  have Hl := Lib.hid hp.len
  have hEW : Ext w (w.alloc (.cells #[.int .i64 0, .slice none 0 0] 28)) := (Ext.refl _).alloc _
  have HB : Hid ((w.alloc (.cells #[.int .i64 0, .slice none 0 0] 28)).heap[w.heap.size]? = some (.cells #[.int .i64 0, .slice none 0 0] 28 (0, 0))) := Lib.hid (heap_alloc_new _ _)
  have hsW : (w.alloc (.cells #[.int .i64 0, .slice none 0 0] 28)).heap.size = w.heap.size + 1 := by simp
  go_enter Try.func38, Try.ntmps38
  by_cases h32 : 1 ≤ (n : Int) ∧ (n : Int) ≤ 32
  · have H32 := Lib.hid h32
    have hz0 : (0 : Int) < (n : Int) := by omega
    have hn0 : 0 < n := by omega
    have hn1 : ¬ n = 0 := by omega
    have hn32 : n ≤ 32 := by omega
    clear h32
    go_wp2_with fail
    refine (l00In_any _ _ _ true (decide_eq_true H32.out) _).mono ?_
    rintro e w2 ⟨rfl, rfl⟩
    obtain ⟨b, o, a0, K, c0, rfl, hcw0, hrow0⟩ := hp.gr hn0
    rw [Nat.add_zero] at hcw0
    have HK := Lib.hid hrow0.len
    have hK1 := hrow0.le
    have hK2 := hrow0.max
    clear hrow0
    go_wp2
    go_loopg [4] n (fun gh i wr => ∃ x : Nat, x ≤ n ∧ gh = n - x ∧ i = .int .i64 x ∧ Hid (∀ i, i < x → RowOk m i) ∧ Ext (w.alloc (.cells #[.int .i64 0, .slice none 0 0] 28)) wr)
    case atStart => exact ⟨0, Nat.zero_le _, rfl, rfl, Lib.hid (fun i h => absurd h (Nat.not_lt_zero _)), Ext.refl _⟩
    case round =>
      obtain ⟨x, hx, rfl, rfl, HR, hE⟩ := hrel
      have hc0 := (hEW.trans hE).cell hcw0
      by_cases hlt : x < n
      · have hz : (x : Int) < (n : Int) := by omega
        obtain ⟨b', o', ai, mi, ci, hh, hcx, hrow⟩ := hp.gr hlt
        cases hh
        have hc1 := (hEW.trans hE).cell hcx
        have HM := Lib.hid hrow.len
        have hq1 := hrow.le
        have hq2 := hrow.max
        by_cases hmK : mi = K
        · have hne : ((mi : Int) != (K : Int)) = false := by simp [hmK]
          have HmK := Lib.hid hmK
          clear hmK
          by_cases h128 : (128 : Int) < (mi : Int)
          · have hg : decide ((128 : Int) < (mi : Int)) = true := decide_eq_true h128
            have hC := Lib.hid (dmC_1 (m := m) (fun h => by have h1 := (h.2 x (by have := Hl.out; omega)).2.1; have := HM.out; omega))
            clear h128
            go_wp2_with fail
            go_quiet (fail)
            have hE2 := hE.drewN nq
            generalize wr.drewN nq = wq at hE2 ⊢
            clear hE hc0 hc1
            have HBr := heap_ext hE2 HB.out
            have q0 := cell_blk (k := 0) HBr rfl
            have q1 := cell_blk (k := 1) HBr rfl
            have f0 := frozen_blk (k := 0) HBr
            have f1 := frozen_blk (k := 1) HBr
            have HBh := Lib.hid HBr
            clear HBr
            go_wp2
            (try simp only [Exit.inBlock, Exit.then])
            refine bodyPost_ret (results_row_tmp rfl _ _ w.heap.size #[.int .i64 0, .slice none 0 0] rfl (run_loadVar_row _ w.heap.size 28 28 #[.int .i64 0, .slice none 0 0] (0, 0) _ (by first | exact HBh.out | simp [World.setCell, Array.getElem?_modify, HBh.out]) Try.underlying28 rfl (by kernel_rfl))) rfl ?_
            exact RetDC.nil_ hC.out.1 hC.out.2.1 hC.out.2.2 (by first | exact ((hEW.trans hE2).setCell (p := ⟨w.heap.size, 0, none⟩) (Nat.le_refl _) (.int .i64 0)).setCell (p := ⟨w.heap.size, 1, none⟩) (Nat.le_refl _) (.slice none 0 0) | exact hEW)
          · have hg : decide ((128 : Int) < (mi : Int)) = false := decide_eq_false h128
            have hmi : mi ≤ 128 := by omega
            clear h128
            go_wp2_with fail
            go_quiet (fail)
            have hE2 := hE.drewN nq
            generalize wr.drewN nq = wq at hE2 ⊢
            clear hE hc0 hc1
            go_wp2
            go_loopg [5] mi (fun gh i wr => ∃ k : Nat, k ≤ mi ∧ gh = mi - k ∧ i = .int .i64 k ∧ Hid (∀ j, j < k → 0 ≤ at2 m x j ∧ at2 m x j ≤ 1) ∧ Ext (w.alloc (.cells #[.int .i64 0, .slice none 0 0] 28)) wr)
            case atStart => exact ⟨0, Nat.zero_le _, rfl, rfl, Lib.hid (fun i h => absurd h (Nat.not_lt_zero _)), hE2⟩
            case round =>
              clear hE2
              obtain ⟨k, hk, rfl, rfl, HJ, hE⟩ := hrel
              have hc1 := (hEW.trans hE).cell hcx
              by_cases hlk : k < mi
              · have hz2 : (k : Int) < (mi : Int) := by omega
                obtain ⟨b1, o1, hai, hcv⟩ := hrow.cell2 hlk
                subst hai
                have hcv2 := (hEW.trans hE).cell hcv
                by_cases hbit : 0 ≤ at2 m x k ∧ at2 m x k ≤ 1
                · have Hbit := Lib.hid hbit
                  have HJ2 : Hid (∀ j, j < k + 1 → 0 ≤ at2 m x j ∧ at2 m x j ≤ 1) := Lib.hid (fun j hj => by
                    by_cases e : j = k
                    · subst e; exact Hbit.out
                    · exact HJ.out j (by omega))
                  clear hbit
                  go_wp2_with fail
                  refine (l00In_any _ _ _ true (decide_eq_true Hbit.out) _).mono ?_
                  rintro e w5 ⟨rfl, rfl⟩
                  go_wp2
                  go_roundg (mi - (k + 1))
                  case measure => go_light; omega
                  case rel => go_light; exact ⟨k + 1, by omega, rfl, by go_num, HJ2, hE⟩
                · have Hbit := Lib.hid hbit
                  have hC := Lib.hid (dmC_1 (m := m) (fun h => Hbit.out ((h.2 x (by have := Hl.out; omega)).2.2 k (by rw [← HM.out]; exact hlk))))
                  clear hbit
                  go_wp2_with fail
                  refine (l00In_any _ _ _ false (decide_eq_false Hbit.out) _).mono ?_
                  rintro e w5 ⟨rfl, rfl⟩
                  have HBr := heap_ext hE HB.out
                  have q0 := cell_blk (k := 0) HBr rfl
                  have q1 := cell_blk (k := 1) HBr rfl
                  have f0 := frozen_blk (k := 0) HBr
                  have f1 := frozen_blk (k := 1) HBr
                  have HBh := Lib.hid HBr
                  clear HBr
                  go_wp2
                  (try simp only [Exit.inBlock, Exit.then])
                  refine bodyPost_ret (results_row_tmp rfl _ _ w.heap.size #[.int .i64 0, .slice none 0 0] rfl (run_loadVar_row _ w.heap.size 28 28 #[.int .i64 0, .slice none 0 0] (0, 0) _ (by first | exact HBh.out | simp [World.setCell, Array.getElem?_modify, HBh.out]) Try.underlying28 rfl (by kernel_rfl))) rfl ?_
                  exact RetDC.nil_ hC.out.1 hC.out.2.1 hC.out.2.2 (by first | exact ((hEW.trans hE).setCell (p := ⟨w.heap.size, 0, none⟩) (Nat.le_refl _) (.int .i64 0)).setCell (p := ⟨w.heap.size, 1, none⟩) (Nat.le_refl _) (.slice none 0 0) | exact hEW)
              · have hz2 : ¬ (k : Int) < (mi : Int) := by omega
                obtain rfl : mi = k := by omega
                have HRN : Hid (∀ i, i < x + 1 → RowOk m i) := Lib.hid (fun i hi => by
                  by_cases e : i = x
                  · subst e
                    exact ⟨by have e1 := HM.out; have e2 := HK.out; have e3 := HmK.out; omega, by rw [← HM.out]; exact hmi, fun j hj => HJ.out j (by rw [HM.out]; exact hj)⟩
                  · exact HR.out i (by omega))
                go_wp2
                go_roundg (n - (x + 1))
                case measure => go_light; omega
                case rel => go_light; exact ⟨x + 1, by omega, rfl, by go_num, HRN, hE⟩
        · have hne : ((mi : Int) != (K : Int)) = true := by simp; omega
          have hC := Lib.hid (dmC_1 (m := m) (fun h => by have h1 := (h.2 x (by have := Hl.out; omega)).1; rw [← HM.out, ← HK.out] at h1; exact hmK h1))
          clear hmK
          go_wp2_with fail
          go_quiet (fail)
          have hE2 := hE.drewN nq
          generalize wr.drewN nq = wq at hE2 ⊢
          clear hE hc0 hc1
          have HBr := heap_ext hE2 HB.out
          have q0 := cell_blk (k := 0) HBr rfl
          have q1 := cell_blk (k := 1) HBr rfl
          have f0 := frozen_blk (k := 0) HBr
          have f1 := frozen_blk (k := 1) HBr
          have HBh := Lib.hid HBr
          clear HBr
          go_wp2
          (try simp only [Exit.inBlock, Exit.then])
          refine bodyPost_ret (results_row_tmp rfl _ _ w.heap.size #[.int .i64 0, .slice none 0 0] rfl (run_loadVar_row _ w.heap.size 28 28 #[.int .i64 0, .slice none 0 0] (0, 0) _ (by first | exact HBh.out | simp [World.setCell, Array.getElem?_modify, HBh.out]) Try.underlying28 rfl (by kernel_rfl))) rfl ?_
          exact RetDC.nil_ hC.out.1 hC.out.2.1 hC.out.2.2 (by first | exact ((hEW.trans hE2).setCell (p := ⟨w.heap.size, 0, none⟩) (Nat.le_refl _) (.int .i64 0)).setCell (p := ⟨w.heap.size, 1, none⟩) (Nat.le_refl _) (.slice none 0 0) | exact hEW)
      · have hz : ¬ (x : Int) < (n : Int) := by omega
        obtain rfl : n = x := by omega
        have Hok : Hid (DmOk m) := Lib.hid ⟨by have := H32.out; rwa [← Hl.out], fun i hi => HR.out i (by rw [Hl.out]; exact hi)⟩
        have hK : K ≤ 128 := by have h1 := (Hok.out.2 0 (by have := Hl.out; omega)).2.1; rw [← HK.out] at h1; exact h1
        have H0 := (OwnR.empty wr).base (B' := w.heap.size + 1) (by have := hE.size; omega)
        have hE0 := hE.alloc (.cells #[] 38)
        clear hE hc0
        go_wp2
        go_loopg [6, 7] K (fun gh s i wz => ∃ (k : Nat) (a6 : Option Addr) (c6 : Nat) (rs : List Row), k ≤ K ∧ gh = K - k ∧ s = .slice a6 k c6 ∧ i = .int .i64 k ∧ OwnR wz (w.heap.size + 1) a6 k c6 (mbl m n k) rs ∧ Hid (∀ j, j < k → ¬ mblk m j n = []) ∧ Ext (w.alloc (.cells #[.int .i64 0, .slice none 0 0] 28)) wz)
        case atStart => exact ⟨0, _, 0, [], Nat.zero_le _, rfl, rfl, rfl, H0, Lib.hid (fun i h => absurd h (Nat.not_lt_zero _)), hE0⟩
        case round =>
          clear H0 hE0
          obtain ⟨k, a6, c6, rs, hk, rfl, rfl, rfl, hO, HN, hE⟩ := hrel
          have hc0 := (hEW.trans hE).cell hcw0
          by_cases hlt2 : k < K
          · have hz2 : (k : Int) < (K : Int) := by omega
            have hF0 := Own2.startE hO (by have := hE.size; omega)
            have hE0 := hE.alloc (.cells #[] 2)
            clear hO hE
            go_wp2
            clear hc0
            go_loopg [8, 9] n (fun gh s i wz => ∃ (y l : Nat) (a8 : Option Addr) (d8 : Nat), y ≤ n ∧ gh = n - y ∧ l ≤ y ∧ s = .slice a8 l d8 ∧ i = .int .i64 y ∧ Own2 wz (w.heap.size + 1) a6 k c6 (mbl m n k) rs a8 l d8 (mblk m k y) ∧ Ext (w.alloc (.cells #[.int .i64 0, .slice none 0 0] 28)) wz)
            case atStart => exact ⟨0, 0, _, 0, Nat.zero_le _, rfl, Nat.zero_le _, rfl, rfl, hF0, hE0⟩
            case round =>
              clear hF0 hE0
              obtain ⟨y, l, a8, d8, hy, rfl, hl, rfl, rfl, hF, hE⟩ := hrel
              by_cases hly : y < n
              · have hz3 : (y : Int) < (n : Int) := by omega
                obtain ⟨b', o', ai, mi, ci, hh, hcx, hrow⟩ := hp.gr hly
                cases hh
                have hc1 := (hEW.trans hE).cell hcx
                have HM := Lib.hid hrow.len
                have hmk : k < mi := by have h1 := (Hok.out.2 y (by have := Hl.out; omega)).1; rw [← HM.out, ← HK.out] at h1; omega
                have hz4 : (k : Int) < (mi : Int) := by omega
                have hq1 := hrow.le
                have hq2 := hrow.max
                obtain ⟨b1, o1, hai, hcv⟩ := hrow.cell2 hmk
                subst hai
                have hcv2 := (hEW.trans hE).cell hcv
                by_cases h1 : at2 m y k = 1
                · have h1b : (at2 m y k == 1) = true := by simp [h1]
                  have H1 := Lib.hid h1
                  have hsz : w.heap.size + 1 ≤ wr.heap.size := by have := hE.size; omega
                  clear h1
                  go_wp2_with (at_builtin; refine app_I rfl _ _ rfl hF.row hsz rfl (by omega) rfl rfl ?_; intro a8' d8' w6 hrow6 honly hmv)
                  have hF2 := hF.app2 hrow6 honly hmv
                  rw [← mblk_yes H1.out] at hF2
                  have hE6 := hE.app hF.row honly (by rw [hsW]; exact Nat.le_refl _)
                  clear hF hE hrow6 honly hmv hsz hc1 hcv2
                  go_wp2
                  go_roundg (n - (y + 1))
                  case measure => go_light; omega
                  case rel => go_light; exact ⟨y + 1, l + 1, a8', d8', by omega, rfl, by omega, rfl, by go_num, hF2, hE6⟩
                · have h1b : (at2 m y k == 1) = false := by simp [h1]
                  rw [← mblk_no h1] at hF
                  clear h1
                  go_wp2
                  go_roundg (n - (y + 1))
                  case measure => go_light; omega
                  case rel => go_light; exact ⟨y + 1, l, a8, d8, by omega, rfl, by omega, rfl, by go_num, hF, hE⟩
              · have hz3 : ¬ (y : Int) < (n : Int) := by omega
                obtain rfl : n = y := by omega
                have HL := Lib.hid hF.row.len
                by_cases hl0 : l = 0
                · have hl0b : ((l : Int) == 0) = true := by simp [hl0]
                  have hC := Lib.hid (dmC_6 Hok.out ⟨k, by rw [← HK.out]; exact hlt2, by rw [← Hl.out]; exact List.eq_nil_of_length_eq_zero (by rw [← HL.out]; exact hl0)⟩)
                  clear hl0 hF
                  have HBr := heap_ext hE HB.out
                  have q0 := cell_blk (k := 0) HBr rfl
                  have q1 := cell_blk (k := 1) HBr rfl
                  have f0 := frozen_blk (k := 0) HBr
                  have f1 := frozen_blk (k := 1) HBr
                  have HBh := Lib.hid HBr
                  clear HBr
                  go_wp2
                  (try simp only [Exit.inBlock, Exit.then])
                  refine bodyPost_ret (results_row_tmp rfl _ _ w.heap.size #[.int .i64 0, .slice none 0 0] rfl (run_loadVar_row _ w.heap.size 28 28 #[.int .i64 0, .slice none 0 0] (0, 0) _ (by first | exact HBh.out | simp [World.setCell, Array.getElem?_modify, HBh.out]) Try.underlying28 rfl (by kernel_rfl))) rfl ?_
                  exact RetDC.nil_ hC.out.1 hC.out.2.1 hC.out.2.2 (by first | exact ((hEW.trans hE).setCell (p := ⟨w.heap.size, 0, none⟩) (Nat.le_refl _) (.int .i64 0)).setCell (p := ⟨w.heap.size, 1, none⟩) (Nat.le_refl _) (.slice none 0 0) | exact hEW)
                · have hl0b : ((l : Int) == 0) = false := by simp [hl0]
                  have HN2 : Hid (∀ j, j < k + 1 → ¬ mblk m j n = []) := Lib.hid (fun j hj e => by
                    by_cases ej : j = k
                    · subst ej
                      have h8 := HL.out
                      rw [e] at h8
                      exact hl0 h8
                    · exact HN.out j (by omega) e)
                  have hsz : w.heap.size + 1 ≤ wr.heap.size := by have := hE.size; omega
                  clear hl0
                  go_wp2_with (at_builtin; refine app_S rfl _ _ rfl hF.rows hsz hF.row hF.apart rfl (by omega) rfl rfl ?_; intro a6' c6' w7 hrows honly hmv)
                  rw [← mbl_succ] at hrows
                  have hE7 := hE.app hF.rows.top honly (by rw [hsW]; exact Nat.le_refl _)
                  clear hF hE honly hmv hsz
                  go_wp2
                  go_roundg (K - (k + 1))
                  case measure => go_light; omega
                  case rel => go_light; exact ⟨k + 1, a6', c6', _, by omega, rfl, rfl, by go_num, hrows, HN2, hE7⟩
          · have hz2 : ¬ (k : Int) < (K : Int) := by omega
            obtain rfl : K = k := by omega
            have hno : Hid (¬ DmNo m) := Lib.hid (fun ⟨j, h1, h2⟩ => HN.out j (by rw [HK.out]; exact h1) (by rw [Hl.out]; exact h2))
            have hrd : RdR wr a6 K c6 (dmB m) := by
              have h9 := hO.rd
              rwa [dmB, ← Hl.out, ← HK.out]
            have hC := Lib.hid (dmC_0 Hok.out hno.out)
            clear hO
            go_wp2_with fail
            refine (l10Make_any (n : Int) _ _ _ (dmB m) _ hrd (dmB_tot Hok.out) (by omega) (by omega)).mono ?_
            rintro e w7 ⟨a7, n7, c7, rs7, rfl, hO7, hE7⟩
            have hE8 := hE.trans hE7
            have hlt7 : ¬ OwnR.fp a7 rs7 w.heap.size := fun hf => by have h8 := (hO7.lt hf).1; have h9 := hE.size; omega
            have hszB : w.heap.size ≤ wr.heap.size := (hEW.trans hE).size
            clear hc0
            have HBr := heap_ext hE8 HB.out
            have q0 := cell_blk (k := 0) HBr rfl
            have q1 := cell_blk (k := 1) HBr rfl
            have f0 := frozen_blk (k := 0) HBr
            have f1 := frozen_blk (k := 1) HBr
            have HBh := Lib.hid HBr
            clear HBr
            go_wp2
            (try simp only [Exit.inBlock, Exit.then])
            refine bodyPost_ret (results_row_tmp rfl _ _ w.heap.size #[.int .i64 (mkZ (n : Int) (dmB m)), .slice a7 n7 c7] rfl (run_loadVar_row _ w.heap.size 28 28 #[.int .i64 (mkZ (n : Int) (dmB m)), .slice a7 n7 c7] (0, 0) _ (by first | exact HBh.out | simp [World.setCell, Array.getElem?_modify, HBh.out]) Try.underlying28 rfl (by kernel_rfl))) rfl ?_
            exact RetDC.mk_ (((hO7).setOther (p := ⟨w.heap.size, 0, none⟩) (hlt7) (.int .i64 (mkZ (n : Int) (dmB m)))).setOther (p := ⟨w.heap.size, 1, none⟩) (hlt7) (.slice a7 n7 c7)) hszB (by rw [Hl.out]; exact hC.out.1) (by rw [Hl.out]; exact hC.out.2.1) (by rw [Hl.out]; exact hC.out.2.2) (((hEW.trans hE8).setCell (p := ⟨w.heap.size, 0, none⟩) (Nat.le_refl _) (.int .i64 (mkZ (n : Int) (dmB m)))).setCell (p := ⟨w.heap.size, 1, none⟩) (Nat.le_refl _) (.slice a7 n7 c7))
  · have H32 := Lib.hid h32
    have hC := Lib.hid (dmC_1 (m := m) (fun h => H32.out (by have := h.1; rwa [← Hl.out] at this)))
    clear h32
    go_wp2_with fail
    refine (l00In_any _ _ _ false (decide_eq_false H32.out) _).mono ?_
    rintro e w2 ⟨rfl, rfl⟩
    have HBr := HB.out
    have q0 := cell_blk (k := 0) HBr rfl
    have q1 := cell_blk (k := 1) HBr rfl
    have f0 := frozen_blk (k := 0) HBr
    have f1 := frozen_blk (k := 1) HBr
    have HBh := Lib.hid HBr
    clear HBr
    go_wp2
    (try simp only [Exit.inBlock, Exit.then])
    refine bodyPost_ret (results_row_tmp rfl _ _ w.heap.size #[.int .i64 0, .slice none 0 0] rfl (run_loadVar_row _ w.heap.size 28 28 #[.int .i64 0, .slice none 0 0] (0, 0) _ (by first | exact HBh.out | simp [World.setCell, Array.getElem?_modify, HBh.out]) Try.underlying28 rfl (by kernel_rfl))) rfl ?_
    exact RetDC.nil_ hC.out.1 hC.out.2.1 hC.out.2.2 (by first | exact ((hEW).setCell (p := ⟨w.heap.size, 0, none⟩) (Nat.le_refl _) (.int .i64 0)).setCell (p := ⟨w.heap.size, 1, none⟩) (Nat.le_refl _) (.slice none 0 0) | exact hEW)
end Go.Proofs.Ytjifkgnbiahekaa
