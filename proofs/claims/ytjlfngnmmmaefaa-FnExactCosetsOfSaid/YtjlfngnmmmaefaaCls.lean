/- What permutations generate, by the reference. Conditions: none. -/
import Derived.Test.YtjlfngnmmmaefaaFnd
import Derived.Test.YtjlfngnmmmaefaaGenP
import Derived.Test.YtjlfngnmmmaefaaIdn
import Derived.Test.YtjlfngnmmmaefaaSd
namespace Go.Proofs.Ytjlfngnmmmaefaa
open Go.RowKit

/-- An ordered list of rows and a queue that has the same rows. -/
structure Cls (w : World) (B : Nat) (aL : Option Addr) (mL cL : Nat) (rsL : List Row) (xsL : List (List Int)) (aQ : Option Addr) (mQ cQ : Nat) (rsQ : List Row) (xsQ : List (List Int)) : Prop where
  tL : OwnT w B aL mL cL rsL
  tQ : OwnT w B aQ mQ cQ rsQ
  lL : rsL.length = xsL.length
  lQ : rsQ.length = xsQ.length
  rL : ∀ (i : Nat) (r : Row) (x : List Int), rsL[i]? = some r → xsL[i]? = some x → OwnI w B r.1 r.2.1 r.2.2 x
  rQ : ∀ (i : Nat) (r : Row) (x : List Int), rsQ[i]? = some r → xsQ[i]? = some x → OwnI w B r.1 r.2.1 r.2.2 x
  dL : ∀ r : Row, r ∈ rsL → ∀ g, blk r.1 = some g → blk aQ ≠ some g
  dQ : ∀ r : Row, r ∈ rsQ → ∀ g, blk r.1 = some g → blk aQ ≠ some g
  dd : ∀ g, blk aL = some g → blk aQ ≠ some g

section
variable {w w' : World} {B : Nat} {aL : Option Addr} {mL cL : Nat} {rsL : List Row} {xsL : List (List Int)} {aQ : Option Addr} {mQ cQ : Nat} {rsQ : List Row} {xsQ : List (List Int)}

theorem Cls.ext (h : Cls w B aL mL cL rsL xsL aQ mQ cQ rsQ xsQ) (k : Ext w w') : Cls w' B aL mL cL rsL xsL aQ mQ cQ rsQ xsQ :=
  ⟨h.tL.ext k, h.tQ.ext k, h.lL, h.lQ, fun i r x h1 h2 => (h.rL i r x h1 h2).ext k, fun i r x h1 h2 => (h.rQ i r x h1 h2).ext k, h.dL, h.dQ, h.dd⟩
theorem rdR_of {a : Option Addr} {n c : Nat} {rs : List Row} {xss : List (List Int)} (ht : RdT w a n c rs) (hl : rs.length = xss.length) (h : ∀ (i : Nat) (r : Row) (x : List Int), rs[i]? = some r → xss[i]? = some x → OwnI w B r.1 r.2.1 r.2.2 x) : RdR w a n c xss := by
  refine ⟨by rw [ht.len, hl], ht.le, ht.max, ht.nil, fun k xs hx => ?_⟩
  have hk : k < rs.length := by rw [hl]; exact (List.getElem?_eq_some_iff.1 hx).1
  obtain ⟨b, o, v, h1, h2, h3⟩ := ht.get k _ (List.getElem?_eq_getElem hk)
  exact ⟨b, o, v, h1, h2, _, _, _, h3, (h k _ xs (List.getElem?_eq_getElem hk) hx).rdI⟩
theorem Cls.rdL (h : Cls w B aL mL cL rsL xsL aQ mQ cQ rsQ xsQ) : RdR w aL mL cL xsL := rdR_of h.tL.rdT h.lL h.rL
theorem Cls.rdQ (h : Cls w B aL mL cL rsL xsL aQ mQ cQ rsQ xsQ) : RdR w aQ mQ cQ xsQ := rdR_of h.tQ.rdT h.lQ h.rQ

theorem put_get {α : Type} {l : List α} {x : α} {k i : Nat} (hk : k ≤ l.length) : (l.take k ++ x :: l.drop k)[i]? = if i < k then l[i]? else if i = k then some x else l[i - 1]? := by
  have hl : (l.take k).length = k := by rw [List.length_take]; omega
  by_cases e : i < k
  · rw [if_pos e, List.getElem?_append_left (by omega), List.getElem?_take_of_lt e]
  · rw [if_neg e, List.getElem?_append_right (by omega), hl]
    obtain ⟨j, hj⟩ : ∃ j, i - k = j := ⟨_, rfl⟩
    rw [hj]
    cases j with
    | zero => rw [if_pos (by omega)]; rfl
    | succ j => rw [if_neg (by omega), List.getElem?_cons_succ, List.getElem?_drop]; congr 1; omega

theorem Cls.step {w5 w6 w7 : World} {B6 : Nat} (h : Cls w B aL mL cL rsL xsL aQ mQ cQ rsQ xsQ) (hB : B ≤ w.heap.size) (E5 : Ext w w5) {ar : Option Addr} {nr cr : Nat} {p : List Int} (hr : OwnI w5 w.heap.size ar nr cr p) (E6 : Ext w5 w6)
    {aL' : Option Addr} {mL' cL' k : Nat} (hL : OwnT w6 B6 aL' mL' cL' (rsL.take k ++ (ar, nr, cr) :: rsL.drop k)) (hB6 : w5.heap.size ≤ B6) (hk : k ≤ rsL.length)
    {aQ' : Option Addr} {mQ' cQ' : Nat} (hQ : OwnT w7 B aQ' mQ' cQ' (rsQ ++ [(ar, nr, cr)])) (ho : Only (onlyA aQ) w6 w7) (hm : Moved w6 aQ aQ') :
    Cls w7 B aL' mL' cL' (rsL.take k ++ (ar, nr, cr) :: rsL.drop k) (xsL.take k ++ p :: xsL.drop k) aQ' mQ' cQ' (rsQ ++ [(ar, nr, cr)]) (xsQ ++ [p]) := by
  have z5 := E5.size
  have z6 := E6.size
  have hqb : ∀ g, blk aQ = some g → g < w.heap.size := fun g hg => (h.tQ.lt hg).2
  have hnew : ∀ g, blk ar = some g → w.heap.size ≤ g ∧ g < w5.heap.size := fun g hg => hr.lt hg
  have hLb : ∀ g, blk aL' = some g → w5.heap.size ≤ g ∧ g < w6.heap.size := fun g hg => by have := hL.lt hg; omega
  have hQb : ∀ g, blk aQ' = some g → blk aQ = some g ∨ w6.heap.size ≤ g := fun g hg => by
    rcases hm with hm | ⟨g', hm, hlt⟩
    · exact .inl (by rw [← hm]; exact hg)
    · rw [hm] at hg; cases hg; exact .inr hlt
  have oldL : ∀ (i : Nat) (r : Row) (x : List Int), rsL[i]? = some r → xsL[i]? = some x → OwnI w7 B r.1 r.2.1 r.2.2 x := fun i r x h1 h2 => (((h.rL i r x h1 h2).ext E5).ext E6).only ho (fun g hg e => h.dL r (List.mem_of_getElem? h1) g hg e)
  have oldQ : ∀ (i : Nat) (r : Row) (x : List Int), rsQ[i]? = some r → xsQ[i]? = some x → OwnI w7 B r.1 r.2.1 r.2.2 x := fun i r x h1 h2 => (((h.rQ i r x h1 h2).ext E5).ext E6).only ho (fun g hg e => h.dQ r (List.mem_of_getElem? h1) g hg e)
  have newR : OwnI w7 B ar nr cr p := ((hr.ext E6).only ho (fun g hg e => by have := hnew g hg; have := hqb g e; omega)).base hB
  have ltL : ∀ r : Row, r ∈ rsL → ∀ g, blk r.1 = some g → g < w.heap.size := fun r hr g hg => by
    obtain ⟨i, hi⟩ := List.mem_iff_getElem?.1 hr
    have hx : i < xsL.length := by rw [← h.lL]; exact (List.getElem?_eq_some_iff.1 hi).1
    exact ((h.rL i r _ hi (List.getElem?_eq_getElem hx)).lt hg).2
  have ltQ : ∀ r : Row, r ∈ rsQ → ∀ g, blk r.1 = some g → g < w.heap.size := fun r hr g hg => by
    obtain ⟨i, hi⟩ := List.mem_iff_getElem?.1 hr
    have hx : i < xsQ.length := by rw [← h.lQ]; exact (List.getElem?_eq_some_iff.1 hi).1
    exact ((h.rQ i r _ hi (List.getElem?_eq_getElem hx)).lt hg).2
  refine ⟨(hL.only ho (fun g hg e => by have := hLb g hg; have := hqb g e; omega)).base (by omega), hQ, by simp [h.lL], by simp [h.lQ], fun i r x h1 h2 => ?_, fun i r x h1 h2 => ?_, fun r hr' g hg => ?_, fun r hr' g hg => ?_, fun g hg e => ?_⟩
  · rw [put_get hk] at h1
    rw [put_get (by rw [← h.lL]; exact hk)] at h2
    by_cases e1 : i < k
    · rw [if_pos e1] at h1 h2; exact oldL i r x h1 h2
    · rw [if_neg e1] at h1 h2
      by_cases e2 : i = k
      · rw [if_pos e2] at h1 h2; cases h1; cases h2; exact newR
      · rw [if_neg e2] at h1 h2; exact oldL _ r x h1 h2
  · by_cases e1 : i < rsQ.length
    · rw [List.getElem?_append_left e1] at h1
      rw [List.getElem?_append_left (by rw [← h.lQ]; exact e1)] at h2
      exact oldQ i r x h1 h2
    · rw [List.getElem?_append_right (by omega)] at h1
      rw [List.getElem?_append_right (by rw [← h.lQ]; omega), ← h.lQ] at h2
      obtain ⟨j, hj⟩ : ∃ j, i - rsQ.length = j := ⟨_, rfl⟩
      rw [hj] at h1 h2
      cases j with
      | zero => cases h1; cases h2; exact newR
      | succ j => simp at h1
  · intro e
    rcases List.mem_append.1 hr' with h1 | h1
    · rcases hQb g e with h2 | h2
      · exact h.dL r (List.mem_of_mem_take h1) g hg h2
      · have := ltL r (List.mem_of_mem_take h1) g hg; omega
    · rcases List.mem_cons.1 h1 with rfl | h1
      · have := hnew g hg
        rcases hQb g e with h2 | h2
        · have := hqb g h2; omega
        · omega
      · rcases hQb g e with h2 | h2
        · exact h.dL r (List.mem_of_mem_drop h1) g hg h2
        · have := ltL r (List.mem_of_mem_drop h1) g hg; omega
  · intro e
    rcases List.mem_append.1 hr' with h1 | h1
    · rcases hQb g e with h2 | h2
      · exact h.dQ r h1 g hg h2
      · have := ltQ r h1 g hg; omega
    · rw [List.mem_singleton.1 h1] at hg
      have := hnew g hg
      rcases hQb g e with h2 | h2
      · have := hqb g h2; omega
      · omega
  · have := hLb g hg
    rcases hQb g e with h2 | h2
    · have := hqb g h2; omega
    · omega
end

set_option maxRecDepth 100000 in
set_option maxHeartbeats 6400000 in
theorem l05Close_any (n : Nat) (a : Option Addr) (m c : Nat) (gs : List (List Int)) (most : Nat) (w : World) (hg : RdR w a m c gs) (hp : PermsN n gs) (hn1 : 1 ≤ n) (hn : n ≤ 32) (hm1 : 1 ≤ most) (hm2 : most ≤ 1000) (hm : m ≤ 1048576) :
    Calls Try.prog 63 #[.int .i64 n, .slice a m c, .int .i64 most] w fun e w' => ∃ a' m' c', e = .returned (.tuple #[.slice a' m' c', .bool (pb (¬ Big n gs most))]) ∧ Ext w w' ∧ ∃ L, RdR w' a' m' c' L ∧ Hid (¬ Big n gs most → IsGen n gs L ∧ L.length ≤ most) := by
  have hb1 := hg.le
  have hb2 := hg.max
  have Hl := Lib.hid hg.len
  have HP := Lib.hid hp
  clear hp
  go_enter Try.func63, Try.ntmps63
  go_wp2_with fail
  refine (l04One_any n _ (by omega)).mono ?_
  rintro e w2 ⟨a2, n2, c2, rfl, hO, hE2⟩
  have hN2 : Hid (n2 = n) := Lib.hid (by have := hO.len; rw [upto_length] at this; exact this)
  have hC0 : Cls ((w2.alloc (.cells #[.slice a2 n2 c2] 26)).alloc (.cells #[.slice a2 n2 c2] 26)) w.heap.size (some ⟨w2.heap.size, 0, none⟩) 1 1 [(a2, n2, c2)] [upto n] (some ⟨w2.heap.size + 1, 0, none⟩) 1 1 [(a2, n2, c2)] [upto n] := by
    have e1 := Own.lit (E := 26) (f := Row.val) w2 #[.slice a2 n2 c2] (xs := [(a2, n2, c2)]) (n := 1) rfl (by unfold maxLen; omega) rfl
    have e2 := Own.lit (E := 26) (f := Row.val) (w2.alloc (.cells #[.slice a2 n2 c2] 26)) #[.slice a2 n2 c2] (xs := [(a2, n2, c2)]) (n := 1) rfl (by unfold maxLen; omega) rfl
    have s1 : (w2.alloc (.cells #[.slice a2 n2 c2] 26)).heap.size = w2.heap.size + 1 := by simp
    rw [s1] at e2
    have k1 : Ext w2 (w2.alloc (.cells #[.slice a2 n2 c2] 26)) := (Ext.refl _).alloc _
    have k2 : Ext (w2.alloc (.cells #[.slice a2 n2 c2] 26)) ((w2.alloc (.cells #[.slice a2 n2 c2] 26)).alloc (.cells #[.slice a2 n2 c2] 26)) := (Ext.refl _).alloc _
    have hz := hE2.size
    have row : ∀ (i : Nat) (r : Row) (x : List Int), [((a2, n2, c2) : Row)][i]? = some r → [upto n][i]? = some x → OwnI ((w2.alloc (.cells #[.slice a2 n2 c2] 26)).alloc (.cells #[.slice a2 n2 c2] 26)) w.heap.size r.1 r.2.1 r.2.2 x := fun i r x h1 h2 => by
      cases i with
      | zero => cases h1; cases h2; exact (hO.ext k1).ext k2
      | succ i => simp at h1
    have dis : ∀ r : Row, r ∈ [((a2, n2, c2) : Row)] → ∀ g, blk r.1 = some g → blk (some (⟨w2.heap.size + 1, 0, none⟩ : Addr)) ≠ some g := fun r hr g hg e => by
      rw [List.mem_singleton.1 hr] at hg
      have h8 := (hO.lt hg).2
      have h9 := blk_eq e
      omega
    exact ⟨(e1.ext k2).base hz, e2.base (by omega), rfl, rfl, row, row, dis, dis, fun g hg e => by have h8 := blk_eq hg; have h9 := blk_eq e; omega⟩
  have hE0 : Ext w ((w2.alloc (.cells #[.slice a2 n2 c2] 26)).alloc (.cells #[.slice a2 n2 c2] 26)) := (hE2.alloc _).alloc _
  clear hO
  go_wp2
  go_loopg [9, 10, 11] (most - 0) (fun gh s t i wr => ∃ (x mL cL bL mQ cQ bQ : Nat) (rsL rsQ : List Row) (xsL xsQ : List (List Int)), x ≤ mQ ∧ mQ ≤ most ∧ gh = most - x ∧ s = .slice (some ⟨bL, 0, none⟩) mL cL ∧ t = .slice (some ⟨bQ, 0, none⟩) mQ cQ ∧ i = .int .i64 x ∧
    Cls wr w.heap.size (some ⟨bL, 0, none⟩) mL cL rsL xsL (some ⟨bQ, 0, none⟩) mQ cQ rsQ xsQ ∧ Hid (Bfs n gs xsQ x 0 ∧ SortedLL xsL ∧ xsL.Perm xsQ) ∧ Ext w wr)
  case atStart => exact ⟨0, 1, 1, _, 1, 1, _, _, _, _, _, Nat.zero_le _, hm1, rfl, rfl, rfl, rfl, hC0, Lib.hid ⟨Bfs.start n gs, List.pairwise_singleton _ _, List.Perm.refl _⟩, hE0⟩
  case round =>
    obtain ⟨x, mL, cL, bL, mQ, cQ, bQ, rsL, rsQ, xsL, xsQ, hx, hmQ, rfl, rfl, rfl, rfl, hC, HB, hE⟩ := hrel
    clear hC0 hE0
    have hq1 := hC.tQ.le
    by_cases hlt : x < mQ
    · have hz : (x : Int) < (mQ : Int) := by omega
      go_wp2
      go_loopg [9, 10, 12] m (fun gh s t i wr => ∃ (k mL cL bL mQ cQ bQ : Nat) (rsL rsQ : List Row) (xsL xsQ : List (List Int)), k ≤ m ∧ x < mQ ∧ mQ ≤ most ∧ gh = m - k ∧ s = .slice (some ⟨bL, 0, none⟩) mL cL ∧ t = .slice (some ⟨bQ, 0, none⟩) mQ cQ ∧ i = .int .i64 k ∧
        Cls wr w.heap.size (some ⟨bL, 0, none⟩) mL cL rsL xsL (some ⟨bQ, 0, none⟩) mQ cQ rsQ xsQ ∧ Hid (Bfs n gs xsQ x k ∧ SortedLL xsL ∧ xsL.Perm xsQ) ∧ Ext w wr)
      case atStart => exact ⟨0, mL, cL, bL, mQ, cQ, bQ, rsL, rsQ, xsL, xsQ, Nat.zero_le _, hlt, hmQ, rfl, rfl, rfl, rfl, hC, HB, hE⟩
      case round =>
        clear hC HB hE hx hmQ hlt hz hq1
        obtain ⟨k, mL, cL, bL, mQ, cQ, bQ, rsL, rsQ, xsL, xsQ, hk, hlt, hmQ, rfl, rfl, rfl, rfl, hC, HB, hE⟩ := hrel
        have hq1 := hC.tQ.le
        have hl1 := hC.tL.le
        by_cases hlk : k < m
        · have hz1 : (x : Int) < (mQ : Int) := by omega
          have hz2 : (k : Int) < (m : Int) := by omega
          have HQl := Lib.hid hC.rdQ.len
          have HLl := Lib.hid hC.rdL.len
          have HLL : Hid (mL = mQ) := Lib.hid (by rw [HLl.out, HQl.out, HB.out.2.2.length_eq])
          obtain ⟨b4, o4, aq, nq, cq, hh, hcq, hrq⟩ := hC.rdQ.gr hlt
          cases hh
          rw [Nat.zero_add] at hcq
          obtain ⟨b5, o5, ag, ng, cg, rfl, hcg, hrg⟩ := (hg.ext hE).gr hlk
          have hpq := (HB.out.1.gen _ (gr_mem' (show x < xsQ.length by rw [← HQl.out]; exact hlt))).perm HP.out
          have hpg := HP.out _ (gr_mem' (show k < gs.length by rw [← Hl.out]; exact hlk))
          have hng : ng = n := by rw [hrg.len]; exact hpg.1
          have hnq : nq = n := by rw [hrq.len]; exact hpq.1
          have Hpq := Lib.hid hpq
          have kt : ∀ wz, Ext wr wz → Calls Try.prog 79 #[.slice aq nq cq, .slice ag ng cg] wz (RetI wz (cmp (gr xsQ x) (gr gs k))) := fun wz hz => l04Times_any aq nq cq (gr xsQ x) ag ng cg (gr gs k) wz (hrq.ext hz) (hrg.ext hz) (by omega) (by rw [hng]; exact Hpq.out.below)
          clear hpq hpg hng hnq hrq hrg
          go_wp2_with fail
          go_region_held3 (fun w' => w'.cell? ⟨bQ, x, none⟩ = some (.slice aq nq cq) ∧ w'.cell? ⟨b5, o5 + k, none⟩ = some (.slice ag ng cg)) (first | exact ⟨hcq, hcg⟩ | exact ⟨Ext.cell ((Ext.refl _).drew) hcq, Ext.cell ((Ext.refl _).drew) hcg⟩ | exact ⟨Ext.cell (Ext.trans ((Ext.refl _).drew) hE5') hcq, Ext.cell (Ext.trans ((Ext.refl _).drew) hE5') hcg⟩) ((go_at_call 79; refine (kt _ ((Ext.refl _).drew)).mono ?_; rintro e w5 ⟨ar, nr, cr, rfl, hR, hE5'⟩))
          have hE5 : Ext wr w5 := Ext.trans ((Ext.refl _).drew) hE5'
          have hR5 : OwnI w5 wr.heap.size ar nr cr (cmp (gr xsQ x) (gr gs k)) := hR
          clear kt hcq hcg hE5' hR
          have hC5 := hC.ext hE5
          go_wp2_with fail
          refine (l05Find_any _ _ _ xsL ar nr cr (cmp (gr xsQ x) (gr gs k)) _ hC5.rdL hR5.rdI HB.out.2.1 (by have := HLL.out; omega)).mono ?_
          rintro e w6 ⟨ka, rfl, hQ6, HF⟩
          have hE6 : Ext w5 w6 := hQ6.ext
          rcases pbc (cmp (gr xsQ x) (gr gs k) ∈ xsL) with ⟨hb, Hb⟩ | ⟨hb, Hb⟩
          · rw [hb]
            have HB2 : Hid (Bfs n gs xsQ x (k + 1) ∧ SortedLL xsL ∧ xsL.Perm xsQ) := Lib.hid ⟨HB.out.1.seen (HB.out.2.2.mem_iff.1 Hb.out), HB.out.2⟩
            have hC6 := hC5.ext hE6
            have hEn := (hE.trans hE5).trans hE6
            clear hC hC5 hR5 hE hE5 hE6 hQ6 hb
            go_wp2
            go_roundg (m - (k + 1))
            case measure => go_light; omega
            case rel => go_light; exact ⟨k + 1, mL, cL, bL, mQ, cQ, bQ, rsL, rsQ, xsL, xsQ, by omega, hlt, hmQ, rfl, rfl, rfl, by go_num, hC6, HB2, hEn⟩
          · rw [hb]
            have Hnq : Hid (¬ cmp (gr xsQ x) (gr gs k) ∈ xsQ) := Lib.hid (fun h => Hb.out (HB.out.2.2.mem_iff.2 h))
            have HBn : Hid (Bfs n gs (xsQ ++ [cmp (gr xsQ x) (gr gs k)]) x (k + 1)) := Lib.hid (HB.out.1.new (by rw [← HQl.out]; exact hlt) (by rw [← Hl.out]; exact hlk) Hnq.out)
            by_cases hmo : mL = most
            · have hmob : ((mL : Int) == (most : Int)) = true := by simp [hmo]
              have hbig : Hid (pb (¬ Big n gs most) = false) := Lib.hid (pb_false (fun h => h ⟨_, HBn.out.nodup, HBn.out.gen, by rw [List.length_append, List.length_singleton, ← HQl.out, ← HLL.out]; omega⟩))
              have hEn := (hE.trans hE5).trans hE6
              clear hmo hb
              go_wp2
              go_ret2
              exact ⟨none, 0, 0, by rw [hbig.out]; rfl, hEn, [], (OwnR.nil_ _ 0).rd, Lib.hid (fun h => absurd (pb_true h) (by rw [hbig.out]; decide))⟩
            · have hmob : ((mL : Int) == (most : Int)) = false := by simp; omega
              have hmost2 : Hid (mQ + 1 ≤ most) := Lib.hid (by have := HLL.out; omega)
              have hka : ka ≤ mL := by rw [HLl.out]; exact HF.out.1
              have hmL : mL ≤ 1000 := by have := HLL.out; omega
              have hC6 := hC5.ext hE6
              clear hmo hb
              go_wp2_with fail
              refine (l05Put_any bL mL cL rsL ka ar nr cr _ hC6.tL.rdT hka (by omega)).mono ?_
              rintro e w7 ⟨bL', mL', cL', rfl, HmL', hT7, hE7⟩
              have hQ7 := hC6.tQ.ext hE7
              have hszw : w.heap.size ≤ w7.heap.size := (((hE.trans hE5).trans hE6).trans hE7).size
              go_wp2_with (at_builtin; refine app_T rfl _ _ rfl hQ7 hszw rfl (by omega) rfl rfl ?_; intro ad2 cQ2 w8 hT8 ho8 hm8)
              have hEn : Ext w w8 := (((hE.trans hE5).trans hE6).trans hE7).app hQ7 ho8 (Nat.le_refl _)
              obtain ⟨bQ', rfl⟩ := hT8.some_of (by omega)
              have hCn := hC.step hE.size hE5 hR5 (hE6.trans hE7) hT7 hE6.size (by rw [hC.lL, ← HLl.out]; exact hka) hT8 ho8 hm8
              have HB2 : Hid (Bfs n gs (xsQ ++ [cmp (gr xsQ x) (gr gs k)]) x (k + 1) ∧ SortedLL (xsL.take ka ++ cmp (gr xsQ x) (gr gs k) :: xsL.drop ka) ∧ (xsL.take ka ++ cmp (gr xsQ x) (gr gs k) :: xsL.drop ka).Perm (xsQ ++ [cmp (gr xsQ x) (gr gs k)])) :=
                Lib.hid ⟨HBn.out, putLL_sorted HB.out.2.1 (HF.out.2.2 Hb.out).2 (fun h0 _ => by have := (HF.out.2.2 Hb.out).1 (ka - 1) (by omega); omega) HF.out.1, (put_perm ka).trans (HB.out.2.2.append_right _)⟩
              clear hC hC5 hC6 hR5 hE hE5 hE6 hE7 hQ6 hT7 hQ7 hT8 ho8 hm8 hszw
              go_wp2
              go_roundg (m - (k + 1))
              case measure => go_light; omega
              case rel => go_light; exact ⟨k + 1, mL', cL', bL', mQ + 1, cQ2, bQ', _, _, _, _, by omega, by omega, hmost2.out, rfl, rfl, rfl, by go_num, hCn, HB2, hEn⟩
        · have hz2 : ¬ (k : Int) < (m : Int) := by omega
          obtain rfl : m = k := by omega
          have HB2 : Hid (Bfs n gs xsQ (x + 1) 0 ∧ SortedLL xsL ∧ xsL.Perm xsQ) := Lib.hid ⟨Bfs.next (by have := HB.out.1; rwa [Hl.out] at this), HB.out.2⟩
          go_wp2
          go_roundg (most - (x + 1))
          case measure => go_light; omega
          case rel => go_light; exact ⟨x + 1, mL, cL, bL, mQ, cQ, bQ, rsL, rsQ, xsL, xsQ, by omega, hmQ, rfl, rfl, rfl, by go_num, hC, HB2, hE⟩
    · have hz : ¬ (x : Int) < (mQ : Int) := by omega
      obtain rfl : mQ = x := by omega
      have hQl := hC.rdQ.len
      have hrd := hC.rdL
      have hall : Hid (∀ y, y ∈ xsQ ↔ Gen n gs y) := Lib.hid (Bfs.all (k := 0) (by have := HB.out.1; rwa [hQl] at this))
      have hlen : Hid (xsQ.length ≤ most) := Lib.hid (by rw [← hQl]; exact hmQ)
      have hnb : Hid (¬ Big n gs most) := Lib.hid (not_big hall.out hlen.out)
      have hgen : Hid (IsGen n gs xsL ∧ xsL.length ≤ most) := Lib.hid ⟨⟨HB.out.2.1, (HB.out.2.2.nodup_iff).2 HB.out.1.nodup, fun y => HB.out.2.2.mem_iff.trans (hall.out y)⟩, by rw [HB.out.2.2.length_eq]; exact hlen.out⟩
      clear hQl hC
      go_wp2
      go_ret2
      exact ⟨some ⟨bL, 0, none⟩, mL, cL, by rw [pb_true hnb.out]; rfl, hE, xsL, hrd, Lib.hid (fun _ => hgen.out)⟩
end Go.Proofs.Ytjlfngnmmmaefaa
