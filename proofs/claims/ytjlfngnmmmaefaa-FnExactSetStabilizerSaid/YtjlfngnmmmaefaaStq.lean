/- Stp, Sbg, StbP, Stb, Sts in one text. Conditions: none. -/
import Derived.Deep.RegionLaw
import Derived.Test.YtjlfngnmmmaefaaApp
import Derived.Test.YtjlfngnmmmaefaaRst
import Derived.Test.YtjlfngnmmmaefaaVg
import Derived.Test.YtjlfngnmmmaefaaOwnL
import Derived.Test.YtjlfngnmmmaefaaSl
import Derived.Test.YtjlfngnmmmaefaaBx
import Derived.Test.YtjlfngnmmmaefaaPutP
import Derived.Test.YtjlfngnmmmaefaaPermP
import Derived.Test.YtjlfngnmmmaefaaSetP
import Derived.Test.YtjlfngnmmmaefaaPut
import Derived.Test.YtjlfngnmmmaefaaSrt
import Derived.Test.YtjlfngnmmmaefaaSlEqual
import Derived.Test.YtjlfngnmmmaefaaSameL
import Derived.Test.YtjlfngnmmmaefaaVSet
import Derived.Test.YtjlfngnmmmaefaaRis
namespace Go.Proofs.Ytjlfngnmmmaefaa
open Go.RowKit

theorem step_app_S {ops : Array Oper} {o : Oper} {a : Act} {W : World} {K : Act → World → Prop} {Q : Exit → Act → World → Prop} {E : Prop} (hgd : o.guard = none) (s x : Operand)
    (ho : o.op = .call { callee := .builtin .append, args := #[s, x], argTypes := #[22, 22] })
    {B : Nat} {ad : Option Addr} {n c : Nat} {xss : List (List Int)} {rs : List Row} (hown : OwnR W B ad n c xss rs) (hB : B ≤ W.heap.size)
    {ra : Option Addr} {rn rc : Nat} {xs : List Int} (hr : OwnI W B ra rn rc xs) (hd : ∀ g, blk ra = some g → ¬ OwnR.fp ad rs g)
    {b : Nat} (hv : W.cell? ⟨b, 0, none⟩ = some (.slice ra rn rc))
    (hn : n + 1 ≤ 1099511627776) (hs : a.eval s = .slice ad n c) (hx : a.eval x = .slice (some ⟨b, 0, none⟩) 1 1)
    (h : ∀ ad' c' w', OwnR w' B ad' (n + 1) c' (xss ++ [xs]) (rs ++ [(ra, rn, rc)]) → Only (onlyA ad) W w' → K (a.put o.dst (.slice ad' (n + 1) c')) w') :
    if Region.wanted o (yielded ops a.tmps) = true then Oper.wp Try.prog o a W K Q else E := by
  have hw : Region.wanted o (yielded ops a.tmps) = true := by simp [Region.wanted, hgd]
  rw [if_pos hw]
  have hnews : ∀ j u, ([(ra, rn, rc)].map Row.val)[j]? = some u → W.cell? ((⟨b, 0, none⟩ : Addr).add j) = some u := by
    intro j u hu
    cases j with
    | zero => simp at hu; subst hu; exact hv
    | succ j => simp at hu
  obtain ⟨ad', c', w', hr9, h2, h3, h4⟩ := run_app Try.underlying22 Try.info_S rfl W B ad n c rs hown.top hB ⟨b, 0, none⟩ 1 1 [(ra, rn, rc)] rfl hnews (by intro u hu; simp at hu; subst hu; rfl) hn (by decide) o.type
  unfold Oper.wp execOp
  simp only [ho, resolve, invoke, builtin, Sem.run_bind, Sem.run_pure, Result.andThen_ok, List.map_toArray, List.map_cons, List.map_nil, hs, hx, hr9]
  exact h ad' c' w' (OwnR.push (r := (ra, rn, rc)) hown hr hd h2 h3 h4) h3

/-- A field of a struct that lies in a block is stored. -/
theorem heap_set {w : World} {g k : Nat} {cs : Array Value} {t : TypeId} {x : Nat × Nat} {v : Value} (h : w.heap[g]? = some (.cells cs t x)) : (w.setCell ⟨g, k, none⟩ v).heap[g]? = some (.cells (cs.setIfInBounds k v) t x) := by
  simp [World.setCell, Array.getElem?_modify, h]
theorem heap_set_other {w : World} {g g' k : Nat} {o : Obj} {v : Value} (h : w.heap[g]? = some o) (hne : g' ≠ g) : (w.setCell ⟨g', k, none⟩ v).heap[g]? = some o := by
  simp [World.setCell, Array.getElem?_modify, hne, h]
end Go.Proofs.Ytjlfngnmmmaefaa
namespace Go.Proofs.Ytjlfngnmmmaefaa
open Go.RowKit

theorem filter_snoc {p : List (List Int)} {f : List Int → Bool} {k : Nat} (hk : k < p.length) : (p.take (k + 1)).filter f = (p.take k).filter f ++ (if f (gr p k) then [gr p k] else []) := by
  rw [List.take_add_one, gr_get hk, List.filter_append]
  cases h : f (gr p k) <;> simp [h]
theorem filter_yes {p : List (List Int)} {f : List Int → Bool} {k : Nat} (hk : k < p.length) (h : f (gr p k) = true) : (p.take (k + 1)).filter f = (p.take k).filter f ++ [gr p k] := by rw [filter_snoc hk, if_pos h]
theorem filter_no {p : List (List Int)} {f : List Int → Bool} {k : Nat} (hk : k < p.length) (h : f (gr p k) = false) : (p.take (k + 1)).filter f = (p.take k).filter f := by rw [filter_snoc hk, h]; simp
theorem filter_take_len {p : List (List Int)} {f : List Int → Bool} {k : Nat} : ((p.take k).filter f).length ≤ k := Nat.le_trans (List.length_filter_le _ _) (by rw [List.length_take]; omega)

set_option maxRecDepth 100000 in
set_option maxHeartbeats 3200000 in
theorem subgroup_any (z : Int) (a : Option Addr) (n c : Nat) (p : List (List Int)) (F : FuncId) (cap : Array Value) (f : List Int → Bool) (w : World) (hx : RdR w a n c p) (hl32 : ∀ q, q ∈ p → q.length ≤ 32) (hn : n ≤ 720) (hF : Enters F) (hf : Asks F cap p f w) :
    Calls Try.prog 57 #[.agg #[.int .i64 z, .slice a n c], .func (.func F) #[] cap] w (RetD w z (p.filter f)) := by
  have hb1 := hx.le
  have hb2 := hx.max
  have Hl := Lib.hid hx.len
  have Hf := Lib.hid hf
  clear hf
  have hen : ∀ (args : Array Value) (w : World), (callFunc F args).run Try.prog w = .ok (.enter F args) w := hF
  go_enter Try.func57, Try.ntmps57
  go_wp2_with fail
  obtain ⟨W, hW⟩ : ∃ W, ((w.alloc (.cells #[.int .i64 z, .slice a n c] 29)).alloc (.cells #[.int .i64 0, .slice none 0 0] 29)).alloc (.cells #[.int .i64 z, .slice none 0 0] 29) = W := ⟨_, rfl⟩
  have hEW : Ext w W := by rw [← hW]; exact (((Ext.refl _).alloc _).alloc _).alloc _
  have s1 : W.heap.size = w.heap.size + 3 := by rw [← hW]; simp
  have HBo : Hid (W.heap[w.heap.size + 1 + 1]? = some (.cells #[.int .i64 z, .slice none 0 0] 29 (0, 0))) := Lib.hid (by
    rw [← hW]
    have := heap_alloc_new ((w.alloc (.cells #[.int .i64 z, .slice a n c] 29)).alloc (.cells #[.int .i64 0, .slice none 0 0] 29)) (.cells #[.int .i64 z, .slice none 0 0] 29)
    rwa [show ((w.alloc (.cells #[.int .i64 z, .slice a n c] 29)).alloc (.cells #[.int .i64 0, .slice none 0 0] 29)).heap.size = w.heap.size + 1 + 1 by simp] at this)
  have HBr : Hid (W.heap[w.heap.size + 1]? = some (.cells #[.int .i64 0, .slice none 0 0] 29 (0, 0))) := Lib.hid (by
    rw [← hW, heap_alloc_old _ _ (by simp)]
    have := heap_alloc_new (w.alloc (.cells #[.int .i64 z, .slice a n c] 29)) (.cells #[.int .i64 0, .slice none 0 0] 29)
    rwa [show (w.alloc (.cells #[.int .i64 z, .slice a n c] 29)).heap.size = w.heap.size + 1 by simp] at this)
  have c1 : W.cell? ⟨w.heap.size, 1, none⟩ = some (.slice a n c) := by
    rw [← hW]; exact (World.cell?_alloc_past _ _ _ (by simp; omega)).trans ((World.cell?_alloc_past _ _ _ (by simp)).trans ((World.cell?_alloc_at _ _ _ _ rfl).trans rfl))
  rw [hW]
  clear hW
  go_wp2
  go_loopg [14] n (fun g i wr => ∃ (k m : Nat) (ad : Option Addr) (d : Nat) (rs : List Row), k ≤ n ∧ m ≤ k ∧ g = n - k ∧ i = .int .i64 k ∧ OwnR wr (w.heap.size + 3) ad m d ((p.take k).filter f) rs ∧ Ext w wr ∧ Hid (wr.heap[w.heap.size + 1 + 1]? = some (.cells #[.int .i64 z, .slice ad m d] 29 (0, 0))) ∧ Hid (wr.heap[w.heap.size + 1]? = some (.cells #[.int .i64 0, .slice none 0 0] 29 (0, 0))))
  case atStart => exact ⟨0, 0, none, 0, [], Nat.zero_le _, Nat.le_refl _, rfl, rfl, OwnR.nil_ _ _, hEW, HBo, HBr⟩
  case round =>
    clear HBo HBr c1 s1 hEW
    obtain ⟨k, m, ad, d, rs, hk, hm, rfl, rfl, hO, hE, HBo, HBr⟩ := hrel
    have nf : ∀ (w' : World) (ad' : Option Addr) (m' d' : Nat) (L : List (List Int)) (rs' : List Row), OwnR w' (w.heap.size + 3) ad' m' d' L rs' → ∀ b, b < w.heap.size + 3 → ¬ OwnR.fp ad' rs' b := fun _ _ _ _ _ _ h b hb hf => by have := (h.lt hf).1; omega
    by_cases hlt : k < n
    · have hzk : (k : Int) < (n : Int) := by omega
      obtain ⟨b, o, ai, ni, ci, rfl, hc, hrow⟩ := (hx.ext hE).gr hlt
      have hlp : Hid (k < p.length) := Lib.hid (by rw [← Hl.out]; exact hlt)
      have hni : ni ≤ 32 := by rw [hrow.len]; exact hl32 _ (List.mem_of_getElem? (gr_get hlp.out))
      go_wp2_with fail
      refine (Hf.out k (gr p k) ai ni ci wr (gr_get hlp.out) hE hrow).mono ?_
      rintro e w2 ⟨rfl, hE2⟩
      have HBo2 := Lib.hid (heap_ext hE2 HBo.out)
      have HBr2 := Lib.hid (heap_ext hE2 HBr.out)
      have hO2 := hO.ext hE2
      have hrow2 := hrow.ext hE2
      have hEw2 := hE.trans hE2
      clear hO HBo HBr hE hE2 hrow
      obtain ⟨v, hv⟩ : ∃ v, f (gr p k) = v := ⟨_, rfl⟩
      rw [hv]
      cases v
      · have HF := Lib.hid (filter_no hlp.out hv)
        clear hv
        rw [← HF.out] at hO2
        go_wp2
        go_roundg (n - (k + 1))
        case measure => go_light; omega
        case rel => go_light; exact ⟨k + 1, m, ad, d, rs, by omega, by omega, rfl, by go_num, hO2, hEw2, HBo2, HBr2⟩
      · have HF := Lib.hid (filter_yes hlp.out hv)
        clear hv
        have q1 : w2.cell? ⟨w.heap.size + 1 + 1, 1, none⟩ = some (.slice ad m d) := cell_blk HBo2.out rfl
        have hmm : m + 1 ≤ 1099511627776 := by omega
        have hszW2 : w.heap.size + 3 ≤ w2.heap.size := by have := (Array.getElem?_eq_some_iff.1 HBo2.out).1; omega
        go_wp2_with fail
        go_region_law (first | (refine step_app_S (by rfl) _ _ (by rfl) hOA hszA hrA hdA hvA hmm (by rfl) (by rfl) ?_; intro ad' d' w3 hrows honly; have HBo3 := Lib.hid (only_heap honly (Array.getElem?_eq_some_iff.1 HBoA.out).1 (fun h => nf _ _ _ _ _ _ hOA _ (by omega) (.inl h)) HBoA.out); have f3 : w3.frozen? ⟨w.heap.size + 1 + 1, 1, none⟩ = false := frozen_blk HBo3.out; have q3 : w3.cell? ⟨w.heap.size + 1 + 1, 1, none⟩ = some (.slice ad m d) := cell_blk HBo3.out rfl) | (go_simp; go_at_call 84; refine (slClone_any ai ni ci (gr p k) _ (hrow2.ext ((Ext.refl _).drew)) (by omega)).mono ?_; rintro e w4 ⟨a4, n4, c4, rfl, hO4, hE4⟩; have hE5 := ((Ext.refl w2).drew).trans hE4; have HBo4 := Lib.hid (heap_ext hE5 HBo2.out); have q4 : w4.cell? ⟨w.heap.size + 1 + 1, 1, none⟩ = some (.slice ad m d) := cell_blk HBo4.out rfl; have l4 : w.heap.size + 1 + 1 < w4.heap.size := (Array.getElem?_eq_some_iff.1 HBo4.out).1; have n4' : w.heap.size + 1 + 1 ≠ w4.heap.size := Nat.ne_of_lt l4; have hOA := (hO2.ext hE5).ext ((Ext.refl w4).alloc (.cells #[.slice a4 n4 c4] 26)); have hszA : w.heap.size + 3 ≤ (w4.alloc (.cells #[.slice a4 n4 c4] 26)).heap.size := (by simp; omega); have HBoA := Lib.hid (heap_ext ((Ext.refl w4).alloc (.cells #[.slice a4 n4 c4] 26)) HBo4.out); have HBrA := Lib.hid (heap_ext (hE5.alloc (.cells #[.slice a4 n4 c4] 26)) HBr2.out); have hrA := (hO4.ext ((Ext.refl w4).alloc (.cells #[.slice a4 n4 c4] 26))).base (B' := w.heap.size + 3) (by have := hszW2; simp; omega); have hdA : ∀ g, blk a4 = some g → ¬ OwnR.fp ad rs g := (fun g hg hf => by have h1 := (hO4.lt hg).1; have h2 := (hO2.lt hf).2; simp at h1; omega); have hvA : (w4.alloc (.cells #[.slice a4 n4 c4] 26)).cell? ⟨w4.heap.size, 0, none⟩ = some (.slice a4 n4 c4) := (by simp); have hEA := (hEw2.trans hE5).alloc (.cells #[.slice a4 n4 c4] 26)))
        all_goals (
          have hE6 := hEA.app hOA.top honly (by omega)
          have hE7 := hE6.setCell (p := ⟨w.heap.size + 1 + 1, 1, none⟩) (by simp <;> omega) (.slice ad' (m + 1) d')
          have hO7 := hrows.setOther (p := ⟨w.heap.size + 1 + 1, 1, none⟩) (nf _ _ _ _ _ _ hrows (w.heap.size + 1 + 1) (by omega)) (.slice ad' (m + 1) d')
          rw [← HF.out] at hO7
          have HBo7 := Lib.hid (heap_set (k := 1) (v := .slice ad' (m + 1) d') HBo3.out)
          have HBr7 := Lib.hid (heap_set_other (g' := w.heap.size + 1 + 1) (k := 1) (v := .slice ad' (m + 1) d') (only_heap honly (by have := (Array.getElem?_eq_some_iff.1 HBrA.out).1; exact this) (fun h => nf _ _ _ _ _ _ hOA _ (by omega) (.inl h)) HBrA.out) (by omega))
          clear honly hrows hOA hszA hrA hdA hvA hE4 hO4 hE5
          go_wp2
          go_roundg (n - (k + 1))
          case measure => go_light; omega
          case rel => go_light; exact ⟨k + 1, m + 1, ad', d', _, by omega, by omega, rfl, by go_num, hO7, hE7, HBo7, HBr7⟩)
    · have hzk : ¬ (k : Int) < (n : Int) := by omega
      obtain rfl : n = k := by omega
      have hlp : Hid ((p.take n).filter f = p.filter f) := Lib.hid (by rw [List.take_of_length_le (by have := Hl.out; omega)])
      rw [hlp.out] at hO
      have q0 := cell_blk (k := 0) HBo.out rfl
      have q1 := cell_blk (k := 1) HBo.out rfl
      have r0 := cell_blk (k := 0) HBr.out rfl
      have r1 := cell_blk (k := 1) HBr.out rfl
      have f0 := frozen_blk (k := 0) HBr.out
      have f1 := frozen_blk (k := 1) HBr.out
      go_wp2
      (try simp only [Exit.inBlock, Exit.then])
      refine bodyPost_ret (results_cell_row rfl _ _ (w.heap.size + 1) 29 #[.int .i64 z, .slice ad m d] (0, 0) _ rfl (by simp [World.setCell, Array.getElem?_modify, HBr.out]) Try.underlying29 rfl (by kernel_rfl)) rfl ?_
      have hO2 := ((hO.setOther (p := ⟨w.heap.size + 1, 0, none⟩) (nf _ _ _ _ _ _ hO (w.heap.size + 1) (by omega)) (.int .i64 z)).setOther (p := ⟨w.heap.size + 1, 1, none⟩) (nf _ _ _ _ _ _ hO (w.heap.size + 1) (by omega)) (.slice ad m d))
      have hE2 := ((hE.setCell (p := ⟨w.heap.size + 1, 0, none⟩) (by simp <;> omega) (.int .i64 z)).setCell (p := ⟨w.heap.size + 1, 1, none⟩) (by simp <;> omega) (.slice ad m d))
      refine ⟨ad, m, d, rs, ?_, hO2.base (by omega), hE2⟩
      first | rfl | simp
end Go.Proofs.Ytjlfngnmmmaefaa
namespace Go.Proofs.Ytjlfngnmmmaefaa

/-- The group with a code, or nothing. -/
noncomputable def sgZ (c z : Int) : Int := if c = 0 then z else 0
noncomputable def sgM (c : Int) (L : List (List Int)) : List (List Int) := if c = 0 then L else []
theorem sg_yes {c z : Int} {L : List (List Int)} (h : c = 0) : z = sgZ c z ∧ L = sgM c L ∧ 0 = c := by subst h; exact ⟨rfl, rfl, rfl⟩
theorem sg_no {c z k : Int} {L : List (List Int)} (h : c = k) (hk : k ≠ 0) : 0 = sgZ c z ∧ [] = sgM c L ∧ k = c := by subst h; rw [sgZ, sgM, if_neg hk, if_neg hk]; exact ⟨rfl, rfl, rfl⟩
theorem tot_filter_le (f : List Int → Bool) (p : List (List Int)) : tot (p.filter f) ≤ tot p := by
  induction p with
  | nil => simp [tot]
  | cons x l ih =>
    rw [List.filter_cons]
    split
    · simp only [tot]; omega
    · simp only [tot]; omega
theorem sgM_tot {z : Int} {p : List (List Int)} (c : Int) (f : List Int → Bool) (h : c = 0 → GrpOk z p) : tot (sgM c (p.filter f)) ≤ 1048576 := by
  rw [sgM]
  split
  · rename_i hc
    have h0 := h hc
    have h1 := tot_le (p := p) (k := 32) (fun x hx => by have := (h0.2.2.1 x hx).1; have := h0.1; omega)
    have h2 := tot_filter_le f p
    have h3 := Nat.mul_le_mul_right 32 h0.2.1.2
    omega
  · simp [tot]

def stF (x : Nat) (q : List Int) : Bool := gi q x == (x : Int)
noncomputable def soC (z : Int) (p : List (List Int)) (P : Prop) : Int := if pb (GrpOk z p) then (if pb P then 0 else 2) else 1
theorem soC_1 {z : Int} {p : List (List Int)} {P : Prop} (h : ¬ GrpOk z p) : soC z p P = 1 := by rw [soC, pb_false h]; rfl
theorem soC_2 {z : Int} {p : List (List Int)} {P : Prop} (h0 : GrpOk z p) (h : ¬ P) : soC z p P = 2 := by rw [soC, pb_true h0, pb_false h]; rfl
theorem soC_0 {z : Int} {p : List (List Int)} {P : Prop} (h0 : GrpOk z p) (h : P) : soC z p P = 0 := by rw [soC, pb_true h0, pb_true h]; rfl
theorem soC_ok {z : Int} {p : List (List Int)} {P : Prop} (h : soC z p P = 0) : GrpOk z p := by
  apply Classical.byContradiction
  intro h0
  rw [soC_1 h0] at h
  omega

/-! ### sets -/
def imgL (q s : List Int) : List Int := s.map (fun x => gi q x.toNat)
theorem imgL_snoc {q s : List Int} {k : Nat} (hk : k < s.length) : imgL q (s.take (k + 1)) = imgL q (s.take k) ++ [gi q (gi s k).toNat] := by
  rw [imgL, List.take_add_one, gi_get hk, List.map_append]; rfl
theorem imgL_puts_snoc {q s : List Int} {k : Nat} (hk : k < s.length) : puts (imgL q (s.take (k + 1))) = put (puts (imgL q (s.take k))) (gi q (gi s k).toNat) := by rw [imgL_snoc hk, puts_snoc]
theorem Rises.at_ {s : List Int} {z : Nat} (h : Rises s 0 ((z : Int) - 1)) {k : Nat} (hk : k < s.length) : ∃ x : Nat, gi s k = x ∧ x < z := by
  have h1 := (h k hk).1
  obtain ⟨x, hx⟩ := Int.eq_ofNat_of_zero_le h1.1
  exact ⟨x, hx, by omega⟩
theorem imgL_nodup {q s : List Int} {z : Nat} (hq : IsPerm q) (hl : q.length = z) (hs : Rises s 0 ((z : Int) - 1)) : (imgL q s).Nodup := by
  rw [List.Nodup, List.pairwise_iff_getElem]
  intro i j hi hj hij e
  have hi' : i < s.length := by rw [imgL, List.length_map] at hi; exact hi
  have hj' : j < s.length := by rw [imgL, List.length_map] at hj; exact hj
  obtain ⟨x, hx, hxz⟩ := hs.at_ hi'
  obtain ⟨y, hy, hyz⟩ := hs.at_ hj'
  have hlt := RisesTo.lt hs hij hj'
  have e1 : (imgL q s)[i] = gi q x := by
    have : s[i] = (x : Int) := by rw [← hx]; exact (gi_of (List.getElem?_eq_getElem hi')).symm
    simp [imgL, this]
  have e2 : (imgL q s)[j] = gi q y := by
    have : s[j] = (y : Int) := by rw [← hy]; exact (gi_of (List.getElem?_eq_getElem hj')).symm
    simp [imgL, this]
  rw [e1, e2] at e
  have := gi_inj hq.1 (by rw [hl]; exact hxz) (by rw [hl]; exact hyz) e
  subst this
  omega
theorem img_sort {q s : List Int} {z : Nat} (hq : IsPerm q) (hl : q.length = z) (hs : Rises s 0 ((z : Int) - 1)) : (imgL q s).mergeSort leb = puts (imgL q s) := by
  have hn : ((imgL q s).mergeSort leb).Nodup := (List.mergeSort_perm (imgL q s) leb).nodup_iff.2 (imgL_nodup hq hl hs)
  have hle := sorted_of (imgL q s)
  refine sorted_ext ?_ (puts_sorted _) (fun v => by rw [mem_puts, (List.mergeSort_perm (imgL q s) leb).mem_iff])
  rw [List.pairwise_iff_getElem] at hle ⊢
  rw [List.Nodup, List.pairwise_iff_getElem] at hn
  intro i j hi hj hij
  have h1 := hle i j hi hj hij
  have h2 := hn i j hi hj hij
  omega
def ssF (s q : List Int) : Bool := decide (puts (imgL q s) = s)
theorem rises_len {s : List Int} {z : Nat} (h : Rises s 0 ((z : Int) - 1)) : s.length ≤ z := by
  rcases Nat.eq_zero_or_pos s.length with h0 | h0
  · omega
  · have := RisesTo.len h h0; omega
end Go.Proofs.Ytjlfngnmmmaefaa
namespace Go.Proofs.Ytjlfngnmmmaefaa
open Go.RowKit Go.Sort

set_option maxRecDepth 100000 in
set_option maxHeartbeats 1600000 in
theorem image_any (a : Option Addr) (n c : Nat) (q : List Int) (a2 : Option Addr) (m d : Nat) (s : List Int) (z : Nat) (w : World) (hq : RdI w a n c q) (hs : RdI w a2 m d s) (hn : q.length = z) (hr : Rises s 0 ((z : Int) - 1)) (hz : z ≤ 32) :
    Calls Try.prog 60 #[.slice a n c, .slice a2 m d] w (RetI w ((imgL q s).mergeSort leb)) := by
  have hb1 := hq.le
  have hb2 := hq.max
  have hb3 := hs.le
  have hb4 := hs.max
  have Hl := Lib.hid hs.len
  obtain rfl : n = z := by rw [hq.len]; exact hn
  have hmz : m ≤ 32 := by rw [Hl.out]; exact Nat.le_trans (rises_len hr) hz
  have Hr := Lib.hid hr
  clear hr hn
  go_enter Try.func60, Try.ntmps60
  go_wp2
  go_loopg [5, 10] m (fun g s_ i wr => ∃ (k : Nat) (ad : Option Addr) (e : Nat), k ≤ m ∧ g = m - k ∧ i = .int .i64 k ∧ s_ = .slice ad k e ∧ OwnI wr w.heap.size ad k e (imgL q (s.take k)) ∧ Ext w wr)
  case atStart => exact ⟨0, _, 0, Nat.zero_le _, rfl, rfl, rfl, Own.nil_ _ _ _ _, Ext.refl _⟩
  case round =>
    obtain ⟨k, ad, e, hk, rfl, rfl, rfl, hO, hE⟩ := hrel
    by_cases hlt : k < m
    · have hzk : (k : Int) < (m : Int) := by omega
      have hks : Hid (k < s.length) := Lib.hid (by rw [← Hl.out]; exact hlt)
      obtain ⟨x, hx, hxz⟩ := Hr.out.at_ hks.out
      obtain ⟨b, o, rfl, hc⟩ := (hs.ext hE).gi hlt
      have hxn : x < n := by omega
      obtain ⟨b1, o1, rfl, hc1⟩ := (hq.ext hE).gi hxn
      have hzx : (x : Int) < (n : Int) := by omega
      rw [hx] at hc
      have HX : Hid (imgL q (s.take k) ++ [gi q x] = imgL q (s.take (k + 1))) := Lib.hid (by rw [imgL_snoc hks.out, hx]; rfl)
      clear hx
      have hsz := hE.size
      go_wp2_with (at_builtin; refine app_I rfl _ _ rfl hO hsz rfl (by omega) rfl rfl ?_; intro ad' d' w3 hO3 honly hmv)
      have hE3 := hE.app hO honly (Nat.le_refl _)
      rw [HX.out] at hO3
      clear honly hmv hO
      go_wp2
      go_roundg (m - (k + 1))
      case measure => go_light; omega
      case rel => go_light; exact ⟨k + 1, ad', d', by omega, by omega, by go_num, rfl, hO3, hE3⟩
    · have hzk : ¬ (k : Int) < (m : Int) := by omega
      obtain rfl : m = k := by omega
      have HT : Hid (s.take m = s) := Lib.hid (List.take_of_length_le (by have := Hl.out; omega))
      rw [HT.out] at hO
      go_wp2_with fail
      refine (slSort_any wr hO (by omega)).mono ?_
      rintro e9 w2 ⟨rfl, hO3, ho3⟩
      have hE3 := hE.app hO ho3 (Nat.le_refl _)
      clear ho3
      go_wp2
      go_ret
      exact ⟨_, _, _, rfl, hO3, hE3⟩

set_option maxRecDepth 100000 in
set_option maxHeartbeats 1600000 in
theorem l04Image_any (a : Option Addr) (n c : Nat) (q : List Int) (a2 : Option Addr) (m d : Nat) (s : List Int) (z : Nat) (w : World) (hq : RdI w a n c q) (hs : RdI w a2 m d s) (hn : q.length = z) (hr : Rises s 0 ((z : Int) - 1)) (hz : z ≤ 32) :
    Calls Try.prog 54 #[.slice a n c, .slice a2 m d] w (RetI w (puts (imgL q s))) := by
  have hb1 := hq.le
  have hb2 := hq.max
  have hb3 := hs.le
  have hb4 := hs.max
  have Hl := Lib.hid hs.len
  obtain rfl : n = z := by rw [hq.len]; exact hn
  have hmz : m ≤ 32 := by rw [Hl.out]; exact Nat.le_trans (rises_len hr) hz
  have Hr := Lib.hid hr
  clear hr hn
  have H0 := Own.empty 2 (Value.int .i64) w
  go_enter Try.func54, Try.ntmps54
  go_wp2
  go_loopg [5, 6] m (fun g s_ i wr => ∃ (k : Nat) (ad : Option Addr) (t e : Nat), k ≤ m ∧ g = m - k ∧ i = .int .i64 k ∧ s_ = .slice ad t e ∧ t ≤ k ∧ OwnI wr w.heap.size ad t e (puts (imgL q (s.take k))) ∧ Ext w wr)
  case atStart => exact ⟨0, _, 0, 0, Nat.zero_le _, rfl, rfl, rfl, Nat.le_refl _, H0, (Ext.refl _).alloc _⟩
  case round =>
    clear H0
    obtain ⟨k, ad, t, e, hk, rfl, rfl, rfl, ht, hO, hE⟩ := hrel
    by_cases hlt : k < m
    · have hzk : (k : Int) < (m : Int) := by omega
      have hks : Hid (k < s.length) := Lib.hid (by rw [← Hl.out]; exact hlt)
      obtain ⟨x, hx, hxz⟩ := Hr.out.at_ hks.out
      obtain ⟨b, o, rfl, hc⟩ := (hs.ext hE).gi hlt
      have hxn : x < n := by omega
      obtain ⟨b1, o1, rfl, hc1⟩ := (hq.ext hE).gi hxn
      have hzx : (x : Int) < (n : Int) := by omega
      rw [hx] at hc
      have HX : Hid (put (puts (imgL q (s.take k))) (gi q x) = puts (imgL q (s.take (k + 1)))) := Lib.hid (by rw [imgL_puts_snoc hks.out, hx]; rfl)
      clear hx
      have hsz := hE.size
      go_wp2_with fail
      refine (l00Put_any ad t e _ _ wr hO.rdI (by omega)).mono ?_
      rintro e9 w2 ⟨ad2, m2, d2, rfl, hO2, hE2⟩
      have hE3 := hE.trans hE2
      have hO3 := hO2.base (B' := w.heap.size) hsz
      rw [HX.out] at hO3
      have hm2 : m2 ≤ k + 1 := by
        have h1 := hO3.len
        have h2 := puts_length (imgL q (s.take (k + 1)))
        rw [imgL, List.length_map, List.length_take] at h2
        rw [h1, imgL]; omega
      clear hO hO2
      go_wp2
      go_roundg (m - (k + 1))
      case measure => go_light; omega
      case rel => go_light; exact ⟨k + 1, ad2, m2, d2, by omega, by omega, by go_num, rfl, hm2, hO3, hE3⟩
    · have hzk : ¬ (k : Int) < (m : Int) := by omega
      obtain rfl : m = k := by omega
      have HT : Hid (s.take m = s) := Lib.hid (List.take_of_length_le (by have := Hl.out; omega))
      rw [HT.out] at hO
      go_wp2
      go_ret
      exact ⟨_, _, _, rfl, hO, hE⟩

set_option maxRecDepth 100000 in
set_option maxHeartbeats 800000 in
theorem stb_asks (b3 : Nat) (x : Nat) (p : List (List Int)) (w : World) (hp : ∀ q, q ∈ p → x < q.length) (hc : w.cell? ⟨b3, 0, none⟩ = some (.int .i64 x)) :
    Asks 73 #[.pointer (some ⟨b3, 0, none⟩)] p (stF x) w := by
  intro i q a n c w1 hi hE hq
  have hc1 := hE.cell hc
  have hb1 := hq.le
  have hb2 := hq.max
  have hxn : x < n := by rw [hq.len]; exact hp q (List.mem_of_getElem? hi)
  have hzx : (x : Int) < (n : Int) := by omega
  obtain ⟨b, o, rfl, hc2⟩ := hq.gi hxn
  clear hq hc hi
  show Calls Try.prog 73 #[.slice (some ⟨b, o, none⟩) n c, .pointer (some ⟨b3, 0, none⟩)] w1 _
  go_enter Try.func73, Try.ntmps73
  go_wp2_with fail
  go_quiet (fail)
  go_wp2
  go_ret
  exact ⟨rfl, (Ext.refl _).drewN _⟩

set_option maxRecDepth 100000 in
set_option maxHeartbeats 1600000 in
theorem sst_asks (b3 : Nat) (a2 : Option Addr) (m d : Nat) (s : List Int) (z : Nat) (p : List (List Int)) (w : World) (hp : ∀ q, q ∈ p → q.length = z ∧ IsPerm q) (hz : z ≤ 32) (hs : RdI w a2 m d s) (hr : Rises s 0 ((z : Int) - 1)) (hc : w.cell? ⟨b3, 0, none⟩ = some (.slice a2 m d)) :
    Asks 58 #[.pointer (some ⟨b3, 0, none⟩)] p (ssF s) w := by
  intro i q a n c w1 hi hE hq
  have hc1 := hE.cell hc
  have Hq := Lib.hid (hp q (List.mem_of_getElem? hi))
  have hsw := hs.ext hE
  have Hr := Lib.hid hr
  clear hc hi hr
  obtain ⟨M, hM⟩ : ∃ M, (imgL q s).mergeSort leb = M := ⟨_, rfl⟩
  obtain ⟨v, hv⟩ : ∃ v, decide (M = s) = v := ⟨_, rfl⟩
  have kimg : ∀ wz, Ext w1 wz → Calls Try.prog 60 #[.slice a n c, .slice a2 m d] wz (RetI wz M) := fun wz hwz => by
    have := image_any a n c q a2 m d s z wz (hq.ext hwz) (hsw.ext hwz) Hq.out.1 Hr.out hz
    rwa [hM] at this
  have HV : Hid (v = ssF s q) := Lib.hid (by rw [← hv, ← hM, img_sort Hq.out.2 Hq.out.1 Hr.out]; rfl)
  have HV0 := Lib.hid hv
  clear hv hM
  show Calls Try.prog 58 #[.slice a n c, .pointer (some ⟨b3, 0, none⟩)] w1 _
  go_enter Try.func58, Try.ntmps58
  go_wp2_with fail
  go_region_held3 (fun w' => w'.cell? ⟨b3, 0, none⟩ = some (.slice a2 m d)) (first | exact hc1 | exact Ext.cell ((Ext.refl _).drew) hc1 | exact Ext.cell (Ext.trans ((Ext.refl _).drew) hE2) hc1 | exact Ext.cell (Ext.trans (Ext.trans ((Ext.refl _).drew) hE2) hQ3.ext) hc1)
    (first
      | (go_at_call 60; refine (kimg _ ((Ext.refl _).drew)).mono ?_; rintro e w2 ⟨a5, n5, c5, rfl, hO5, hE2⟩)
      | (go_at_call 59; refine (slEqual_any a5 a2 n5 c5 m d M s v _ hO5.rdI (hsw.ext (Ext.trans ((Ext.refl _).drew) hE2)) HV0.out).mono ?_; rintro e w3 ⟨rfl, hQ3⟩))
  have hEn := (Ext.trans (Ext.trans ((Ext.refl w1).drew) hE2) hQ3.ext)
  go_wp2
  go_ret
  exact ⟨ret_bool HV.out, hEn⟩

set_option maxRecDepth 100000 in
set_option maxHeartbeats 3200000 in
theorem implStb (z : Int) (a : Option Addr) (n c : Nat) (p : List (List Int)) (x : Int) (w : World) (hx : RdR w a n c p) (_ : p.length + tot p ≤ 1048576) (lo : -9223372036854775808 ≤ z) (hi : z ≤ 9223372036854775807) (lox : -9223372036854775808 ≤ x) (hix : x ≤ 9223372036854775807) :
    Calls Try.prog 42 #[.agg #[.int .i64 z, .slice a n c], .int .i64 x] w (RetDC w (sgZ (soC z p (0 ≤ x ∧ x ≤ z - 1)) z) (sgM (soC z p (0 ≤ x ∧ x ≤ z - 1)) (p.filter (stF x.toNat))) (soC z p (0 ≤ x ∧ x ≤ z - 1))) := by
  have Hl := Lib.hid hx.len
  have hb1 := hx.le
  have hb2 := hx.max
  have hmf : ∀ (fn : Fn) (first cap : Array Value) (w : World), (Instr.makeFunc fn first cap).run Try.prog w = .ok (.func fn first cap) w := fun _ _ _ _ => rfl
  go_enter Try.func42, Try.ntmps42
  go_wp2_with fail
  obtain ⟨W, hW⟩ : ∃ W, (((w.alloc (.cells #[.int .i64 z, .slice a n c] 29)).alloc (.cells #[.int .i64 x] 2)).alloc (.cells #[.int .i64 0, .slice none 0 0] 29)) = W := ⟨_, rfl⟩
  have hEW : Ext w W := by rw [← hW]; exact (((Ext.refl _).alloc _).alloc _).alloc _
  have s1 : W.heap.size = w.heap.size + 3 := by rw [← hW]; simp
  have HB : Hid (W.heap[(w.heap.size + 1 + 1)]? = some (.cells #[.int .i64 0, .slice none 0 0] 29 (0, 0))) := Lib.hid (by
    rw [← hW]
    have := heap_alloc_new ((w.alloc (.cells #[.int .i64 z, .slice a n c] 29)).alloc (.cells #[.int .i64 x] 2)) (.cells #[.int .i64 0, .slice none 0 0] 29)
    rwa [show ((w.alloc (.cells #[.int .i64 z, .slice a n c] 29)).alloc (.cells #[.int .i64 x] 2)).heap.size = (w.heap.size + 1 + 1) by simp] at this)
  have HG : Hid (W.heap[w.heap.size]? = some (.cells #[.int .i64 z, .slice a n c] 29 (0, 0))) := Lib.hid (by
    rw [← hW, heap_alloc_old _ _ (by simp; omega), heap_alloc_old _ _ (by simp)]; exact heap_alloc_new _ _)
  have HX : Hid (W.heap[w.heap.size + 1]? = some (.cells #[.int .i64 x] 2 (0, 0))) := Lib.hid (by
    rw [← hW, heap_alloc_old _ _ (by simp)]
    have := heap_alloc_new (w.alloc (.cells #[.int .i64 z, .slice a n c] 29)) (.cells #[.int .i64 x] 2)
    rwa [show (w.alloc (.cells #[.int .i64 z, .slice a n c] 29)).heap.size = w.heap.size + 1 by simp] at this)
  rw [hW]
  clear hW
  refine (validGroup_any z a n c p _ (hx.ext hEW) lo hi).mono ?_
  rintro e w2 ⟨rfl, hE⟩
  have hEw := hEW.trans hE
  have g0 := cell_blk (k := 0) (heap_ext hE HG.out) rfl
  have g1 := cell_blk (k := 1) (heap_ext hE HG.out) rfl
  have x0 := cell_blk (k := 0) (heap_ext hE HX.out) rfl
  rcases pbc (GrpOk z p) with ⟨hb, Hb⟩ | ⟨hb, Hb⟩
  · rw [hb]
    clear hb
    have hz1 : 1 ≤ z := Hb.out.1.1
    have hz2 : z ≤ 32 := Hb.out.1.2
    have hn2 : n ≤ 720 := by rw [Hl.out]; exact Hb.out.2.1.2
    have Hq : Hid (∀ q, q ∈ p → q.length = z.toNat ∧ IsPerm q) := Lib.hid (fun q hq => by have h1 := Hb.out.2.2.1 q hq; exact ⟨by omega, h1.2.2⟩)
    have Hz := Lib.hid (Int.eq_ofNat_of_zero_le (show 0 ≤ z by omega))
    rcases pbc ((0 ≤ x ∧ x ≤ z - 1)) with ⟨h, H⟩ | ⟨h, H⟩
    · have hC := Lib.hid (sg_yes (z := z) (L := p.filter (stF x.toNat)) (soC_0 Hb.out H.out))
      have Hy : Hid (((x.toNat : Nat) : Int) = x) := Lib.hid (by have := H.out; omega)
      clear h
      go_wp2_with fail
      refine (within_any _ _ _ true (decide_eq_true H.out) _).mono ?_
      rintro e w3 ⟨rfl, rfl⟩
      go_wp2_with fail
      refine (subgroup_any z a n c p _ _ (stF x.toNat) _ (hx.ext hEw) (fun q hq => by rw [(Hq.out q hq).1]; omega) hn2 (enters_of Try.func73 (by kernel_rfl) (by kernel_rfl)) (stb_asks _ x.toNat p _ (fun q hq => by rw [(Hq.out q hq).1]; have := H.out; omega) (by rw [Hy.out]; exact x0))).mono ?_
      rintro e w4 ⟨a4, n4, c4, rs4, rfl, hO4, hE4⟩
      have hE5 := hE.trans hE4
      have nf : ¬ OwnR.fp a4 rs4 ((w.heap.size + 1 + 1)) := fun hf => by have h1 := (hO4.lt hf).1; have h2 := hE.size; omega
      have hsB := hEw.size
      clear g0 g1 x0
      have HBr := heap_ext hE5 HB.out
      have q0 := cell_blk (k := 0) HBr rfl
      have q1 := cell_blk (k := 1) HBr rfl
      have f0 := frozen_blk (k := 0) HBr
      have f1 := frozen_blk (k := 1) HBr
      have HBh := Lib.hid HBr
      clear HBr
      go_wp2
      (try simp only [Exit.inBlock, Exit.then])
      refine bodyPost_ret (results_row_tmp rfl _ _ (w.heap.size + 1 + 1) #[.int .i64 z, .slice a4 n4 c4] rfl (run_loadVar_row _ (w.heap.size + 1 + 1) 29 29 #[.int .i64 z, .slice a4 n4 c4] (0, 0) _ (by first | exact HBh.out | simp [World.setCell, Array.getElem?_modify, HBh.out]) Try.underlying29 rfl (by kernel_rfl))) rfl ?_
      exact RetDC.mk_ (((hO4).setOther (p := ⟨(w.heap.size + 1 + 1), 0, none⟩) (nf) (.int .i64 z)).setOther (p := ⟨(w.heap.size + 1 + 1), 1, none⟩) (nf) (.slice a4 n4 c4)) hsB hC.out.1 hC.out.2.1 hC.out.2.2 (((hEW.trans hE5).setCell (p := ⟨(w.heap.size + 1 + 1), 0, none⟩) (by first | omega | (simp <;> omega)) (.int .i64 z)).setCell (p := ⟨(w.heap.size + 1 + 1), 1, none⟩) (by first | omega | (simp <;> omega)) (.slice a4 n4 c4))
    · have hC := Lib.hid (sg_no (z := z) (L := p.filter (stF x.toNat)) (soC_2 Hb.out H.out) (by decide))
      clear h
      go_wp2_with fail
      refine (within_any _ _ _ false (decide_eq_false H.out) _).mono ?_
      rintro e w3 ⟨rfl, rfl⟩
      clear g0 g1 x0
      have HBr := heap_ext hE HB.out
      have q0 := cell_blk (k := 0) HBr rfl
      have q1 := cell_blk (k := 1) HBr rfl
      have f0 := frozen_blk (k := 0) HBr
      have f1 := frozen_blk (k := 1) HBr
      have HBh := Lib.hid HBr
      clear HBr
      go_wp2
      (try simp only [Exit.inBlock, Exit.then])
      refine bodyPost_ret (results_row_tmp rfl _ _ (w.heap.size + 1 + 1) #[.int .i64 0, .slice none 0 0] rfl (run_loadVar_row _ (w.heap.size + 1 + 1) 29 29 #[.int .i64 0, .slice none 0 0] (0, 0) _ (by first | exact HBh.out | simp [World.setCell, Array.getElem?_modify, HBh.out]) Try.underlying29 rfl (by kernel_rfl))) rfl ?_
      exact RetDC.nil_ hC.out.1 hC.out.2.1 hC.out.2.2 (by first | exact ((hEw).setCell (p := ⟨(w.heap.size + 1 + 1), 0, none⟩) (by first | omega | (simp <;> omega)) (.int .i64 0)).setCell (p := ⟨(w.heap.size + 1 + 1), 1, none⟩) (by first | omega | (simp <;> omega)) (.slice none 0 0) | exact hEw)
  · rw [hb]
    have hC := Lib.hid (sg_no (z := z) (L := p.filter (stF x.toNat)) (soC_1 (P := (0 ≤ x ∧ x ≤ z - 1)) Hb.out) (by decide))
    clear hb g0 g1 x0
    have HBr := heap_ext hE HB.out
    have q0 := cell_blk (k := 0) HBr rfl
    have q1 := cell_blk (k := 1) HBr rfl
    have f0 := frozen_blk (k := 0) HBr
    have f1 := frozen_blk (k := 1) HBr
    have HBh := Lib.hid HBr
    clear HBr
    go_wp2
    (try simp only [Exit.inBlock, Exit.then])
    refine bodyPost_ret (results_row_tmp rfl _ _ (w.heap.size + 1 + 1) #[.int .i64 0, .slice none 0 0] rfl (run_loadVar_row _ (w.heap.size + 1 + 1) 29 29 #[.int .i64 0, .slice none 0 0] (0, 0) _ (by first | exact HBh.out | simp [World.setCell, Array.getElem?_modify, HBh.out]) Try.underlying29 rfl (by kernel_rfl))) rfl ?_
    exact RetDC.nil_ hC.out.1 hC.out.2.1 hC.out.2.2 (by first | exact ((hEw).setCell (p := ⟨(w.heap.size + 1 + 1), 0, none⟩) (by first | omega | (simp <;> omega)) (.int .i64 0)).setCell (p := ⟨(w.heap.size + 1 + 1), 1, none⟩) (by first | omega | (simp <;> omega)) (.slice none 0 0) | exact hEw)

set_option maxRecDepth 100000 in
set_option maxHeartbeats 3200000 in
theorem implSst (z : Int) (a : Option Addr) (n c : Nat) (p : List (List Int)) (a2 : Option Addr) (m d : Nat) (s : List Int) (w : World) (hx : RdR w a n c p) (_ : p.length + tot p ≤ 1048576) (lo : -9223372036854775808 ≤ z) (hi : z ≤ 9223372036854775807) (hs : RdI w a2 m d s) (_ : m ≤ 1048576) :
    Calls Try.prog 29 #[.agg #[.int .i64 z, .slice a n c], .slice a2 m d] w (RetDC w (sgZ (soC z p (Rises s 0 (z - 1))) z) (sgM (soC z p (Rises s 0 (z - 1))) (p.filter (ssF s))) (soC z p (Rises s 0 (z - 1)))) := by
  have Hl := Lib.hid hx.len
  have hb1 := hx.le
  have hb2 := hx.max
  have hmf : ∀ (fn : Fn) (first cap : Array Value) (w : World), (Instr.makeFunc fn first cap).run Try.prog w = .ok (.func fn first cap) w := fun _ _ _ _ => rfl
  go_enter Try.func29, Try.ntmps29
  go_wp2_with fail
  obtain ⟨W, hW⟩ : ∃ W, (((w.alloc (.cells #[.int .i64 z, .slice a n c] 29)).alloc (.cells #[.slice a2 m d] 26)).alloc (.cells #[.int .i64 0, .slice none 0 0] 29)) = W := ⟨_, rfl⟩
  have hEW : Ext w W := by rw [← hW]; exact (((Ext.refl _).alloc _).alloc _).alloc _
  have s1 : W.heap.size = w.heap.size + 3 := by rw [← hW]; simp
  have HB : Hid (W.heap[(w.heap.size + 1 + 1)]? = some (.cells #[.int .i64 0, .slice none 0 0] 29 (0, 0))) := Lib.hid (by
    rw [← hW]
    have := heap_alloc_new ((w.alloc (.cells #[.int .i64 z, .slice a n c] 29)).alloc (.cells #[.slice a2 m d] 26)) (.cells #[.int .i64 0, .slice none 0 0] 29)
    rwa [show ((w.alloc (.cells #[.int .i64 z, .slice a n c] 29)).alloc (.cells #[.slice a2 m d] 26)).heap.size = (w.heap.size + 1 + 1) by simp] at this)
  have HG : Hid (W.heap[w.heap.size]? = some (.cells #[.int .i64 z, .slice a n c] 29 (0, 0))) := Lib.hid (by
    rw [← hW, heap_alloc_old _ _ (by simp; omega), heap_alloc_old _ _ (by simp)]; exact heap_alloc_new _ _)
  have HX : Hid (W.heap[w.heap.size + 1]? = some (.cells #[.slice a2 m d] 26 (0, 0))) := Lib.hid (by
    rw [← hW, heap_alloc_old _ _ (by simp)]
    have := heap_alloc_new (w.alloc (.cells #[.int .i64 z, .slice a n c] 29)) (.cells #[.slice a2 m d] 26)
    rwa [show (w.alloc (.cells #[.int .i64 z, .slice a n c] 29)).heap.size = w.heap.size + 1 by simp] at this)
  rw [hW]
  clear hW
  refine (validGroup_any z a n c p _ (hx.ext hEW) lo hi).mono ?_
  rintro e w2 ⟨rfl, hE⟩
  have hEw := hEW.trans hE
  have g0 := cell_blk (k := 0) (heap_ext hE HG.out) rfl
  have g1 := cell_blk (k := 1) (heap_ext hE HG.out) rfl
  have x0 := cell_blk (k := 0) (heap_ext hE HX.out) rfl
  rcases pbc (GrpOk z p) with ⟨hb, Hb⟩ | ⟨hb, Hb⟩
  · rw [hb]
    clear hb
    have hz1 : 1 ≤ z := Hb.out.1.1
    have hz2 : z ≤ 32 := Hb.out.1.2
    have hn2 : n ≤ 720 := by rw [Hl.out]; exact Hb.out.2.1.2
    have Hq : Hid (∀ q, q ∈ p → q.length = z.toNat ∧ IsPerm q) := Lib.hid (fun q hq => by have h1 := Hb.out.2.2.1 q hq; exact ⟨by omega, h1.2.2⟩)
    have Hz := Lib.hid (Int.eq_ofNat_of_zero_le (show 0 ≤ z by omega))
    rcases pbc (Rises s 0 (z - 1)) with ⟨h, H⟩ | ⟨h, H⟩
    · have hs2 : pb (SetOk s z) = true := pb_true ⟨⟨by omega, by omega⟩, H.out⟩
      have hC := Lib.hid (sg_yes (z := z) (L := p.filter (ssF s)) (soC_0 Hb.out H.out))
      clear h
      go_wp2_with fail
      refine (validSet_any a2 m d s z _ (hs.ext hEw)).mono ?_
      rintro e w3 ⟨rfl, rfl⟩
      rw [hs2]
      clear hs2
      go_wp2_with fail
      refine (subgroup_any z a n c p _ _ (ssF s) _ (hx.ext hEw) (fun q hq => by rw [(Hq.out q hq).1]; omega) hn2 (enters_of Try.func58 (by kernel_rfl) (by kernel_rfl)) (sst_asks _ a2 m d s z.toNat p _ Hq.out (by omega) (hs.ext hEw) (by rw [show ((z.toNat : Nat) : Int) = z by omega]; exact H.out) x0)).mono ?_
      rintro e w4 ⟨a4, n4, c4, rs4, rfl, hO4, hE4⟩
      have hE5 := hE.trans hE4
      have nf : ¬ OwnR.fp a4 rs4 ((w.heap.size + 1 + 1)) := fun hf => by have h1 := (hO4.lt hf).1; have h2 := hE.size; omega
      have hsB := hEw.size
      clear g0 g1 x0
      have HBr := heap_ext hE5 HB.out
      have q0 := cell_blk (k := 0) HBr rfl
      have q1 := cell_blk (k := 1) HBr rfl
      have f0 := frozen_blk (k := 0) HBr
      have f1 := frozen_blk (k := 1) HBr
      have HBh := Lib.hid HBr
      clear HBr
      go_wp2
      (try simp only [Exit.inBlock, Exit.then])
      refine bodyPost_ret (results_row_tmp rfl _ _ (w.heap.size + 1 + 1) #[.int .i64 z, .slice a4 n4 c4] rfl (run_loadVar_row _ (w.heap.size + 1 + 1) 29 29 #[.int .i64 z, .slice a4 n4 c4] (0, 0) _ (by first | exact HBh.out | simp [World.setCell, Array.getElem?_modify, HBh.out]) Try.underlying29 rfl (by kernel_rfl))) rfl ?_
      exact RetDC.mk_ (((hO4).setOther (p := ⟨(w.heap.size + 1 + 1), 0, none⟩) (nf) (.int .i64 z)).setOther (p := ⟨(w.heap.size + 1 + 1), 1, none⟩) (nf) (.slice a4 n4 c4)) hsB hC.out.1 hC.out.2.1 hC.out.2.2 (((hEW.trans hE5).setCell (p := ⟨(w.heap.size + 1 + 1), 0, none⟩) (by first | omega | (simp <;> omega)) (.int .i64 z)).setCell (p := ⟨(w.heap.size + 1 + 1), 1, none⟩) (by first | omega | (simp <;> omega)) (.slice a4 n4 c4))
    · have hC := Lib.hid (sg_no (z := z) (L := p.filter (ssF s)) (soC_2 Hb.out H.out) (by decide))
      clear h
      have hs2 : pb (SetOk s z) = false := pb_false (fun h => H.out h.2)
      go_wp2_with fail
      refine (validSet_any a2 m d s z _ (hs.ext hEw)).mono ?_
      rintro e w3 ⟨rfl, rfl⟩
      rw [hs2]
      clear hs2 g0 g1 x0
      have HBr := heap_ext hE HB.out
      have q0 := cell_blk (k := 0) HBr rfl
      have q1 := cell_blk (k := 1) HBr rfl
      have f0 := frozen_blk (k := 0) HBr
      have f1 := frozen_blk (k := 1) HBr
      have HBh := Lib.hid HBr
      clear HBr
      go_wp2
      (try simp only [Exit.inBlock, Exit.then])
      refine bodyPost_ret (results_row_tmp rfl _ _ (w.heap.size + 1 + 1) #[.int .i64 0, .slice none 0 0] rfl (run_loadVar_row _ (w.heap.size + 1 + 1) 29 29 #[.int .i64 0, .slice none 0 0] (0, 0) _ (by first | exact HBh.out | simp [World.setCell, Array.getElem?_modify, HBh.out]) Try.underlying29 rfl (by kernel_rfl))) rfl ?_
      exact RetDC.nil_ hC.out.1 hC.out.2.1 hC.out.2.2 (by first | exact ((hEw).setCell (p := ⟨(w.heap.size + 1 + 1), 0, none⟩) (by first | omega | (simp <;> omega)) (.int .i64 0)).setCell (p := ⟨(w.heap.size + 1 + 1), 1, none⟩) (by first | omega | (simp <;> omega)) (.slice none 0 0) | exact hEw)
  · rw [hb]
    have hC := Lib.hid (sg_no (z := z) (L := p.filter (ssF s)) (soC_1 (P := Rises s 0 (z - 1)) Hb.out) (by decide))
    clear hb g0 g1 x0
    have HBr := heap_ext hE HB.out
    have q0 := cell_blk (k := 0) HBr rfl
    have q1 := cell_blk (k := 1) HBr rfl
    have f0 := frozen_blk (k := 0) HBr
    have f1 := frozen_blk (k := 1) HBr
    have HBh := Lib.hid HBr
    clear HBr
    go_wp2
    (try simp only [Exit.inBlock, Exit.then])
    refine bodyPost_ret (results_row_tmp rfl _ _ (w.heap.size + 1 + 1) #[.int .i64 0, .slice none 0 0] rfl (run_loadVar_row _ (w.heap.size + 1 + 1) 29 29 #[.int .i64 0, .slice none 0 0] (0, 0) _ (by first | exact HBh.out | simp [World.setCell, Array.getElem?_modify, HBh.out]) Try.underlying29 rfl (by kernel_rfl))) rfl ?_
    exact RetDC.nil_ hC.out.1 hC.out.2.1 hC.out.2.2 (by first | exact ((hEw).setCell (p := ⟨(w.heap.size + 1 + 1), 0, none⟩) (by first | omega | (simp <;> omega)) (.int .i64 0)).setCell (p := ⟨(w.heap.size + 1 + 1), 1, none⟩) (by first | omega | (simp <;> omega)) (.slice none 0 0) | exact hEw)
end Go.Proofs.Ytjlfngnmmmaefaa
namespace Go.Proofs.Ytjlfngnmmmaefaa
open Go.RowKit Go.Sort

set_option maxRecDepth 100000 in
set_option maxHeartbeats 3200000 in
theorem specStb (z : Int) (a : Option Addr) (n c : Nat) (p : List (List Int)) (x : Int) (w : World) (hx : RdR w a n c p) (_ : p.length + tot p ≤ 1048576) (lo : -9223372036854775808 ≤ z) (hi : z ≤ 9223372036854775807) (lox : -9223372036854775808 ≤ x) (hix : x ≤ 9223372036854775807) :
    Calls Try.prog 41 #[.agg #[.int .i64 z, .slice a n c], .int .i64 x] w (RetDC w (sgZ (soC z p (0 ≤ x ∧ x ≤ z - 1)) z) (sgM (soC z p (0 ≤ x ∧ x ≤ z - 1)) (p.filter (stF x.toNat))) (soC z p (0 ≤ x ∧ x ≤ z - 1))) := by
  have Hl := Lib.hid hx.len
  have hb1 := hx.le
  have hb2 := hx.max
  generalize hG0 : soC z p ((0 ≤ x ∧ x ≤ z - 1)) = cc
  have HC0 := Lib.hid hG0
  clear hG0
  go_enter Try.func41, Try.ntmps41
  go_wp2_with fail
  obtain ⟨W, hW⟩ : ∃ W, ((w.alloc (.cells #[.int .i64 z, .slice a n c] 29)).alloc (.cells #[.int .i64 0, .slice none 0 0] 29)) = W := ⟨_, rfl⟩
  have hEW : Ext w W := by rw [← hW]; exact ((Ext.refl _).alloc _).alloc _
  have s1 : W.heap.size = w.heap.size + 2 := by rw [← hW]; simp
  have HB : Hid (W.heap[(w.heap.size + 1)]? = some (.cells #[.int .i64 0, .slice none 0 0] 29 (0, 0))) := Lib.hid (by
    rw [← hW]
    have := heap_alloc_new (w.alloc (.cells #[.int .i64 z, .slice a n c] 29)) (.cells #[.int .i64 0, .slice none 0 0] 29)
    rwa [show (w.alloc (.cells #[.int .i64 z, .slice a n c] 29)).heap.size = (w.heap.size + 1) by simp] at this)
  have HG : Hid (W.heap[w.heap.size]? = some (.cells #[.int .i64 z, .slice a n c] 29 (0, 0))) := Lib.hid (by
    rw [← hW, heap_alloc_old _ _ (by simp)]; exact heap_alloc_new _ _)
  rw [hW]
  clear hW
  have hBx : Bx W w.heap.size z a n c := ⟨cell_blk HG.out rfl, cell_blk HG.out rfl⟩
  refine (l05Ok_any _ z a n c p _ hBx (hx.ext hEW) lo hi).mono ?_
  rintro e w2 ⟨rfl, hE⟩
  have hEw := hEW.trans hE
  have hsB : w.heap.size + 2 ≤ w2.heap.size := by have := hE.size; omega
  have HG2 := Lib.hid (heap_ext hE HG.out)
  have HB2 := Lib.hid (heap_ext hE HB.out)
  have g0 := cell_blk (k := 0) HG2.out rfl
  have g1 := cell_blk (k := 1) HG2.out rfl
  clear hBx HG HB hE hEW s1
  rcases pbc (GrpOk z p) with ⟨hb, Hb⟩ | ⟨hb, Hb⟩
  · rw [hb]
    clear hb
    have hz1 : 1 ≤ z := Hb.out.1.1
    have hz2 : z ≤ 32 := Hb.out.1.2
    have hn2 : n ≤ 720 := by rw [Hl.out]; exact Hb.out.2.1.2
    have Hq : Hid (∀ q, q ∈ p → q.length = z.toNat ∧ IsPerm q) := Lib.hid (fun q hq => by have h1 := Hb.out.2.2.1 q hq; exact ⟨by omega, h1.2.2⟩)
    rcases pbc ((0 ≤ x ∧ x ≤ z - 1)) with ⟨h, H⟩ | ⟨h, H⟩
    · have hC := Lib.hid (sg_yes (z := z) (L := p.filter (stF x.toNat)) (HC0.out.symm.trans (soC_0 Hb.out H.out)))
      clear h
      obtain ⟨y, rfl⟩ := Int.eq_ofNat_of_zero_le H.out.1
      go_wp2_with fail
      refine (l00In_any _ _ _ true (decide_eq_true H.out) _).mono ?_
      rintro e w3 ⟨rfl, rfl⟩
      have hE3 := Ext.refl w2
      have hEw3 := hEw.trans hE3
      have hsB3 : w.heap.size + 2 ≤ w2.heap.size := by have := hE3.size; omega
      have HG3 := Lib.hid (heap_ext hE3 HG2.out)
      have HB3 := Lib.hid (heap_ext hE3 HB2.out)
      clear g0 g1
      have g0 := cell_blk (k := 0) HG3.out rfl
      have g1 := cell_blk (k := 1) HG3.out rfl
      have HO : Hid ((w2.alloc (.cells #[.int .i64 z, .slice none 0 0] 29)).heap[w2.heap.size]? = some (.cells #[.int .i64 z, .slice none 0 0] 29 (0, 0))) := Lib.hid (heap_alloc_new _ _)
      clear HG2 HB2 hE3 hEw hsB
      go_wp2
      go_loopg [7] n (fun g i wr => ∃ (k m : Nat) (ad : Option Addr) (d : Nat) (rs : List Row), k ≤ n ∧ m ≤ k ∧ g = n - k ∧ i = .int .i64 k ∧ OwnR wr (w2.heap.size + 1) ad m d ((p.take k).filter (stF y)) rs ∧ Ext w2 wr ∧ Hid (wr.heap[w2.heap.size]? = some (.cells #[.int .i64 z, .slice ad m d] 29 (0, 0))))
      case atStart => exact ⟨0, 0, none, 0, [], Nat.zero_le _, Nat.le_refl _, rfl, rfl, OwnR.nil_ _ _, (Ext.refl _).alloc _, HO⟩
      case round =>
        clear HO g0 g1
        obtain ⟨k, m, ad, d, rs, hk, hm, rfl, rfl, hO, hE, HBo⟩ := hrel
        have nf : ∀ (w' : World) (ad' : Option Addr) (m' d' : Nat) (L : List (List Int)) (rs' : List Row), OwnR w' (w2.heap.size + 1) ad' m' d' L rs' → ∀ b, b < w2.heap.size + 1 → ¬ OwnR.fp ad' rs' b := fun _ _ _ _ _ _ h b hb hf => by have := (h.lt hf).1; omega
        have g1 := cell_blk (k := 1) (heap_ext hE HG3.out) rfl
        by_cases hlt : k < n
        · have hzk : (k : Int) < (n : Int) := by omega
          obtain ⟨b, o, ai, ni, ci, rfl, hc, hrow⟩ := (hx.ext (hEw3.trans hE)).gr hlt
          have hlp : Hid (k < p.length) := Lib.hid (by rw [← Hl.out]; exact hlt)
          have Hq1 : Hid (ni = z.toNat ∧ IsPerm (gr p k)) := Lib.hid (by have h1 := Hq.out _ (List.mem_of_getElem? (gr_get hlp.out)); exact ⟨by rw [hrow.len]; exact h1.1, h1.2⟩)
          have hni : ni ≤ 32 := by have := Hq1.out.1; omega
          have hbx := hrow.le
          have hbm := hrow.max
          have hyn : y < ni := by have := H.out.2; have := Hq1.out.1; omega
          have hzy : (y : Int) < (ni : Int) := by omega
          obtain ⟨b1, o1, rfl, hcy⟩ := hrow.gi hyn
          obtain ⟨v, hv⟩ : ∃ v, (gi (gr p k) y == (y : Int)) = v := ⟨_, rfl⟩
          have Hv : Hid (stF y (gr p k) = v) := Lib.hid hv
          have HBo2 := HBo
          have hO2 := hO
          have hrow2 := hrow
          have hEw2 := hE
          have hc2 := hc
          clear hO HBo hE hrow hc
          cases v
          · have HF := Lib.hid (filter_no hlp.out Hv.out)
            rw [← HF.out] at hO2
            go_wp2
            go_roundg (n - (k + 1))
            case measure => go_light; omega
            case rel => go_light; exact ⟨k + 1, m, ad, d, rs, by omega, by omega, rfl, by go_num, hO2, hEw2, HBo2⟩
          · have HF := Lib.hid (filter_yes hlp.out Hv.out)
            have q1 : wr.cell? ⟨w2.heap.size, 1, none⟩ = some (.slice ad m d) := cell_blk HBo2.out rfl
            have hmm : m + 1 ≤ 1099511627776 := by omega
            have hszW2 : w2.heap.size + 1 ≤ wr.heap.size := by have := (Array.getElem?_eq_some_iff.1 HBo2.out).1; omega
            go_wp2_with fail
            go_region_law (first | (refine step_app_S (by rfl) _ _ (by rfl) hOA hszA hrA hdA hvA hmm (by rfl) (by rfl) ?_; intro ad' d' w9 hrows honly; have HBo9 := Lib.hid (only_heap honly (Array.getElem?_eq_some_iff.1 HBoA.out).1 (fun h => nf _ _ _ _ _ _ hOA _ (by omega) (.inl h)) HBoA.out); have f9 : w9.frozen? ⟨w2.heap.size, 1, none⟩ = false := frozen_blk HBo9.out; have q9 : w9.cell? ⟨w2.heap.size, 1, none⟩ = some (.slice ad m d) := cell_blk HBo9.out rfl) | (go_simp; go_at_call 55; refine (l00Own_any (some ⟨b1, o1, none⟩) ni ci (gr p k) _ (hrow2.ext ((Ext.refl _).drew)) (by omega)).mono ?_; rintro e w8 ⟨a8, n8, c8, rfl, hO8, hE8⟩; have hE9 := ((Ext.refl wr).drew).trans hE8; have HBo8 := Lib.hid (heap_ext hE9 HBo2.out); have q8 : w8.cell? ⟨w2.heap.size, 1, none⟩ = some (.slice ad m d) := cell_blk HBo8.out rfl; have l8 : w2.heap.size < w8.heap.size := (Array.getElem?_eq_some_iff.1 HBo8.out).1; have n8' : w2.heap.size ≠ w8.heap.size := Nat.ne_of_lt l8; have hOA := (hO2.ext hE9).ext ((Ext.refl w8).alloc (.cells #[.slice a8 n8 c8] 26)); have hszA : w2.heap.size + 1 ≤ (w8.alloc (.cells #[.slice a8 n8 c8] 26)).heap.size := (by simp; omega); have HBoA := Lib.hid (heap_ext ((Ext.refl w8).alloc (.cells #[.slice a8 n8 c8] 26)) HBo8.out); have hrA := (hO8.ext ((Ext.refl w8).alloc (.cells #[.slice a8 n8 c8] 26))).base (B' := w2.heap.size + 1) (by have := hszW2; simp; omega); have hdA : ∀ g, blk a8 = some g → ¬ OwnR.fp ad rs g := (fun g hg hf => by have h1 := (hO8.lt hg).1; have h2 := (hO2.lt hf).2; simp at h1; omega); have hvA : (w8.alloc (.cells #[.slice a8 n8 c8] 26)).cell? ⟨w8.heap.size, 0, none⟩ = some (.slice a8 n8 c8) := (by simp); have hEA := (hEw2.trans hE9).alloc (.cells #[.slice a8 n8 c8] 26)))
            all_goals (
              have hE6 := hEA.app hOA.top honly (by omega)
              have hE7 := hE6.setCell (p := ⟨w2.heap.size, 1, none⟩) (by simp <;> omega) (.slice ad' (m + 1) d')
              have hO7 := hrows.setOther (p := ⟨w2.heap.size, 1, none⟩) (nf _ _ _ _ _ _ hrows (w2.heap.size) (by omega)) (.slice ad' (m + 1) d')
              rw [← HF.out] at hO7
              have HBo7 := Lib.hid (heap_set (k := 1) (v := .slice ad' (m + 1) d') HBo9.out)
              clear honly hrows hOA hszA hrA hdA hvA hE8 hO8 hE9
              go_wp2
              go_roundg (n - (k + 1))
              case measure => go_light; omega
              case rel => go_light; exact ⟨k + 1, m + 1, ad', d', _, by omega, by omega, rfl, by go_num, hO7, hE7, HBo7⟩)
        · have hzk : ¬ (k : Int) < (n : Int) := by omega
          obtain rfl : n = k := by omega
          have hlp : Hid ((p.take n).filter (stF y) = p.filter (stF y)) := Lib.hid (by rw [List.take_of_length_le (by have := Hl.out; omega)])
          rw [hlp.out] at hO
          have c0 := cell_blk (k := 0) HBo.out rfl
          have c1 := cell_blk (k := 1) HBo.out rfl
          have nf2 := nf _ _ _ _ _ _ hO (w.heap.size + 1) (by omega)
          have hsB4 : w.heap.size ≤ w2.heap.size + 1 := by omega
          have hE4 := hE
          have HBr := heap_ext hE4 HB3.out
          have q0 := cell_blk (k := 0) HBr rfl
          have q1 := cell_blk (k := 1) HBr rfl
          have f0 := frozen_blk (k := 0) HBr
          have f1 := frozen_blk (k := 1) HBr
          have HBh := Lib.hid HBr
          clear HBr
          go_wp2
          (try simp only [Exit.inBlock, Exit.then])
          refine bodyPost_ret (results_row_tmp rfl _ _ (w.heap.size + 1) #[.int .i64 z, .slice ad m d] rfl (run_loadVar_row _ (w.heap.size + 1) 29 29 #[.int .i64 z, .slice ad m d] (0, 0) _ (by first | exact HBh.out | simp [World.setCell, Array.getElem?_modify, HBh.out]) Try.underlying29 rfl (by kernel_rfl))) rfl ?_
          exact RetDC.mk_ (((hO).setOther (p := ⟨(w.heap.size + 1), 0, none⟩) (nf2) (.int .i64 z)).setOther (p := ⟨(w.heap.size + 1), 1, none⟩) (nf2) (.slice ad m d)) hsB4 hC.out.1 hC.out.2.1 hC.out.2.2 (((hEw3.trans hE4).setCell (p := ⟨(w.heap.size + 1), 0, none⟩) (by first | omega | (simp <;> omega)) (.int .i64 z)).setCell (p := ⟨(w.heap.size + 1), 1, none⟩) (by first | omega | (simp <;> omega)) (.slice ad m d))
    · have hC := Lib.hid (sg_no (z := z) (L := p.filter (stF x.toNat)) (HC0.out.symm.trans (soC_2 Hb.out H.out)) (by decide))
      clear h
      go_wp2_with fail
      refine (l00In_any _ _ _ false (decide_eq_false H.out) _).mono ?_
      rintro e w3 ⟨rfl, rfl⟩
      clear g0 g1
      have HBr := HB2.out
      have q0 := cell_blk (k := 0) HBr rfl
      have q1 := cell_blk (k := 1) HBr rfl
      have f0 := frozen_blk (k := 0) HBr
      have f1 := frozen_blk (k := 1) HBr
      have HBh := Lib.hid HBr
      clear HBr
      go_wp2
      (try simp only [Exit.inBlock, Exit.then])
      refine bodyPost_ret (results_row_tmp rfl _ _ (w.heap.size + 1) #[.int .i64 0, .slice none 0 0] rfl (run_loadVar_row _ (w.heap.size + 1) 29 29 #[.int .i64 0, .slice none 0 0] (0, 0) _ (by first | exact HBh.out | simp [World.setCell, Array.getElem?_modify, HBh.out]) Try.underlying29 rfl (by kernel_rfl))) rfl ?_
      exact RetDC.nil_ hC.out.1 hC.out.2.1 hC.out.2.2 (by first | exact ((hEw).setCell (p := ⟨(w.heap.size + 1), 0, none⟩) (by first | omega | (simp <;> omega)) (.int .i64 0)).setCell (p := ⟨(w.heap.size + 1), 1, none⟩) (by first | omega | (simp <;> omega)) (.slice none 0 0) | exact hEw)
  · rw [hb]
    have hC := Lib.hid (sg_no (z := z) (L := p.filter (stF x.toNat)) (HC0.out.symm.trans (soC_1 (P := (0 ≤ x ∧ x ≤ z - 1)) Hb.out)) (by decide))
    clear hb g0 g1
    have HBr := HB2.out
    have q0 := cell_blk (k := 0) HBr rfl
    have q1 := cell_blk (k := 1) HBr rfl
    have f0 := frozen_blk (k := 0) HBr
    have f1 := frozen_blk (k := 1) HBr
    have HBh := Lib.hid HBr
    clear HBr
    go_wp2
    (try simp only [Exit.inBlock, Exit.then])
    refine bodyPost_ret (results_row_tmp rfl _ _ (w.heap.size + 1) #[.int .i64 0, .slice none 0 0] rfl (run_loadVar_row _ (w.heap.size + 1) 29 29 #[.int .i64 0, .slice none 0 0] (0, 0) _ (by first | exact HBh.out | simp [World.setCell, Array.getElem?_modify, HBh.out]) Try.underlying29 rfl (by kernel_rfl))) rfl ?_
    exact RetDC.nil_ hC.out.1 hC.out.2.1 hC.out.2.2 (by first | exact ((hEw).setCell (p := ⟨(w.heap.size + 1), 0, none⟩) (by first | omega | (simp <;> omega)) (.int .i64 0)).setCell (p := ⟨(w.heap.size + 1), 1, none⟩) (by first | omega | (simp <;> omega)) (.slice none 0 0) | exact hEw)

set_option maxRecDepth 100000 in
set_option maxHeartbeats 3200000 in
theorem specSst (z : Int) (a : Option Addr) (n c : Nat) (p : List (List Int)) (a2 : Option Addr) (m2 d2 : Nat) (s : List Int) (w : World) (hx : RdR w a n c p) (_ : p.length + tot p ≤ 1048576) (lo : -9223372036854775808 ≤ z) (hi : z ≤ 9223372036854775807) (hs : RdI w a2 m2 d2 s) (_ : m2 ≤ 1048576) :
    Calls Try.prog 27 #[.agg #[.int .i64 z, .slice a n c], .slice a2 m2 d2] w (RetDC w (sgZ (soC z p (Rises s 0 (z - 1))) z) (sgM (soC z p (Rises s 0 (z - 1))) (p.filter (ssF s))) (soC z p (Rises s 0 (z - 1)))) := by
  have Hl := Lib.hid hx.len
  have hb1 := hx.le
  have hb2 := hx.max
  generalize hG0 : soC z p (Rises s 0 (z - 1)) = cc
  have HC0 := Lib.hid hG0
  clear hG0
  go_enter Try.func27, Try.ntmps27
  go_wp2_with fail
  obtain ⟨W, hW⟩ : ∃ W, ((w.alloc (.cells #[.int .i64 z, .slice a n c] 29)).alloc (.cells #[.int .i64 0, .slice none 0 0] 29)) = W := ⟨_, rfl⟩
  have hEW : Ext w W := by rw [← hW]; exact ((Ext.refl _).alloc _).alloc _
  have s1 : W.heap.size = w.heap.size + 2 := by rw [← hW]; simp
  have HB : Hid (W.heap[(w.heap.size + 1)]? = some (.cells #[.int .i64 0, .slice none 0 0] 29 (0, 0))) := Lib.hid (by
    rw [← hW]
    have := heap_alloc_new (w.alloc (.cells #[.int .i64 z, .slice a n c] 29)) (.cells #[.int .i64 0, .slice none 0 0] 29)
    rwa [show (w.alloc (.cells #[.int .i64 z, .slice a n c] 29)).heap.size = (w.heap.size + 1) by simp] at this)
  have HG : Hid (W.heap[w.heap.size]? = some (.cells #[.int .i64 z, .slice a n c] 29 (0, 0))) := Lib.hid (by
    rw [← hW, heap_alloc_old _ _ (by simp)]; exact heap_alloc_new _ _)
  rw [hW]
  clear hW
  have hBx : Bx W w.heap.size z a n c := ⟨cell_blk HG.out rfl, cell_blk HG.out rfl⟩
  refine (l05Ok_any _ z a n c p _ hBx (hx.ext hEW) lo hi).mono ?_
  rintro e w2 ⟨rfl, hE⟩
  have hEw := hEW.trans hE
  have hsB : w.heap.size + 2 ≤ w2.heap.size := by have := hE.size; omega
  have HG2 := Lib.hid (heap_ext hE HG.out)
  have HB2 := Lib.hid (heap_ext hE HB.out)
  have g0 := cell_blk (k := 0) HG2.out rfl
  have g1 := cell_blk (k := 1) HG2.out rfl
  clear hBx HG HB hE hEW s1
  rcases pbc (GrpOk z p) with ⟨hb, Hb⟩ | ⟨hb, Hb⟩
  · rw [hb]
    clear hb
    have hz1 : 1 ≤ z := Hb.out.1.1
    have hz2 : z ≤ 32 := Hb.out.1.2
    have hn2 : n ≤ 720 := by rw [Hl.out]; exact Hb.out.2.1.2
    have Hq : Hid (∀ q, q ∈ p → q.length = z.toNat ∧ IsPerm q) := Lib.hid (fun q hq => by have h1 := Hb.out.2.2.1 q hq; exact ⟨by omega, h1.2.2⟩)
    rcases pbc (Rises s 0 (z - 1)) with ⟨h, H⟩ | ⟨h, H⟩
    · have hC := Lib.hid (sg_yes (z := z) (L := p.filter (ssF s)) (HC0.out.symm.trans (soC_0 Hb.out H.out)))
      clear h
      have Hrz : Hid (Rises s 0 (((z.toNat : Nat) : Int) - 1)) := Lib.hid (by rw [show ((z.toNat : Nat) : Int) = z by omega]; exact H.out)
      go_wp2_with fail
      refine (l00Rises_any a2 m2 d2 s _ _ _ (hs.ext hEw)).mono ?_
      rintro e w3 ⟨rfl, hQ3⟩
      rw [pb_true H.out]
      have hE3 := hQ3.ext
      have hEw3 := hEw.trans hE3
      have hsB3 : w.heap.size + 2 ≤ w3.heap.size := by have := hE3.size; omega
      have HG3 := Lib.hid (heap_ext hE3 HG2.out)
      have HB3 := Lib.hid (heap_ext hE3 HB2.out)
      clear g0 g1
      have g0 := cell_blk (k := 0) HG3.out rfl
      have g1 := cell_blk (k := 1) HG3.out rfl
      have HO : Hid ((w3.alloc (.cells #[.int .i64 z, .slice none 0 0] 29)).heap[w3.heap.size]? = some (.cells #[.int .i64 z, .slice none 0 0] 29 (0, 0))) := Lib.hid (heap_alloc_new _ _)
      clear HG2 HB2 hE3 hEw hsB
      go_wp2
      go_loopg [7] n (fun g i wr => ∃ (k m : Nat) (ad : Option Addr) (d : Nat) (rs : List Row), k ≤ n ∧ m ≤ k ∧ g = n - k ∧ i = .int .i64 k ∧ OwnR wr (w3.heap.size + 1) ad m d ((p.take k).filter (ssF s)) rs ∧ Ext w3 wr ∧ Hid (wr.heap[w3.heap.size]? = some (.cells #[.int .i64 z, .slice ad m d] 29 (0, 0))))
      case atStart => exact ⟨0, 0, none, 0, [], Nat.zero_le _, Nat.le_refl _, rfl, rfl, OwnR.nil_ _ _, (Ext.refl _).alloc _, HO⟩
      case round =>
        clear HO g0 g1
        obtain ⟨k, m, ad, d, rs, hk, hm, rfl, rfl, hO, hE, HBo⟩ := hrel
        have nf : ∀ (w' : World) (ad' : Option Addr) (m' d' : Nat) (L : List (List Int)) (rs' : List Row), OwnR w' (w3.heap.size + 1) ad' m' d' L rs' → ∀ b, b < w3.heap.size + 1 → ¬ OwnR.fp ad' rs' b := fun _ _ _ _ _ _ h b hb hf => by have := (h.lt hf).1; omega
        have g1 := cell_blk (k := 1) (heap_ext hE HG3.out) rfl
        by_cases hlt : k < n
        · have hzk : (k : Int) < (n : Int) := by omega
          obtain ⟨b, o, ai, ni, ci, rfl, hc, hrow⟩ := (hx.ext (hEw3.trans hE)).gr hlt
          have hlp : Hid (k < p.length) := Lib.hid (by rw [← Hl.out]; exact hlt)
          have Hq1 : Hid (ni = z.toNat ∧ IsPerm (gr p k)) := Lib.hid (by have h1 := Hq.out _ (List.mem_of_getElem? (gr_get hlp.out)); exact ⟨by rw [hrow.len]; exact h1.1, h1.2⟩)
          have hni : ni ≤ 32 := by have := Hq1.out.1; omega
          have hbx := hrow.le
          have hbm := hrow.max
          go_wp2_with fail
          refine (l04Image_any ai ni ci (gr p k) a2 m2 d2 s z.toNat _ hrow (hs.ext (hEw3.trans hE)) (by rw [← hrow.len]; exact Hq1.out.1) Hrz.out (by omega)).mono ?_
          rintro e w5 ⟨a5, n5, c5, rfl, hO5, hE5⟩
          obtain ⟨v, hv⟩ : ∃ v, decide (puts (imgL (gr p k) s) = s) = v := ⟨_, rfl⟩
          have Hv : Hid (ssF s (gr p k) = v) := Lib.hid hv
          have HV := Lib.hid hv
          clear hv g1
          go_wp2_with fail
          refine (l00Same_any a5 a2 n5 c5 m2 d2 _ s v _ hO5.rdI (hs.ext ((hEw3.trans hE).trans hE5)) HV.out).mono ?_
          rintro e w6 ⟨rfl, hQ6⟩
          have hE6 := hE5.trans hQ6.ext
          have HBo2 := Lib.hid (heap_ext hE6 HBo.out)
          have hO2 := hO.ext hE6
          have hrow2 := hrow.ext hE6
          have hEw2 := hE.trans hE6
          have hc2 := hE6.cell hc
          clear hO HBo hE hE6 hE5 hO5 hrow hc hQ6
          have g1 := cell_blk (k := 1) (heap_ext hEw2 HG3.out) rfl
          cases v
          · have HF := Lib.hid (filter_no hlp.out Hv.out)
            rw [← HF.out] at hO2
            go_wp2
            go_roundg (n - (k + 1))
            case measure => go_light; omega
            case rel => go_light; exact ⟨k + 1, m, ad, d, rs, by omega, by omega, rfl, by go_num, hO2, hEw2, HBo2⟩
          · have HF := Lib.hid (filter_yes hlp.out Hv.out)
            have q1 : w6.cell? ⟨w3.heap.size, 1, none⟩ = some (.slice ad m d) := cell_blk HBo2.out rfl
            have hmm : m + 1 ≤ 1099511627776 := by omega
            have hszW2 : w3.heap.size + 1 ≤ w6.heap.size := by have := (Array.getElem?_eq_some_iff.1 HBo2.out).1; omega
            go_wp2_with fail
            go_region_law (first | (refine step_app_S (by rfl) _ _ (by rfl) hOA hszA hrA hdA hvA hmm (by rfl) (by rfl) ?_; intro ad' d' w9 hrows honly; have HBo9 := Lib.hid (only_heap honly (Array.getElem?_eq_some_iff.1 HBoA.out).1 (fun h => nf _ _ _ _ _ _ hOA _ (by omega) (.inl h)) HBoA.out); have f9 : w9.frozen? ⟨w3.heap.size, 1, none⟩ = false := frozen_blk HBo9.out; have q9 : w9.cell? ⟨w3.heap.size, 1, none⟩ = some (.slice ad m d) := cell_blk HBo9.out rfl) | (go_simp; go_at_call 55; refine (l00Own_any ai ni ci (gr p k) _ (hrow2.ext ((Ext.refl _).drew)) (by omega)).mono ?_; rintro e w8 ⟨a8, n8, c8, rfl, hO8, hE8⟩; have hE9 := ((Ext.refl w6).drew).trans hE8; have HBo8 := Lib.hid (heap_ext hE9 HBo2.out); have q8 : w8.cell? ⟨w3.heap.size, 1, none⟩ = some (.slice ad m d) := cell_blk HBo8.out rfl; have l8 : w3.heap.size < w8.heap.size := (Array.getElem?_eq_some_iff.1 HBo8.out).1; have n8' : w3.heap.size ≠ w8.heap.size := Nat.ne_of_lt l8; have hOA := (hO2.ext hE9).ext ((Ext.refl w8).alloc (.cells #[.slice a8 n8 c8] 26)); have hszA : w3.heap.size + 1 ≤ (w8.alloc (.cells #[.slice a8 n8 c8] 26)).heap.size := (by simp; omega); have HBoA := Lib.hid (heap_ext ((Ext.refl w8).alloc (.cells #[.slice a8 n8 c8] 26)) HBo8.out); have hrA := (hO8.ext ((Ext.refl w8).alloc (.cells #[.slice a8 n8 c8] 26))).base (B' := w3.heap.size + 1) (by have := hszW2; simp; omega); have hdA : ∀ g, blk a8 = some g → ¬ OwnR.fp ad rs g := (fun g hg hf => by have h1 := (hO8.lt hg).1; have h2 := (hO2.lt hf).2; simp at h1; omega); have hvA : (w8.alloc (.cells #[.slice a8 n8 c8] 26)).cell? ⟨w8.heap.size, 0, none⟩ = some (.slice a8 n8 c8) := (by simp); have hEA := (hEw2.trans hE9).alloc (.cells #[.slice a8 n8 c8] 26)))
            all_goals (
              have hE6 := hEA.app hOA.top honly (by omega)
              have hE7 := hE6.setCell (p := ⟨w3.heap.size, 1, none⟩) (by simp <;> omega) (.slice ad' (m + 1) d')
              have hO7 := hrows.setOther (p := ⟨w3.heap.size, 1, none⟩) (nf _ _ _ _ _ _ hrows (w3.heap.size) (by omega)) (.slice ad' (m + 1) d')
              rw [← HF.out] at hO7
              have HBo7 := Lib.hid (heap_set (k := 1) (v := .slice ad' (m + 1) d') HBo9.out)
              clear honly hrows hOA hszA hrA hdA hvA hE8 hO8 hE9
              go_wp2
              go_roundg (n - (k + 1))
              case measure => go_light; omega
              case rel => go_light; exact ⟨k + 1, m + 1, ad', d', _, by omega, by omega, rfl, by go_num, hO7, hE7, HBo7⟩)
        · have hzk : ¬ (k : Int) < (n : Int) := by omega
          obtain rfl : n = k := by omega
          have hlp : Hid ((p.take n).filter (ssF s) = p.filter (ssF s)) := Lib.hid (by rw [List.take_of_length_le (by have := Hl.out; omega)])
          rw [hlp.out] at hO
          have c0 := cell_blk (k := 0) HBo.out rfl
          have c1 := cell_blk (k := 1) HBo.out rfl
          have nf2 := nf _ _ _ _ _ _ hO (w.heap.size + 1) (by omega)
          have hsB4 : w.heap.size ≤ w3.heap.size + 1 := by omega
          have hE4 := hE
          have HBr := heap_ext hE4 HB3.out
          have q0 := cell_blk (k := 0) HBr rfl
          have q1 := cell_blk (k := 1) HBr rfl
          have f0 := frozen_blk (k := 0) HBr
          have f1 := frozen_blk (k := 1) HBr
          have HBh := Lib.hid HBr
          clear HBr
          go_wp2
          (try simp only [Exit.inBlock, Exit.then])
          refine bodyPost_ret (results_row_tmp rfl _ _ (w.heap.size + 1) #[.int .i64 z, .slice ad m d] rfl (run_loadVar_row _ (w.heap.size + 1) 29 29 #[.int .i64 z, .slice ad m d] (0, 0) _ (by first | exact HBh.out | simp [World.setCell, Array.getElem?_modify, HBh.out]) Try.underlying29 rfl (by kernel_rfl))) rfl ?_
          exact RetDC.mk_ (((hO).setOther (p := ⟨(w.heap.size + 1), 0, none⟩) (nf2) (.int .i64 z)).setOther (p := ⟨(w.heap.size + 1), 1, none⟩) (nf2) (.slice ad m d)) hsB4 hC.out.1 hC.out.2.1 hC.out.2.2 (((hEw3.trans hE4).setCell (p := ⟨(w.heap.size + 1), 0, none⟩) (by first | omega | (simp <;> omega)) (.int .i64 z)).setCell (p := ⟨(w.heap.size + 1), 1, none⟩) (by first | omega | (simp <;> omega)) (.slice ad m d))
    · have hC := Lib.hid (sg_no (z := z) (L := p.filter (ssF s)) (HC0.out.symm.trans (soC_2 Hb.out H.out)) (by decide))
      clear h
      go_wp2_with fail
      refine (l00Rises_any a2 m2 d2 s _ _ _ (hs.ext hEw)).mono ?_
      rintro e w3 ⟨rfl, hQ3⟩
      rw [pb_false H.out]
      clear g0 g1
      have HBr := heap_ext hQ3.ext HB2.out
      have q0 := cell_blk (k := 0) HBr rfl
      have q1 := cell_blk (k := 1) HBr rfl
      have f0 := frozen_blk (k := 0) HBr
      have f1 := frozen_blk (k := 1) HBr
      have HBh := Lib.hid HBr
      clear HBr
      go_wp2
      (try simp only [Exit.inBlock, Exit.then])
      refine bodyPost_ret (results_row_tmp rfl _ _ (w.heap.size + 1) #[.int .i64 0, .slice none 0 0] rfl (run_loadVar_row _ (w.heap.size + 1) 29 29 #[.int .i64 0, .slice none 0 0] (0, 0) _ (by first | exact HBh.out | simp [World.setCell, Array.getElem?_modify, HBh.out]) Try.underlying29 rfl (by kernel_rfl))) rfl ?_
      exact RetDC.nil_ hC.out.1 hC.out.2.1 hC.out.2.2 (by first | exact (((hEw.trans hQ3.ext)).setCell (p := ⟨(w.heap.size + 1), 0, none⟩) (by first | omega | (simp <;> omega)) (.int .i64 0)).setCell (p := ⟨(w.heap.size + 1), 1, none⟩) (by first | omega | (simp <;> omega)) (.slice none 0 0) | exact (hEw.trans hQ3.ext))
  · rw [hb]
    have hC := Lib.hid (sg_no (z := z) (L := p.filter (ssF s)) (HC0.out.symm.trans (soC_1 (P := Rises s 0 (z - 1)) Hb.out)) (by decide))
    clear hb g0 g1
    have HBr := HB2.out
    have q0 := cell_blk (k := 0) HBr rfl
    have q1 := cell_blk (k := 1) HBr rfl
    have f0 := frozen_blk (k := 0) HBr
    have f1 := frozen_blk (k := 1) HBr
    have HBh := Lib.hid HBr
    clear HBr
    go_wp2
    (try simp only [Exit.inBlock, Exit.then])
    refine bodyPost_ret (results_row_tmp rfl _ _ (w.heap.size + 1) #[.int .i64 0, .slice none 0 0] rfl (run_loadVar_row _ (w.heap.size + 1) 29 29 #[.int .i64 0, .slice none 0 0] (0, 0) _ (by first | exact HBh.out | simp [World.setCell, Array.getElem?_modify, HBh.out]) Try.underlying29 rfl (by kernel_rfl))) rfl ?_
    exact RetDC.nil_ hC.out.1 hC.out.2.1 hC.out.2.2 (by first | exact ((hEw).setCell (p := ⟨(w.heap.size + 1), 0, none⟩) (by first | omega | (simp <;> omega)) (.int .i64 0)).setCell (p := ⟨(w.heap.size + 1), 1, none⟩) (by first | omega | (simp <;> omega)) (.slice none 0 0) | exact hEw)
end Go.Proofs.Ytjlfngnmmmaefaa
