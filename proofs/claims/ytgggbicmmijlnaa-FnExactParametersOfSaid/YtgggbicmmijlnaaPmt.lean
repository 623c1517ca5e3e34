/- ParametersOf of both. Conditions: none. -/
import Derived.Deep.RegionLaw
import Derived.Test.YtgggbicmmijlnaaPrs
import Derived.Test.YtgggbicmmijlnaaRep
import Derived.Test.YtgggbicmmijlnaaRst
import Derived.Test.YtgggbicmmijlnaaDsn
import Derived.Test.YtgggbicmmijlnaaSl
namespace Go.Proofs.Ytgggbicmmijlnaa
open Go.RowKit

/-- Balanced: blocks of one size, and one count for all pairs. -/
def Bal (z : Nat) (p : List (List Int)) : Prop := 2 ≤ z ∧ 1 ≤ p.length ∧ 2 ≤ (gr p 0).length ∧ (∀ i, i < p.length → (gr p i).length = (gr p 0).length) ∧ ∀ i, i < (pcs p z).length → gi (pcs p z) i = gi (pcs p z) 0
def PB (z : Int) (p : List (List Int)) : Prop := DsnOk z p ∧ Bal z.toNat p
noncomputable def parV (z : Int) (p : List (List Int)) : Int := if pb (PB z p) then z else 0
noncomputable def parB (z : Int) (p : List (List Int)) : Int := if pb (PB z p) then (p.length : Int) else 0
noncomputable def parR (z : Int) (p : List (List Int)) : Int := if pb (PB z p) then gi (repOf z.toNat p) 0 else 0
noncomputable def parK (z : Int) (p : List (List Int)) : Int := if pb (PB z p) then ((gr p 0).length : Int) else 0
noncomputable def parL (z : Int) (p : List (List Int)) : Int := if pb (PB z p) then gi (pcs p z.toNat) 0 else 0
noncomputable def parA (z : Int) (p : List (List Int)) : Array Value := #[.int .i64 (parV z p), .int .i64 (parB z p), .int .i64 (parR z p), .int .i64 (parK z p), .int .i64 (parL z p)]
noncomputable def parC (z : Int) (p : List (List Int)) : Int := if pb (DsnOk z p) then (if pb (PB z p) then 0 else 6) else 1
theorem parA_no {z : Int} {p : List (List Int)} (h : ¬ PB z p) : parA z p = #[.int .i64 0, .int .i64 0, .int .i64 0, .int .i64 0, .int .i64 0] := by
  simp [parA, parV, parB, parR, parK, parL, pb_false h]
theorem parA_yes {z : Nat} {p : List (List Int)} (h : PB z p) : parA z p = #[.int .i64 z, .int .i64 p.length, .int .i64 (gi (repOf z p) 0), .int .i64 (gr p 0).length, .int .i64 (gi (pcs p z) 0)] := by
  simp [parA, parV, parB, parR, parK, parL, pb_true h]
theorem pcs_pos {z : Nat} {p : List (List Int)} (h : 2 ≤ z) : 0 < (pcs p z).length := by
  have key : ∀ a, 1 ≤ a → z - 1 ≤ (pcTo p z a).length := by
    intro a
    induction a with
    | zero => intro h; omega
    | succ a ih =>
      intro _
      rw [pcTo, List.length_append, pcIn_length]
      by_cases e : a = 0
      · subst e; omega
      · have := ih (by omega); omega
  have := key z (by omega)
  rw [pcs]; omega
def ParRet (w : World) (z : Int) (p : List (List Int)) (e : Ending) (w' : World) : Prop := e = .returned (.tuple #[.agg (parA z p), .bool (pb (PB z p))]) ∧ Ext w w'
def ParRetC (w : World) (z : Int) (p : List (List Int)) (e : Ending) (w' : World) : Prop := e = .returned (.tuple #[.agg (parA z p), .int .i64 (parC z p)]) ∧ Ext w w'
theorem ParRet.no {w w' : World} {z : Int} {p : List (List Int)} (h : ¬ PB z p) (hE : Ext w w') : ParRet w z p (.returned (.tuple #[.agg #[.int .i64 0, .int .i64 0, .int .i64 0, .int .i64 0, .int .i64 0], .bool false])) w' := ⟨by rw [parA_no h, pb_false h], hE⟩
theorem ParRet.yes {w w' : World} {z n : Nat} {p : List (List Int)} {r k l : Int} (h : PB z p) (hn : n = p.length) (hr : r = gi (repOf z p) 0) (hk : k = (gr p 0).length) (hl : l = gi (pcs p z) 0) (hE : Ext w w') : ParRet w z p (.returned (.tuple #[.agg #[.int .i64 z, .int .i64 n, .int .i64 r, .int .i64 k, .int .i64 l], .bool true])) w' := by
  subst hn hr hk hl
  exact ⟨by rw [parA_yes h, pb_true h], hE⟩

/-- A block of five numbers, written over. -/
def par5 (w : World) (g : Nat) (v1 v2 v3 v4 v5 : Int) : World := ((((w.setCell ⟨g, 0, none⟩ (.int .i64 v1)).setCell ⟨g, 1, none⟩ (.int .i64 v2)).setCell ⟨g, 2, none⟩ (.int .i64 v3)).setCell ⟨g, 3, none⟩ (.int .i64 v4)).setCell ⟨g, 4, none⟩ (.int .i64 v5)
theorem Ext.par5 {w w' : World} {g : Nat} (h : Ext w w') (hg : w.heap.size ≤ g) (v1 v2 v3 v4 v5 : Int) : Ext w (par5 w' g v1 v2 v3 v4 v5) :=
  ((((h.setCell (p := ⟨g, 0, none⟩) hg _).setCell (p := ⟨g, 1, none⟩) hg _).setCell (p := ⟨g, 2, none⟩) hg _).setCell (p := ⟨g, 3, none⟩) hg _).setCell (p := ⟨g, 4, none⟩) hg _
theorem par5_cell {w : World} {g : Nat} {p : Addr} {v : Value} (h : w.cell? p = some v) (hp : p.block ≠ g) {v1 v2 v3 v4 v5 : Int} : (par5 w g v1 v2 v3 v4 v5).cell? p = some v := by
  have hp' : ¬ g = p.block := fun e => hp e.symm
  have e : (par5 w g v1 v2 v3 v4 v5).heap[p.block]? = w.heap[p.block]? := by simp [par5, World.setCell, Array.getElem?_modify, hp']
  rw [World.cell?_of_block (w := w) e]; exact h
theorem five_set {w : World} {g : Nat} {cs : Array Value} {t : TypeId} {x : Nat × Nat} (h : w.heap[g]? = some (.cells cs t x)) (hs : cs.size = 5) (v1 v2 v3 v4 v5 : Int) : (par5 w g v1 v2 v3 v4 v5).heap[g]? = some (.cells #[.int .i64 v1, .int .i64 v2, .int .i64 v3, .int .i64 v4, .int .i64 v5] t x) := by
  rcases cs with ⟨l⟩
  simp only [List.size_toArray] at hs
  match l, hs with
  | [c1, c2, c3, c4, c5], _ => simp [par5, World.setCell, Array.getElem?_modify, h]
def Five (w : World) (g : Nat) : Prop := ∃ cs : Array Value, cs.size = 5 ∧ w.heap[g]? = some (.cells cs 27 (0, 0))
theorem Five.ext {w w' : World} {g : Nat} (h : Five w g) (k : Ext w w') : Five w' g := by
  obtain ⟨cs, h1, h2⟩ := h
  exact ⟨cs, h1, heap_ext k h2⟩
theorem Five.frozen {w : World} {g : Nat} (h : Five w g) (k : Nat) : w.frozen? ⟨g, k, none⟩ = false := by
  obtain ⟨cs, h1, h2⟩ := h
  exact frozen_blk h2
theorem Five.cell {w : World} {g : Nat} (h : Five w g) {k : Nat} (hk : k < 5) : ∃ v, w.cell? ⟨g, k, none⟩ = some v := by
  obtain ⟨cs, h1, h2⟩ := h
  exact ⟨cs[k], cell_blk h2 (by rw [Array.getElem?_eq_getElem])⟩
theorem Five.load {w : World} {g : Nat} (h : Five w g) (v1 v2 v3 v4 v5 : Int) : (loadVar 27 ⟨g, 0, none⟩).run Try.prog (par5 w g v1 v2 v3 v4 v5) = .ok (.agg #[.int .i64 v1, .int .i64 v2, .int .i64 v3, .int .i64 v4, .int .i64 v5]) (par5 w g v1 v2 v3 v4 v5) := by
  obtain ⟨cs, h1, h2⟩ := h
  exact run_loadVar_row _ g 27 27 _ (0, 0) _ (five_set h2 h1 v1 v2 v3 v4 v5) Try.underlying27 rfl (by kernel_rfl)
theorem Bal.eq {z n : Nat} {p : List (List Int)} (h1 : DsnOk z p) (h2 : 2 ≤ z) (hl : n = p.length) (h3 : 0 < n) (h4 : 2 ≤ (gr p 0).length) (h5 : ∀ i, i < n → (gr p i).length = (gr p 0).length) (h6 : ∀ i, i < (pcs p z).length → gi (pcs p z) i = gi (pcs p z) 0) : PB z p :=
  ⟨h1, by rw [Int.toNat_natCast]; exact ⟨h2, by omega, h4, by rw [← hl]; exact h5, h6⟩⟩
theorem repOf_len (z : Nat) (p : List (List Int)) : (repOf z p).length = z := bumps_length _ _
theorem PB.of {z : Nat} {p : List (List Int)} (h : PB z p) : Bal z p := by have := h.2; rwa [Int.toNat_natCast] at this
set_option maxRecDepth 100000 in
set_option maxHeartbeats 3200000 in
theorem parametersOf_any (z : Nat) (a : Option Addr) (n c : Nat) (p : List (List Int)) (w : World) (hx : RdR w a n c p) (hd : DsnOk z p) :
    Calls Try.prog 30 #[.agg #[.int .i64 z, .slice a n c]] w (ParRet w z p) := by
  have hz32 : z ≤ 32 := by have := hd.1; omega
  have hb1 := hx.le
  have hb2 := hx.max
  have Hl := Lib.hid hx.len
  have hn : n ≤ 128 := by rw [Hl.out]; exact hd.2.1
  have Hd := Lib.hid hd
  clear hd
  obtain ⟨W, hW⟩ : ∃ W, ((w.alloc (.cells #[.int .i64 z, .slice a n c] 30)).alloc (.cells #[.int .i64 0, .int .i64 0, .int .i64 0, .int .i64 0, .int .i64 0] 27)) = W := ⟨_, rfl⟩
  have hEW : Ext w W := by rw [← hW]; exact ((Ext.refl _).alloc _).alloc _
  have HG : Hid (W.heap[w.heap.size]? = some (.cells #[.int .i64 z, .slice a n c] 30 (0, 0))) := Lib.hid (by
    rw [← hW, heap_alloc_old _ _ (by simp)]; exact heap_alloc_new _ _)
  have HF : Hid (Five W (w.heap.size + 1)) := Lib.hid ⟨_, rfl, by
    rw [← hW]
    have := heap_alloc_new (w.alloc (.cells #[.int .i64 z, .slice a n c] 30)) (.cells #[.int .i64 0, .int .i64 0, .int .i64 0, .int .i64 0, .int .i64 0] 27)
    rwa [show (w.alloc (.cells #[.int .i64 z, .slice a n c] 30)).heap.size = w.heap.size + 1 by simp] at this⟩
  have g0 : W.cell? ⟨w.heap.size, 0, none⟩ = some (.int .i64 z) := cell_blk (k := 0) HG.out rfl
  have g1 : W.cell? ⟨w.heap.size, 1, none⟩ = some (.slice a n c) := cell_blk (k := 1) HG.out rfl
  go_enter Try.func30, Try.ntmps30
  by_cases hz2 : z < 2
  · have hzd : decide ((z : Int) < 2) = true := decide_eq_true (by omega)
    have hno := Lib.hid (show ¬ PB z p from fun h => by have := h.of.1; omega)
    have c5 := HF.out.ext (Ext.refl _)
    have HC5 := Lib.hid c5
    have f0 := c5.frozen 0
    have f1 := c5.frozen 1
    have f2 := c5.frozen 2
    have f3 := c5.frozen 3
    have f4 := c5.frozen 4
    obtain ⟨v0, k0⟩ := c5.cell (k := 0) (by omega)
    obtain ⟨v1, k1⟩ := c5.cell (k := 1) (by omega)
    obtain ⟨v2, k2⟩ := c5.cell (k := 2) (by omega)
    obtain ⟨v3, k3⟩ := c5.cell (k := 3) (by omega)
    obtain ⟨v4, k4⟩ := c5.cell (k := 4) (by omega)
    clear c5
    go_wp2
    (try simp only [Exit.inBlock, Exit.then])
    refine bodyPost_ret (results_row_tmp rfl _ _ (w.heap.size + 1) #[.int .i64 0, .int .i64 0, .int .i64 0, .int .i64 0, .int .i64 0] rfl (HC5.out.load 0 0 0 0 0)) rfl ?_
    exact ParRet.no hno.out ((hEW).par5 (by omega) 0 0 0 0 0)
  · have hzd : decide ((z : Int) < 2) = false := decide_eq_false (by omega)
    have hzd' : ¬ ((z : Int) < 2) := by omega
    by_cases hn0 : n = 0
    · have he : ((n : Int) == 0) = true := by simp [hn0]
      have hno := Lib.hid (show ¬ PB z p from fun h => by have := h.of.2.1; have := Hl.out; omega)
      clear hn0
      have c5 := HF.out.ext (Ext.refl _)
      have HC5 := Lib.hid c5
      have f0 := c5.frozen 0
      have f1 := c5.frozen 1
      have f2 := c5.frozen 2
      have f3 := c5.frozen 3
      have f4 := c5.frozen 4
      obtain ⟨v0, k0⟩ := c5.cell (k := 0) (by omega)
      obtain ⟨v1, k1⟩ := c5.cell (k := 1) (by omega)
      obtain ⟨v2, k2⟩ := c5.cell (k := 2) (by omega)
      obtain ⟨v3, k3⟩ := c5.cell (k := 3) (by omega)
      obtain ⟨v4, k4⟩ := c5.cell (k := 4) (by omega)
      clear c5
      go_wp2
      (try simp only [Exit.inBlock, Exit.then])
      refine bodyPost_ret (results_row_tmp rfl _ _ (w.heap.size + 1) #[.int .i64 0, .int .i64 0, .int .i64 0, .int .i64 0, .int .i64 0] rfl (HC5.out.load 0 0 0 0 0)) rfl ?_
      exact ParRet.no hno.out ((hEW).par5 (by omega) 0 0 0 0 0)
    · have he : ((n : Int) == 0) = false := by simp [hn0]
      have hnz : (0 : Int) < (n : Int) := by omega
      have hnn : 0 < n := by omega
      obtain ⟨b, o, ai, ni, ci, rfl, hc0w, hrow0w⟩ := hx.gr hnn
      rw [Nat.add_zero] at hc0w
      have hc0 := hEW.cell hc0w
      have Hni := Lib.hid hrow0w.len
      have hbi1 := hrow0w.le
      have hbi2 := hrow0w.max
      by_cases hni2 : ni < 2
      · have hnd : decide ((ni : Int) < 2) = true := decide_eq_true (by omega)
        have hno := Lib.hid (show ¬ PB z p from fun h => by have := h.of.2.2.1; have := Hni.out; omega)
        clear hrow0w hn0 hni2
        have c5 := HF.out.ext (Ext.refl _)
        have HC5 := Lib.hid c5
        have f0 := c5.frozen 0
        have f1 := c5.frozen 1
        have f2 := c5.frozen 2
        have f3 := c5.frozen 3
        have f4 := c5.frozen 4
        obtain ⟨v0, k0⟩ := c5.cell (k := 0) (by omega)
        obtain ⟨v1, k1⟩ := c5.cell (k := 1) (by omega)
        obtain ⟨v2, k2⟩ := c5.cell (k := 2) (by omega)
        obtain ⟨v3, k3⟩ := c5.cell (k := 3) (by omega)
        obtain ⟨v4, k4⟩ := c5.cell (k := 4) (by omega)
        clear c5
        go_wp2
        (try simp only [Exit.inBlock, Exit.then])
        refine bodyPost_ret (results_row_tmp rfl _ _ (w.heap.size + 1) #[.int .i64 0, .int .i64 0, .int .i64 0, .int .i64 0, .int .i64 0] rfl (HC5.out.load 0 0 0 0 0)) rfl ?_
        exact ParRet.no hno.out ((hEW).par5 (by omega) 0 0 0 0 0)
      · have hnd : decide ((ni : Int) < 2) = false := decide_eq_false (by omega)
        have hnd' : ¬ ((ni : Int) < 2) := by omega
        have hni32 : ni ≤ 32 := by
          rw [Hni.out]
          exact Nat.le_trans (Hd.out.2.2.1 0 (by rw [← Hl.out]; exact hnn)).len hz32
        clear hrow0w
        go_wp2_with fail
        clear hW
        refine (pairCounts_any z _ n c p _ (hx.ext hEW) Hd.out).mono ?_
        rintro e w3 ⟨a4, m4, c4, rfl, hO4, hE3⟩
        have HG3 := Lib.hid (heap_ext hE3 HG.out)
        have HF3 := Lib.hid (HF.out.ext hE3)
        have hEw := hEW.trans hE3
        have hm4 : 0 < m4 := by rw [hO4.len]; exact pcs_pos (by omega)
        have hmz : (0 : Int) < (m4 : Int) := by omega
        have hm4' : m4 ≤ 1024 := by rw [hO4.len]; exact pcs_len hz32
        have HM4 := Lib.hid hO4.len
        have hrd4 := hO4.rdI
        have H4 : Hid (∀ g, blk a4 = some g → g ≠ w.heap.size + 1) := Lib.hid (fun g hg e => by have h1 := (hO4.lt hg).1; obtain ⟨cs, _, h2⟩ := HF.out; have h3 := (Array.getElem?_eq_some_iff.1 h2).1; omega)
        have hbm1 := hrd4.le
        have hbm2 := hrd4.max
        have hx3 := hx.ext hEw
        have hc3 := hE3.cell hc0
        have q1 : w3.cell? ⟨w.heap.size, 1, none⟩ = some (.slice (some ⟨b, o, none⟩) n c) := cell_blk (k := 1) HG3.out rfl
        have q0 : w3.cell? ⟨w.heap.size, 0, none⟩ = some (.int .i64 z) := cell_blk (k := 0) HG3.out rfl
        clear hO4 g0 g1 hc0 hE3 HG HF
        go_wp2
        go_loopg [32] n (fun gh ix wr => ∃ k : Nat, k ≤ n ∧ gh = n - k ∧ ix = .int .i64 k ∧ wr = w3 ∧ Hid (∀ i, i < k → (gr p i).length = (gr p 0).length))
        case atStart => exact ⟨0, Nat.zero_le _, rfl, rfl, rfl, Lib.hid (fun i h => absurd h (Nat.not_lt_zero _))⟩
        case round =>
          obtain ⟨k, hk, rfl, rfl, rfl, HK⟩ := hrel
          by_cases hlt : k < n
          · have hzk : (k : Int) < (n : Int) := by omega
            obtain ⟨b', o', ak, nk, ck, hh, hck, hrowk⟩ := hx3.gr hlt
            cases hh
            have Hnk := Lib.hid hrowk.len
            have hnk32 : nk ≤ 32 := by
              rw [Hnk.out]
              exact Nat.le_trans (Hd.out.2.2.1 k (by rw [← Hl.out]; exact hlt)).len hz32
            clear hrowk
            by_cases he1 : nk = ni
            · have heb : ((nk : Int) != (ni : Int)) = false := by simp [he1]
              have HK2 : Hid (∀ i, i < k + 1 → (gr p i).length = (gr p 0).length) := Lib.hid (fun i hi => by
                by_cases e : i = k
                · subst e; rw [← Hnk.out, ← Hni.out]; exact he1
                · exact HK.out i (by omega))
              clear he1
              go_wp2
              go_roundg (n - (k + 1))
              case measure => go_light; omega
              case rel => go_light; exact ⟨k + 1, by omega, rfl, by go_num, rfl, HK2⟩
            · have heb : ((nk : Int) != (ni : Int)) = true := by simp; omega
              have hno := Lib.hid (show ¬ PB z p from fun h => by have := h.of.2.2.2.1 k (by rw [← Hl.out]; exact hlt); rw [← Hnk.out, ← Hni.out] at this; exact he1 this)
              clear he1
              have c5 := HF3.out.ext (Ext.refl _)
              have HC5 := Lib.hid c5
              have f0 := c5.frozen 0
              have f1 := c5.frozen 1
              have f2 := c5.frozen 2
              have f3 := c5.frozen 3
              have f4 := c5.frozen 4
              obtain ⟨v0, k0⟩ := c5.cell (k := 0) (by omega)
              obtain ⟨v1, k1⟩ := c5.cell (k := 1) (by omega)
              obtain ⟨v2, k2⟩ := c5.cell (k := 2) (by omega)
              obtain ⟨v3, k3⟩ := c5.cell (k := 3) (by omega)
              obtain ⟨v4, k4⟩ := c5.cell (k := 4) (by omega)
              clear c5
              go_wp2
              (try simp only [Exit.inBlock, Exit.then])
              refine bodyPost_ret (results_row_tmp rfl _ _ (w.heap.size + 1) #[.int .i64 0, .int .i64 0, .int .i64 0, .int .i64 0, .int .i64 0] rfl (HC5.out.load 0 0 0 0 0)) rfl ?_
              exact ParRet.no hno.out ((hEw).par5 (by omega) 0 0 0 0 0)
          · have hzk : ¬ (k : Int) < (n : Int) := by omega
            obtain rfl : n = k := by omega
            go_wp2
            go_loopg [48] m4 (fun gh ix wr' => ∃ k : Nat, k ≤ m4 ∧ gh = m4 - k ∧ ix = .int .i64 k ∧ wr' = wr ∧ Hid (∀ i, i < k → gi (pcs p z) i = gi (pcs p z) 0))
            case atStart => exact ⟨0, Nat.zero_le _, rfl, rfl, rfl, Lib.hid (fun i h => absurd h (Nat.not_lt_zero _))⟩
            case round =>
              obtain ⟨k, hk, rfl, rfl, rfl, HJ⟩ := hrel
              obtain ⟨b4, o4, rfl, hc40⟩ := hrd4.gi hm4
              rw [Nat.add_zero] at hc40
              by_cases hlt : k < m4
              · have hzk : (k : Int) < (m4 : Int) := by omega
                obtain ⟨b4', o4', hh, hc4k⟩ := hrd4.gi hlt
                cases hh
                by_cases he1 : gi (pcs p z) k = gi (pcs p z) 0
                · have heb : (gi (pcs p z) k != gi (pcs p z) 0) = false := by simp [he1]
                  have HJ2 : Hid (∀ i, i < k + 1 → gi (pcs p z) i = gi (pcs p z) 0) := Lib.hid (fun i hi => by
                    by_cases e : i = k
                    · subst e; exact he1
                    · exact HJ.out i (by omega))
                  clear he1
                  go_wp2
                  go_roundg (m4 - (k + 1))
                  case measure => go_light; omega
                  case rel => go_light; exact ⟨k + 1, by omega, rfl, by go_num, rfl, HJ2⟩
                · have heb : (gi (pcs p z) k != gi (pcs p z) 0) = true := by simp [he1]
                  have hno := Lib.hid (show ¬ PB z p from fun h => he1 (h.of.2.2.2.2 k (by rw [← HM4.out]; exact hlt)))
                  clear he1
                  have c5 := HF3.out.ext (Ext.refl _)
                  have HC5 := Lib.hid c5
                  have f0 := c5.frozen 0
                  have f1 := c5.frozen 1
                  have f2 := c5.frozen 2
                  have f3 := c5.frozen 3
                  have f4 := c5.frozen 4
                  obtain ⟨v0, k0⟩ := c5.cell (k := 0) (by omega)
                  obtain ⟨v1, k1⟩ := c5.cell (k := 1) (by omega)
                  obtain ⟨v2, k2⟩ := c5.cell (k := 2) (by omega)
                  obtain ⟨v3, k3⟩ := c5.cell (k := 3) (by omega)
                  obtain ⟨v4, k4⟩ := c5.cell (k := 4) (by omega)
                  clear c5
                  go_wp2
                  (try simp only [Exit.inBlock, Exit.then])
                  refine bodyPost_ret (results_row_tmp rfl _ _ (w.heap.size + 1) #[.int .i64 0, .int .i64 0, .int .i64 0, .int .i64 0, .int .i64 0] rfl (HC5.out.load 0 0 0 0 0)) rfl ?_
                  exact ParRet.no hno.out ((hEw).par5 (by omega) 0 0 0 0 0)
              · have hzk : ¬ (k : Int) < (m4 : Int) := by omega
                obtain rfl : m4 = k := by omega
                have L4pre : b4 ≠ w.heap.size + 1 := fun e => H4.out b4 rfl e
                have hyes := Lib.hid (Bal.eq Hd.out (by omega) Hl.out hnn (by rw [← Hni.out]; omega) HK.out (by rw [← HM4.out]; exact HJ.out))
                go_wp2_with fail
                have L0 : w.heap.size ≠ w.heap.size + 1 := by omega
                have LB : b ≠ w.heap.size + 1 := by have := World.block_lt_of_cell? _ _ hc0w; simp at this; omega
                have L4 : b4 ≠ w.heap.size + 1 := L4pre
                refine wp_region_noPanic ?_
                refine wp_region_held_drew (S := (fun w' => w'.cell? ⟨w.heap.size, 0, none⟩ = some (.int .i64 z) ∧ w'.cell? ⟨w.heap.size, 1, none⟩ = some (.slice (some ⟨b, o, none⟩) n c) ∧ w'.cell? ⟨b, o, none⟩ = some (.slice ai ni ci) ∧ w'.cell? ⟨b4, o4, none⟩ = some (.int .i64 (gi (pcs p z) 0)))) (by kernel_rfl) ⟨Ext.cell ((Ext.refl _).drew) q0, Ext.cell ((Ext.refl _).drew) q1, Ext.cell ((Ext.refl _).drew) hc3, Ext.cell ((Ext.refl _).drew) hc40⟩ (fun hHeld => ?_)
                refine wpAnyH_take (i := 0) (v := .pointer (some ⟨w.heap.size, 0, none⟩)) rfl (by kernel_rfl) (by kernel_rfl) (by kernel_rfl) (fun _ _ _ h => h) (Or.inl ⟨by rfl, fun w hSw => by (try dsimp only at hSw); go_simp⟩) (by assumption) ?_
                try simp only [Act.put, List.setIfInBounds_toArray, List.set_cons_zero, List.set_cons_succ, List.getElem_toArray, List.getElem_cons_zero, List.getElem_cons_succ]
                refine wpAnyH_take (i := 1) (v := .int .i64 z) rfl (by kernel_rfl) (by kernel_rfl) (by kernel_rfl) (fun _ _ _ h => h) (Or.inl ⟨by rfl, fun w hSw => by (try dsimp only at hSw); go_simp⟩) (by assumption) ?_
                try simp only [Act.put, List.setIfInBounds_toArray, List.set_cons_zero, List.set_cons_succ, List.getElem_toArray, List.getElem_cons_zero, List.getElem_cons_succ]
                refine wpAnyH_take (i := 2) (v := .pointer (some ⟨w.heap.size, 1, none⟩)) rfl (by kernel_rfl) (by kernel_rfl) (by kernel_rfl) (fun _ _ _ h => h) (Or.inl ⟨by rfl, fun w hSw => by (try dsimp only at hSw); go_simp⟩) (by assumption) ?_
                try simp only [Act.put, List.setIfInBounds_toArray, List.set_cons_zero, List.set_cons_succ, List.getElem_toArray, List.getElem_cons_zero, List.getElem_cons_succ]
                refine wpAnyH_take (i := 3) (v := .slice (some ⟨b, o, none⟩) n c) rfl (by kernel_rfl) (by kernel_rfl) (by kernel_rfl) (fun _ _ _ h => h) (Or.inl ⟨by rfl, fun w hSw => by (try dsimp only at hSw); go_simp⟩) (by assumption) ?_
                try simp only [Act.put, List.setIfInBounds_toArray, List.set_cons_zero, List.set_cons_succ, List.getElem_toArray, List.getElem_cons_zero, List.getElem_cons_succ]
                refine wpAnyH_take (i := 5) (v := .agg #[.int .i64 z, .slice (some ⟨b, o, none⟩) n c]) rfl (by kernel_rfl) (by kernel_rfl) (by kernel_rfl) (fun _ _ _ h => h) (Or.inl ⟨by rfl, fun w hSw => by (try dsimp only at hSw); go_simp⟩) (by assumption) ?_
                try simp only [Act.put, List.setIfInBounds_toArray, List.set_cons_zero, List.set_cons_succ, List.getElem_toArray, List.getElem_cons_zero, List.getElem_cons_succ]
                refine wpAnyH_take (i := 9) (v := .pointer (some ⟨w.heap.size, 1, none⟩)) rfl (by kernel_rfl) (by kernel_rfl) (by kernel_rfl) (fun _ _ _ h => h) (Or.inl ⟨by rfl, fun w hSw => by (try dsimp only at hSw); go_simp⟩) (by assumption) ?_
                try simp only [Act.put, List.setIfInBounds_toArray, List.set_cons_zero, List.set_cons_succ, List.getElem_toArray, List.getElem_cons_zero, List.getElem_cons_succ]
                refine wpAnyH_take (i := 10) (v := .slice (some ⟨b, o, none⟩) n c) rfl (by kernel_rfl) (by kernel_rfl) (by kernel_rfl) (fun _ _ _ h => h) (Or.inl ⟨by rfl, fun w hSw => by (try dsimp only at hSw); go_simp⟩) (by assumption) ?_
                try simp only [Act.put, List.setIfInBounds_toArray, List.set_cons_zero, List.set_cons_succ, List.getElem_toArray, List.getElem_cons_zero, List.getElem_cons_succ]
                refine wpAnyH_take (i := 11) (v := .pointer (some ⟨b, o, none⟩)) rfl (by kernel_rfl) (by kernel_rfl) (by kernel_rfl) (fun _ _ _ h => h) (Or.inl ⟨by rfl, fun w hSw => by (try dsimp only at hSw); go_simp⟩) (by assumption) ?_
                try simp only [Act.put, List.setIfInBounds_toArray, List.set_cons_zero, List.set_cons_succ, List.getElem_toArray, List.getElem_cons_zero, List.getElem_cons_succ]
                refine wpAnyH_take (i := 12) (v := .slice ai ni ci) rfl (by kernel_rfl) (by kernel_rfl) (by kernel_rfl) (fun _ _ _ h => h) (Or.inl ⟨by rfl, fun w hSw => by (try dsimp only at hSw); go_simp⟩) (by assumption) ?_
                try simp only [Act.put, List.setIfInBounds_toArray, List.set_cons_zero, List.set_cons_succ, List.getElem_toArray, List.getElem_cons_zero, List.getElem_cons_succ]
                refine wpAnyH_take (i := 14) (v := .slice (some ⟨b4, o4, none⟩) m4 c4) rfl (by kernel_rfl) (by kernel_rfl) (by kernel_rfl) (fun _ _ _ h => h) (Or.inl ⟨by rfl, fun w hSw => by (try dsimp only at hSw); go_simp⟩) (by assumption) ?_
                try simp only [Act.put, List.setIfInBounds_toArray, List.set_cons_zero, List.set_cons_succ, List.getElem_toArray, List.getElem_cons_zero, List.getElem_cons_succ]
                refine wpAnyH_take (i := 15) (v := .pointer (some ⟨b4, o4, none⟩)) rfl (by kernel_rfl) (by kernel_rfl) (by kernel_rfl) (fun _ _ _ h => h) (Or.inl ⟨by rfl, fun w hSw => by (try dsimp only at hSw); go_simp⟩) (by assumption) ?_
                try simp only [Act.put, List.setIfInBounds_toArray, List.set_cons_zero, List.set_cons_succ, List.getElem_toArray, List.getElem_cons_zero, List.getElem_cons_succ]
                refine wpAnyH_take (i := 16) (v := .int .i64 (gi (pcs p z) 0)) rfl (by kernel_rfl) (by kernel_rfl) (by kernel_rfl) (fun _ _ _ h => h) (Or.inl ⟨by rfl, fun w hSw => by (try dsimp only at hSw); go_simp⟩) (by assumption) ?_
                try simp only [Act.put, List.setIfInBounds_toArray, List.set_cons_zero, List.set_cons_succ, List.getElem_toArray, List.getElem_cons_zero, List.getElem_cons_succ]
                refine wpAnyH_ready (rs := [4]) (by kernel_rfl) (by simp) ?_
                refine (AllReadyH.cons (o := _) rfl (fun K hK => ?_) AllReadyH.nil)
                · go_simp
                  refine (sizeR_any _ _ _ _).mono ?_
                  rintro e w' ⟨rfl, rfl⟩
                  dsimp only
                  refine hK.out _ _ ⟨Ext.cell ((Ext.refl _).drew) q0, Ext.cell ((Ext.refl _).drew) q1, Ext.cell ((Ext.refl _).drew) hc3, Ext.cell ((Ext.refl _).drew) hc40⟩ (fun hHeld => ?_)
                  clear hK K
                  try simp only [Act.put, List.setIfInBounds_toArray, List.set_cons_zero, List.set_cons_succ, List.getElem_toArray, List.getElem_cons_zero, List.getElem_cons_succ]
                  refine wpAnyH_ready (rs := [6]) (by kernel_rfl) (by simp) ?_
                  refine (AllReadyH.cons (o := _) rfl (fun K hK => ?_) AllReadyH.nil)
                  · go_simp
                    refine (replicationsOf_any z _ n c p _ (hx3.ext ((Ext.refl _).drew)) Hd.out).mono ?_
                    rintro e w9 ⟨a9, m9, c9, rfl, hO9, hE9⟩
                    have h9z := Lib.hid (hO9.len.trans (repOf_len z p))
                    have h9p : 0 < m9 := by have := h9z.out; omega
                    have h9i : (0 : Int) < (m9 : Int) := by omega
                    have h9n : ¬ ((m9 : Int) = 0) := by omega
                    obtain ⟨g9, b9, rfl, _, hc9, _, hx9⟩ := hO9.at_ h9p
                    have H9 := Lib.hid (gi_of hx9.out)
                    have hEd := Ext.trans ((Ext.refl _).drew) hE9
                    have r0 := Ext.cell hEd q0
                    have r1 := Ext.cell hEd q1
                    have r2 := Ext.cell hEd hc3
                    have r3 := Ext.cell hEd hc40
                    have hf9 := Lib.hid (HF3.out.ext hEd)
                    dsimp only
                    refine hK.out _ _ ⟨r0, r1, r2, r3⟩ (fun hHeld => ?_)
                    clear hK K
                    try simp only [Act.put, List.setIfInBounds_toArray, List.set_cons_zero, List.set_cons_succ, List.getElem_toArray, List.getElem_cons_zero, List.getElem_cons_succ]
                    refine wpAnyH_take (i := 7) (v := .pointer (some ⟨g9, 0, none⟩)) rfl (by kernel_rfl) (by kernel_rfl) (by kernel_rfl) (fun _ _ _ h => h) (Or.inl ⟨by rfl, fun w hSw => by (try dsimp only at hSw); go_simp⟩) (by assumption) ?_
                    try simp only [Act.put, List.setIfInBounds_toArray, List.set_cons_zero, List.set_cons_succ, List.getElem_toArray, List.getElem_cons_zero, List.getElem_cons_succ]
                    refine wpAnyH_ready (rs := [8, 13]) (by kernel_rfl) (by simp) ?_
                    refine (AllReadyH.cons (o := _) rfl (fun K hK => ?_) (AllReadyH.cons (o := _) rfl (fun K hK => ?_) AllReadyH.nil))
                    · go_simp
                      refine hK.out _ _ ⟨r0, r1, r2, r3⟩ (fun hHeld => ?_)
                      clear hK K
                      try simp only [Act.put, List.setIfInBounds_toArray, List.set_cons_zero, List.set_cons_succ, List.getElem_toArray, List.getElem_cons_zero, List.getElem_cons_succ]
                      refine wpAnyH_ready (rs := [13]) (by kernel_rfl) (by simp) ?_
                      refine (AllReadyH.cons (o := _) rfl (fun K hK => ?_) AllReadyH.nil)
                      · go_simp
                        refine (sizeI_any _ _ _ _).mono ?_
                        rintro e w' ⟨rfl, rfl⟩
                        dsimp only
                        refine hK.out _ _ ⟨r0, r1, r2, r3⟩ (fun hHeld => ?_)
                        clear hK K
                        try simp only [Act.put, List.setIfInBounds_toArray, List.set_cons_zero, List.set_cons_succ, List.getElem_toArray, List.getElem_cons_zero, List.getElem_cons_succ]
                        refine wpAnyH_take (i := 17) (v := .agg #[.int .i64 z, .int .i64 n, .int .i64 b9, .int .i64 ni, .int .i64 (gi (pcs p z) 0)]) rfl (by kernel_rfl) (by kernel_rfl) (by kernel_rfl) (fun _ _ _ h => h) (Or.inl ⟨by rfl, fun w hSw => by (try dsimp only at hSw); go_simp⟩) (by assumption) ?_
                        try simp only [Act.put, List.setIfInBounds_toArray, List.set_cons_zero, List.set_cons_succ, List.getElem_toArray, List.getElem_cons_zero, List.getElem_cons_succ]
                        refine wpAnyH_ready (rs := [18]) (by kernel_rfl) (by simp) ?_
                        refine (AllReadyH.cons (o := _) rfl (fun K hK => ?_) AllReadyH.nil)
                        · have f0 := hf9.out.frozen 0
                          have f1 := hf9.out.frozen 1
                          have f2 := hf9.out.frozen 2
                          have f3 := hf9.out.frozen 3
                          have f4 := hf9.out.frozen 4
                          obtain ⟨v0, k0⟩ := hf9.out.cell (k := 0) (by omega)
                          obtain ⟨v1, k1⟩ := hf9.out.cell (k := 1) (by omega)
                          obtain ⟨v2, k2⟩ := hf9.out.cell (k := 2) (by omega)
                          obtain ⟨v3, k3⟩ := hf9.out.cell (k := 3) (by omega)
                          obtain ⟨v4, k4⟩ := hf9.out.cell (k := 4) (by omega)
                          go_simp
                          refine hK.out _ _ ⟨par5_cell r0 L0, par5_cell r1 L0, par5_cell r2 LB, par5_cell r3 L4⟩ (fun hHeld => ?_)
                          clear hK K
                          try simp only [Act.put, List.setIfInBounds_toArray, List.set_cons_zero, List.set_cons_succ, List.getElem_toArray, List.getElem_cons_zero, List.getElem_cons_succ]
                          refine wpAnyH_take (i := 19) (v := .bool true) rfl (by kernel_rfl) (by kernel_rfl) (by kernel_rfl) (fun _ _ _ h => h) (Or.inl ⟨by rfl, fun w hSw => by (try dsimp only at hSw); go_simp⟩) (by assumption) ?_
                          try simp only [Act.put, List.setIfInBounds_toArray, List.set_cons_zero, List.set_cons_succ, List.getElem_toArray, List.getElem_cons_zero, List.getElem_cons_succ]
                          refine wpAnyH_done (by kernel_rfl) ?_ _
                          refine NoPanic.normal ?_
                          go_wp2
                          (try simp only [Exit.inBlock, Exit.then])
                          refine bodyPost_ret (results_row_tmp rfl _ _ (w.heap.size + 1) #[.int .i64 z, .int .i64 n, .int .i64 b9, .int .i64 ni, .int .i64 (gi (pcs p z) 0)] rfl (hf9.out.load z n b9 ni (gi (pcs p z) 0))) rfl ?_
                          exact ParRet.yes hyes.out Hl.out H9.out.symm (by rw [Hni.out]) rfl ((hEw.trans hEd).par5 (by omega) _ _ _ _ _)
                    · go_simp
                      refine (sizeI_any _ _ _ _).mono ?_
                      rintro e w' ⟨rfl, rfl⟩
                      dsimp only
                      refine hK.out _ _ ⟨r0, r1, r2, r3⟩ (fun hHeld => ?_)
                      clear hK K
                      try simp only [Act.put, List.setIfInBounds_toArray, List.set_cons_zero, List.set_cons_succ, List.getElem_toArray, List.getElem_cons_zero, List.getElem_cons_succ]
                      refine wpAnyH_ready (rs := [8]) (by kernel_rfl) (by simp) ?_
                      refine (AllReadyH.cons (o := _) rfl (fun K hK => ?_) AllReadyH.nil)
                      · go_simp
                        refine hK.out _ _ ⟨r0, r1, r2, r3⟩ (fun hHeld => ?_)
                        clear hK K
                        try simp only [Act.put, List.setIfInBounds_toArray, List.set_cons_zero, List.set_cons_succ, List.getElem_toArray, List.getElem_cons_zero, List.getElem_cons_succ]
                        refine wpAnyH_take (i := 17) (v := .agg #[.int .i64 z, .int .i64 n, .int .i64 b9, .int .i64 ni, .int .i64 (gi (pcs p z) 0)]) rfl (by kernel_rfl) (by kernel_rfl) (by kernel_rfl) (fun _ _ _ h => h) (Or.inl ⟨by rfl, fun w hSw => by (try dsimp only at hSw); go_simp⟩) (by assumption) ?_
                        try simp only [Act.put, List.setIfInBounds_toArray, List.set_cons_zero, List.set_cons_succ, List.getElem_toArray, List.getElem_cons_zero, List.getElem_cons_succ]
                        refine wpAnyH_ready (rs := [18]) (by kernel_rfl) (by simp) ?_
                        refine (AllReadyH.cons (o := _) rfl (fun K hK => ?_) AllReadyH.nil)
                        · have f0 := hf9.out.frozen 0
                          have f1 := hf9.out.frozen 1
                          have f2 := hf9.out.frozen 2
                          have f3 := hf9.out.frozen 3
                          have f4 := hf9.out.frozen 4
                          obtain ⟨v0, k0⟩ := hf9.out.cell (k := 0) (by omega)
                          obtain ⟨v1, k1⟩ := hf9.out.cell (k := 1) (by omega)
                          obtain ⟨v2, k2⟩ := hf9.out.cell (k := 2) (by omega)
                          obtain ⟨v3, k3⟩ := hf9.out.cell (k := 3) (by omega)
                          obtain ⟨v4, k4⟩ := hf9.out.cell (k := 4) (by omega)
                          go_simp
                          refine hK.out _ _ ⟨par5_cell r0 L0, par5_cell r1 L0, par5_cell r2 LB, par5_cell r3 L4⟩ (fun hHeld => ?_)
                          clear hK K
                          try simp only [Act.put, List.setIfInBounds_toArray, List.set_cons_zero, List.set_cons_succ, List.getElem_toArray, List.getElem_cons_zero, List.getElem_cons_succ]
                          refine wpAnyH_take (i := 19) (v := .bool true) rfl (by kernel_rfl) (by kernel_rfl) (by kernel_rfl) (fun _ _ _ h => h) (Or.inl ⟨by rfl, fun w hSw => by (try dsimp only at hSw); go_simp⟩) (by assumption) ?_
                          try simp only [Act.put, List.setIfInBounds_toArray, List.set_cons_zero, List.set_cons_succ, List.getElem_toArray, List.getElem_cons_zero, List.getElem_cons_succ]
                          refine wpAnyH_done (by kernel_rfl) ?_ _
                          refine NoPanic.normal ?_
                          go_wp2
                          (try simp only [Exit.inBlock, Exit.then])
                          refine bodyPost_ret (results_row_tmp rfl _ _ (w.heap.size + 1) #[.int .i64 z, .int .i64 n, .int .i64 b9, .int .i64 ni, .int .i64 (gi (pcs p z) 0)] rfl (hf9.out.load z n b9 ni (gi (pcs p z) 0))) rfl ?_
                          exact ParRet.yes hyes.out Hl.out H9.out.symm (by rw [Hni.out]) rfl ((hEw.trans hEd).par5 (by omega) _ _ _ _ _)
end Go.Proofs.Ytgggbicmmijlnaa
