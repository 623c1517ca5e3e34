/- Irreducible polynomials and fields by the program. Conditions: none. -/
import Derived.Test.YtgggbicmmijlnaaFld
import Derived.Test.YtgggbicmmijlnaaFld3
import Derived.Test.YtgggbicmmijlnaaRst
namespace Go.Proofs.Ytgggbicmmijlnaa
open Go.RowKit

theorem pow_half {p d k : Nat} (hp : 1 ≤ p) (hk : p ^ k ≤ 64) (hd : d ≤ k) : p ^ d ≤ 64 := Nat.le_trans (Nat.pow_le_pow_right hp hd) hk
set_option maxRecDepth 100000 in
set_option maxHeartbeats 3200000 in
theorem irreducible_any (a : Option Addr) (c : Nat) (x : List Int) (p k : Nat) (w : World) (hx : RdI w a (k + 1) c x) (hxb : Bnd x p) (hp2 : 2 ≤ p) (hp : p ≤ 64) (hk1 : 1 ≤ k) (hk : k ≤ 64) (hpk : p ^ k ≤ 64) :
    Calls Try.prog 79 #[.slice a (k + 1 : Nat) c, .int .i64 p] w fun e w' => e = .returned (.bool (irr x p)) ∧ Ext w w' := by
  have hb1 := hx.le
  have hb2 := hx.max
  have Hl := Lib.hid hx.len
  have HXB := Lib.hid hxb
  have HPK := Lib.hid hpk
  clear hxb hpk
  have e1 : ((k + 1 : Nat) : Int) - 1 = (k : Int) := by omega
  go_enter Try.func79, Try.ntmps79
  go_wp2_with fail
  refine (sizeI_any _ _ _ _).mono ?_
  rintro e w2 ⟨rfl, rfl⟩
  go_wp2
  go_loopg [6] (k + 1) (fun gh dv wr => ∃ d : Nat, 1 ≤ d ∧ d ≤ k + 1 ∧ gh = k + 2 - d ∧ dv = .int .i64 d ∧ Ext w wr ∧ Hid (∀ d', 1 ≤ d' → d' < d → 2 * d' ≤ k → ∀ n, n < p ^ d' → irrAt x p d' n = true))
  case atStart => exact ⟨1, by omega, by omega, by omega, rfl, Ext.refl _, Lib.hid (fun d' h1 h2 => by omega)⟩
  case round =>
    obtain ⟨d, hd1, hdk, rfl, rfl, hE, HD⟩ := hrel
    by_cases hlt : 2 * d ≤ k
    · have hzl : 2 * (d : Int) ≤ (k : Int) := by omega
      have HPD : Hid (p ^ d ≤ 64) := Lib.hid (pow_half (by omega) HPK.out (by omega))
      obtain ⟨P, hP⟩ : ∃ P, p ^ d = P := ⟨_, rfl⟩
      have HPd := Lib.hid hP
      clear hP
      go_wp2
      go_loopg [7] P (fun gh nv wi => ∃ m : Nat, m ≤ P ∧ gh = P - m ∧ nv = .int .i64 m ∧ Ext w wi ∧ Hid (∀ n, n < m → irrAt x p d n = true))
      case atStart => exact ⟨0, Nat.zero_le _, rfl, rfl, hE, Lib.hid (fun n h => absurd h (Nat.not_lt_zero _))⟩
      case round =>
        clear hE
        obtain ⟨m, hm, rfl, rfl, hE, HN⟩ := hrel
        have hP64 : P ≤ 64 := by rw [← HPd.out]; exact HPD.out
        go_wp2_with fail
        refine (powerUpTo_any p d _ (by omega) (by omega) HPD.out hp).mono ?_
        rintro e w3 ⟨rfl, rfl⟩
        rw [HPd.out]
        by_cases hlm : m < P
        · have hzm : (m : Int) < (P : Int) := by omega
          go_wp2_with fail
          refine (digitsOf_any m p d _ (by omega) (by omega) (by omega) (by omega)).mono ?_
          rintro e w4 ⟨a4, n4, c4, rfl, hO, hE4⟩
          have Hn4 : Hid (n4 = d) := Lib.hid (by rw [hO.len, digs_len])
          have hn4 : n4 ≤ 64 := by rw [Hn4.out]; omega
          have hE5 := hE.trans hE4
          have hO5 := hO.base (B' := w.heap.size) hE.size
          have hsz := hE5.size
          clear hO hE hE4
          go_wp2_with (at_builtin; refine app_I rfl _ _ rfl hO5 hsz rfl (by omega) rfl rfl ?_; intro ad' d' w6 hrow honly hmv)
          have hE6 := hE5.app hO5 honly (Nat.le_refl _)
          have HB6 : Hid (Bnd (digs m p d ++ [1]) p) := Lib.hid ((digs_bnd (by omega)).snoc (by omega))
          clear hO5 hE5 honly hmv hsz
          refine (remainder_any a (k + 1) c x ad' (n4 + 1) d' (digs m p d ++ [1]) p _ (hx.ext hE6) hrow.rdI HXB.out HB6.out (by omega) hp (by rw [Hn4.out]; omega) (by rw [Hn4.out]; omega) (by omega)).mono ?_
          rintro e w7 ⟨a7, n7, c7, rfl, hO7, hE7⟩
          go_wp2_with fail
          refine (isZero_any a7 n7 c7 (rest x (digs m p d ++ [1]) p) _ hO7.rdI).mono ?_
          rintro e w8 ⟨rfl, rfl⟩
          have hE8 := hE6.trans hE7
          obtain ⟨v, hv⟩ : ∃ v, irrAt x p d m = v := ⟨_, rfl⟩
          have HV := Lib.hid hv
          rw [irrAt] at hv
          rw [hv]
          clear hv hrow hE6 hO7 hE7
          cases v
          · have HR := Lib.hid (irr_no (poly := x) (p := p) hd1 (by rw [← Hl.out]; omega) (by rw [HPd.out]; exact hlm) HV.out)
            go_wp2
            go_ret
            exact ⟨by rw [HR.out]; rfl, hE8⟩
          · have HN2 : Hid (∀ n, n < m + 1 → irrAt x p d n = true) := Lib.hid (fun n hn => by
              by_cases e : n = m
              · subst e; exact HV.out
              · exact HN.out n (by omega))
            go_wp2
            go_roundg (P - (m + 1))
            case measure => go_light; omega
            case rel => go_light; exact ⟨m + 1, by omega, rfl, by go_num, hE8, HN2⟩
        · have hzm : ¬ (m : Int) < (P : Int) := by omega
          obtain rfl : m = P := by omega
          have HD2 : Hid (∀ d', 1 ≤ d' → d' < d + 1 → 2 * d' ≤ k → ∀ n, n < p ^ d' → irrAt x p d' n = true) := Lib.hid (fun d' h1 h2 h3 n hn => by
            by_cases e : d' = d
            · subst e; exact HN.out n (by rw [← HPd.out]; exact hn)
            · exact HD.out d' h1 (by omega) h3 n hn)
          go_wp2
          go_roundg (k + 2 - (d + 1))
          case measure => go_light; omega
          case rel => go_light; exact ⟨d + 1, by omega, by omega, rfl, by go_num, hE, HD2⟩
    · have hzl : ¬ 2 * (d : Int) ≤ (k : Int) := by omega
      have HR := Lib.hid (irr_yes (poly := x) (p := p) (fun d' n h1 h2 h3 => HD.out d' h1 (by rw [← Hl.out] at h2; omega) (by rw [← Hl.out] at h2; omega) n h3))
      go_wp2
      go_ret
      exact ⟨by rw [HR.out]; rfl, hE⟩

/-! ### a block of a field -/
def put3 (w : World) (g : Nat) (v1 v2 v3 : Value) : World := ((w.setCell ⟨g, 0, none⟩ v1).setCell ⟨g, 1, none⟩ v2).setCell ⟨g, 2, none⟩ v3
theorem Ext.put3 {w w' : World} {g : Nat} (h : Ext w w') (hg : w.heap.size ≤ g) (v1 v2 v3 : Value) : Ext w (put3 w' g v1 v2 v3) :=
  ((h.setCell (p := ⟨g, 0, none⟩) hg _).setCell (p := ⟨g, 1, none⟩) hg _).setCell (p := ⟨g, 2, none⟩) hg _
def Three (w : World) (g : Nat) : Prop := ∃ cs : Array Value, cs.size = 3 ∧ w.heap[g]? = some (.cells cs 67 (0, 0))
theorem three_set {w : World} {g : Nat} {cs : Array Value} {t : TypeId} {x : Nat × Nat} (h : w.heap[g]? = some (.cells cs t x)) (hs : cs.size = 3) (v1 v2 v3 : Value) : (put3 w g v1 v2 v3).heap[g]? = some (.cells #[v1, v2, v3] t x) := by
  rcases cs with ⟨l⟩
  simp only [List.size_toArray] at hs
  match l, hs with
  | [c1, c2, c3], _ => simp [put3, World.setCell, Array.getElem?_modify, h]
theorem Three.ext {w w' : World} {g : Nat} (h : Three w g) (k : Ext w w') : Three w' g := by
  obtain ⟨cs, h1, h2⟩ := h
  exact ⟨cs, h1, heap_ext k h2⟩
theorem Three.frozen {w : World} {g : Nat} (h : Three w g) (k : Nat) : w.frozen? ⟨g, k, none⟩ = false := by
  obtain ⟨cs, h1, h2⟩ := h
  exact frozen_blk h2
theorem Three.cell {w : World} {g : Nat} (h : Three w g) {k : Nat} (hk : k < 3) : ∃ v, w.cell? ⟨g, k, none⟩ = some v := by
  obtain ⟨cs, h1, h2⟩ := h
  exact ⟨cs[k], cell_blk h2 (by rw [Array.getElem?_eq_getElem])⟩
theorem Three.lt {w : World} {g : Nat} (h : Three w g) : g < w.heap.size := by
  obtain ⟨cs, h1, h2⟩ := h
  exact (Array.getElem?_eq_some_iff.1 h2).1
theorem Three.load {w : World} {g : Nat} (h : Three w g) (v1 v2 v3 : Value) : (loadVar 67 ⟨g, 0, none⟩).run Try.prog (put3 w g v1 v2 v3) = .ok (.agg #[v1, v2, v3]) (put3 w g v1 v2 v3) := by
  obtain ⟨cs, h1, h2⟩ := h
  exact run_loadVar_row _ g 67 67 _ (0, 0) _ (three_set h2 h1 v1 v2 v3) Try.underlying67 rfl (by kernel_rfl)
theorem only_put3 {w : World} {g : Nat} {v1 v2 v3 : Value} : Only (fun b => b = g) w (put3 w g v1 v2 v3) := by
  have h0 := Only.refl (fun b => b = g) w
  have h1 := h0.setCell (p := ⟨g, 0, none⟩) rfl v1
  have h2 := h1.setCell (p := ⟨g, 1, none⟩) rfl v2
  exact h2.setCell (p := ⟨g, 2, none⟩) rfl v3

def MfNo (w : World) (e : Ending) (w' : World) : Prop := e = .returned (.tuple #[.agg #[.int .i64 0, .int .i64 0, .slice none 0 0], .int .i64 2]) ∧ Ext w w'
def MfYes (w : World) (p k : Nat) (e : Ending) (w' : World) : Prop := ∃ a n c, e = .returned (.tuple #[.agg #[.int .i64 p, .int .i64 k, .slice a n c], .int .i64 0]) ∧ OwnI w' w.heap.size a n c (fpoly p k) ∧ Ext w w'
set_option maxRecDepth 100000 in
set_option maxHeartbeats 3200000 in
theorem makeField_no (z : Int) (w : World) (h : (ppz z).1 = 0 ∨ 64 < z) : Calls Try.prog 49 #[.int .i64 z] w (MfNo w) := by
  obtain ⟨W, hW⟩ : ∃ W, (w.alloc (.cells #[.int .i64 0, .int .i64 0, .slice none 0 0] 67)) = W := ⟨_, rfl⟩
  have hEW : Ext w W := by rw [← hW]; exact (Ext.refl _).alloc _
  have HF : Hid (Three W w.heap.size) := Lib.hid ⟨_, rfl, by rw [← hW]; exact heap_alloc_new _ _⟩
  have Hh := Lib.hid h
  clear h
  go_enter Try.func49, Try.ntmps49
  go_wp2_with fail
  clear hW
  refine (primePower_any z _).mono ?_
  rintro e w2 ⟨rfl, hE⟩
  obtain ⟨P, hP⟩ : ∃ P, (ppz z).1 = P := ⟨_, rfl⟩
  have HP := Lib.hid hP
  rw [hP]
  clear hP
  have c5 := HF.out.ext hE
  have HC5 := Lib.hid c5
  have f0 := c5.frozen 0
  have f1 := c5.frozen 1
  have f2 := c5.frozen 2
  obtain ⟨v0, k0⟩ := c5.cell (k := 0) (by omega)
  obtain ⟨v1, k1⟩ := c5.cell (k := 1) (by omega)
  obtain ⟨v2, k2⟩ := c5.cell (k := 2) (by omega)
  have hE2 := hEW.trans hE
  clear c5
  by_cases hP0 : P = 0
  · have hb : ((P : Int) == 0) = true := by simp [hP0]
    clear hP0
    go_wp2
    (try simp only [Exit.inBlock, Exit.then])
    refine bodyPost_ret (results_row_tmp rfl _ _ w.heap.size #[.int .i64 0, .int .i64 0, .slice none 0 0] rfl (HC5.out.load _ _ _)) rfl ?_
    exact ⟨rfl, hE2.put3 (Nat.le_refl _) _ _ _⟩
  · have hb : ((P : Int) == 0) = false := by simp [hP0]
    have h64 : (64 : Int) < z := by rcases Hh.out with h | h; exact absurd (by rw [← HP.out]; exact h) hP0; exact h
    have h64b : decide ((64 : Int) < z) = true := decide_eq_true h64
    clear hP0
    go_wp2
    (try simp only [Exit.inBlock, Exit.then])
    refine bodyPost_ret (results_row_tmp rfl _ _ w.heap.size #[.int .i64 0, .int .i64 0, .slice none 0 0] rfl (HC5.out.load _ _ _)) rfl ?_
    exact ⟨rfl, hE2.put3 (Nat.le_refl _) _ _ _⟩

set_option maxRecDepth 100000 in
set_option maxHeartbeats 3200000 in
theorem makeField_yes (z : Int) (p k : Nat) (w : World) (hz : z ≤ 64) (hpp : ppz z = (p, k)) (hp2 : 2 ≤ p) (hk1 : 1 ≤ k) (hpk : p ^ k ≤ 64) (hN : leastN p k < 64) : Calls Try.prog 49 #[.int .i64 z] w (MfYes w p k) := by
  obtain ⟨W, hW⟩ : ∃ W, (w.alloc (.cells #[.int .i64 0, .int .i64 0, .slice none 0 0] 67)) = W := ⟨_, rfl⟩
  have hEW : Ext w W := by rw [← hW]; exact (Ext.refl _).alloc _
  have HF : Hid (Three W w.heap.size) := Lib.hid ⟨_, rfl, by rw [← hW]; exact heap_alloc_new _ _⟩
  have HPP := Lib.hid hpp
  have HN := Lib.hid hN
  have HPK := Lib.hid hpk
  have hp64 : p ≤ 64 := Nat.le_trans (by have := Nat.pow_le_pow_right (show 1 ≤ p by omega) hk1; rwa [Nat.pow_one] at this) hpk
  have hk64 : k ≤ 64 := by
    have h1 : k < 2 ^ k := Nat.lt_two_pow_self
    have h2 : 2 ^ k ≤ p ^ k := Nat.pow_le_pow_left hp2 k
    omega
  obtain ⟨N, hNN⟩ : ∃ N, leastN p k = N := ⟨_, rfl⟩
  have HNN := Lib.hid hNN
  have hN64 : N < 64 := by rw [← hNN]; exact hN
  clear hpp hN hpk hNN
  go_enter Try.func49, Try.ntmps49
  go_wp2_with fail
  clear hW
  refine (primePower_any z _).mono ?_
  rintro e w2 ⟨rfl, hE⟩
  rw [HPP.out]
  have hE2 := hEW.trans hE
  have HF2 := Lib.hid (HF.out.ext hE)
  have hb : ((p : Int) == 0) = false := by simp; omega
  have hzb : decide ((64 : Int) < z) = false := decide_eq_false (by omega)
  have hzb' : ¬ (64 : Int) < z := by omega
  go_wp2
  go_loopg [6] (N + 1) (fun gh nv wr => ∃ n : Nat, n ≤ N ∧ gh = N + 1 - n ∧ nv = .int .i64 n ∧ Ext w2 wr)
  case atStart => exact ⟨0, Nat.zero_le _, by omega, rfl, Ext.refl _⟩
  case round =>
    obtain ⟨n, hn, rfl, rfl, hEr⟩ := hrel
    go_wp2_with fail
    refine (digitsOf_any n p k _ (by omega) (by omega) (by omega) (by omega)).mono ?_
    rintro e w4 ⟨a4, n4, c4, rfl, hO, hE4⟩
    obtain rfl : n4 = k := by rw [hO.len, digs_len]
    have hE5 := hEr.trans hE4
    have hO5 := hO.base (B' := w2.heap.size) hEr.size
    have hsz := hE5.size
    clear hO hE4
    go_wp2_with (at_builtin; refine app_I rfl _ _ rfl hO5 hsz rfl (by omega) rfl rfl ?_; intro ad' d' w6 hrow honly hmv)
    have hE6 := hE5.app hO5 honly (Nat.le_refl _)
    have HB6 : Hid (Bnd (digs n p n4 ++ [1]) p) := Lib.hid ((digs_bnd (by omega)).snoc (by omega))
    clear hO5 hE5 honly hmv hsz
    refine (irreducible_any ad' d' (digs n p n4 ++ [1]) p n4 _ hrow.rdI HB6.out hp2 hp64 hk1 hk64 HPK.out).mono ?_
    rintro e w7 ⟨rfl, hE7⟩
    have hE8 := hE6.trans hE7
    clear hrow hE6 hE7
    by_cases hnN : n = N
    · have HI : Hid (irr (digs n p n4 ++ [1]) p = true) := Lib.hid (by rw [hnN, ← HNN.out]; exact (leastN_spec HN.out).1)
      have HL : Hid (digs n p n4 ++ [1] = fpoly p n4) := Lib.hid (by rw [fpoly, HNN.out, hnN])
      rw [HI.out]
      clear hnN
      go_wp2_with fail
      refine (digitsOf_any n p n4 _ (by omega) (by omega) (by omega) (by omega)).mono ?_
      rintro e w9 ⟨a9, n9, c9, rfl, hO, hE9⟩
      obtain rfl : n9 = n4 := by rw [hO.len, digs_len]
      have hE10 := hE8.trans hE9
      have hO10 := hO.base (B' := w2.heap.size) hE8.size
      have hsz := hE10.size
      clear hO hE8 hE9
      have c5 := HF2.out.ext hE10
      have HC5a := Lib.hid c5
      clear c5
      have hlt2 := HF2.out.lt
      go_wp2_with (at_builtin; refine app_I rfl _ _ rfl hO10 hsz rfl (by omega) rfl rfl ?_; intro ad2 d2 w11 hrow honly hmv; have hE11 := hE10.app hO10 honly (Nat.le_refl _); have c5 := HF2.out.ext hE11; have HC5 := Lib.hid c5; have f0 := c5.frozen 0; have f1 := c5.frozen 1; have f2 := c5.frozen 2; obtain ⟨v0, k0⟩ := c5.cell (k := 0) (by omega); obtain ⟨v1, k1⟩ := c5.cell (k := 1) (by omega); obtain ⟨v2, k2⟩ := c5.cell (k := 2) (by omega))
      rw [HL.out] at hrow
      clear hO10 hE10 honly hmv hsz c5
      go_wp2
      (try simp only [Exit.inBlock, Exit.then])
      refine bodyPost_ret (results_row_tmp rfl _ _ w.heap.size #[.int .i64 p, .int .i64 n9, .slice ad2 (n9 + 1 : Nat) d2] rfl (HC5.out.load _ _ _)) rfl ?_
      have hrow2 := hrow.only (only_put3 (w := w11) (g := w.heap.size) (v1 := .int .i64 p) (v2 := .int .i64 n9) (v3 := .slice ad2 (n9 + 1 : Nat) d2)) (fun g hg e => by have := (hrow.lt hg).1; omega)
      exact ⟨ad2, n9 + 1, d2, rfl, hrow2.base (by omega), (hE2.trans hE11).put3 (Nat.le_refl _) _ _ _⟩
    · have HI : Hid (irr (digs n p n4 ++ [1]) p = false) := Lib.hid ((leastN_spec HN.out).2 n (by rw [HNN.out]; omega))
      rw [HI.out]
      go_wp2
      go_roundg (N + 1 - (n + 1))
      case measure => go_light; omega
      case rel => go_light; exact ⟨n + 1, by omega, by omega, by go_num, hE8⟩
end Go.Proofs.Ytgggbicmmijlnaa
