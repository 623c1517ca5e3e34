/- Irreducible polynomials and fields by the reference. Conditions: none. -/
import Derived.Test.YtgggbicmmijlnaaFlds2
import Derived.Test.YtgggbicmmijlnaaFld7
namespace Go.Proofs.Ytgggbicmmijlnaa
open Go.RowKit

set_option maxRecDepth 100000 in
set_option maxHeartbeats 1600000 in
theorem l03Number_any (a : Option Addr) (n c : Nat) (z : List Int) (p : Nat) (w : World) (hx : RdI w a n c z) (hz : Bnd z p) (hp : p ≤ 64) (hpn : p ^ n ≤ 64) (hn : n ≤ 1000) :
    Calls Try.prog 96 #[.slice a n c, .int .i64 p] w fun e w' => e = .returned (.int .i64 (num p z)) ∧ w = w' := by
  have hb1 := hx.le
  have hb2 := hx.max
  have Hl := Lib.hid hx.len
  have HZ := Lib.hid hz
  clear hz
  go_enter Try.func96, Try.ntmps96
  go_wp2
  go_loopg [5, 6] (1 * n) (fun gh sv ix wr => ∃ (i : Nat) (x : Int), i ≤ n ∧ gh = 1 * i ∧ sv = .int .i64 x ∧ ix = .int .i64 ((i : Int) - 1) ∧ 0 ≤ x ∧ x ≤ 64 ∧ Hid (x = num p (z.drop i)) ∧ wr = w)
  case atStart => exact ⟨n, 0, Nat.le_refl _, rfl, rfl, by go_num, by omega, by omega, Lib.hid (by rw [Hl.out, List.drop_length]; rfl), rfl⟩
  case round =>
    obtain ⟨i, x, hi, rfl, rfl, rfl, hx0, hx1, HX, rfl⟩ := hrel
    cases i with
    | zero =>
      have hb : decide ((0 : Int) ≤ ((0 : Nat) : Int) - 1) = false := rfl
      have hb' : ¬ ((0 : Int) ≤ ((0 : Nat) : Int) - 1) := by omega
      have HX2 : Hid (x = num p z) := Lib.hid (by have := HX.out; simpa using this)
      go_wp2
      go_ret
      exact ⟨by rw [HX2.out]; rfl, rfl⟩
    | succ i =>
      have hin : i < n := by omega
      have e1 : ((i + 1 : Nat) : Int) - 1 = (i : Int) := by omega
      rw [e1]
      have hb' : (0 : Int) ≤ (i : Int) := by omega
      have hzi : (i : Int) < (n : Int) := by omega
      obtain ⟨b, o, rfl, hc⟩ := hx.gi hin
      obtain ⟨hv0, hv1⟩ := HZ.out i
      obtain ⟨x', rfl⟩ := Int.eq_ofNat_of_zero_le hx0
      have hxp1 : (0 : Int) ≤ (x' : Int) * (p : Int) := by exact_mod_cast Nat.zero_le (x' * p)
      have hxp2 : (x' : Int) * (p : Int) ≤ 4096 := by have := Nat.mul_le_mul (show x' ≤ 64 by omega) hp; exact_mod_cast this
      have HX2 : Hid ((x' : Int) * (p : Int) + gi z i = num p (z.drop i)) := Lib.hid (by rw [num_drop (by rw [← Hl.out]; exact hin), ← HX.out])
      have hr : 0 ≤ (x' : Int) * (p : Int) + gi z i ∧ (x' : Int) * (p : Int) + gi z i ≤ 64 := by
        have h1 := num_range (p := p) HZ.out (n - i)
        rw [show z.length - (n - i) = i by rw [← Hl.out]; omega] at h1
        have h2 : p ^ (n - i) ≤ p ^ n := Nat.pow_le_pow_right (by omega) (by omega)
        rw [HX2.out]
        omega
      obtain ⟨hr0, hr1⟩ := hr
      go_wp2
      go_roundg (1 * i)
      case measure => go_light; omega
      case rel => go_light; exact ⟨i, (x' : Int) * (p : Int) + gi z i, by omega, rfl, by go_num, by go_num, hr0, hr1, HX2, rfl⟩

set_option maxRecDepth 100000 in
set_option maxHeartbeats 3200000 in
theorem l03Irreducible_any (a : Option Addr) (c : Nat) (x : List Int) (p k : Nat) (w : World) (hx : RdI w a (k + 1) c x) (hxb : Bnd x p) (hp2 : 2 ≤ p) (hp : p ≤ 64) (hk1 : 1 ≤ k) (hk : k ≤ 64) (hpk : p ^ k ≤ 64) :
    Calls Try.prog 95 #[.slice a (k + 1 : Nat) c, .int .i64 p] w fun e w' => e = .returned (.bool (irr x p)) ∧ Ext w w' := by
  have hb1 := hx.le
  have hb2 := hx.max
  have Hl := Lib.hid hx.len
  have HXB := Lib.hid hxb
  have HPK := Lib.hid hpk
  clear hxb hpk
  have e1 : ((k + 1 : Nat) : Int) - 1 = (k : Int) := by omega
  go_enter Try.func95, Try.ntmps95
  go_wp2
  go_loopg [6] (k + 1) (fun gh dv wr => ∃ d : Nat, 1 ≤ d ∧ d ≤ k + 1 ∧ gh = k + 2 - d ∧ dv = .int .i64 d ∧ Ext w wr ∧ Hid (∀ d', 1 ≤ d' → d' < d → 2 * d' ≤ k → ∀ n, n < p ^ d' → irrAt x p d' n = true))
  case atStart => exact ⟨1, by omega, by omega, by omega, rfl, Ext.refl _, Lib.hid (fun d' h1 h2 => by omega)⟩
  case round =>
    obtain ⟨d, hd1, hdk, rfl, rfl, hE, HD⟩ := hrel
    by_cases hlt : 2 * d ≤ k
    · have hzl : 2 * (d : Int) ≤ (k : Int) := by omega
      have HPD : Hid (p ^ d ≤ 64) := Lib.hid (pow_half (by omega) HPK.out (by omega))
      obtain ⟨P, hP⟩ : ∃ P, p ^ d = P := ⟨_, rfl⟩
      have HPd := Lib.hid hP
      clear hP
      go_wp2
      go_loopg [7] P (fun gh nv wi => ∃ m : Nat, m ≤ P ∧ gh = P - m ∧ nv = .int .i64 m ∧ Ext w wi ∧ Hid (∀ n, n < m → irrAt x p d n = true))
      case atStart => exact ⟨0, Nat.zero_le _, rfl, rfl, hE, Lib.hid (fun n h => absurd h (Nat.not_lt_zero _))⟩
      case round =>
        clear hE
        obtain ⟨m, hm, rfl, rfl, hE, HN⟩ := hrel
        have hP64 : P ≤ 64 := by rw [← HPd.out]; exact HPD.out
        go_wp2_with fail
        refine (l03Power_any p d _ (by omega) (by omega) HPD.out hp).mono ?_
        rintro e w3 ⟨rfl, rfl⟩
        rw [HPd.out]
        by_cases hlm : m < P
        · have hzm : (m : Int) < (P : Int) := by omega
          go_wp2_with fail
          refine (l03Digits_any m p d _ (by omega) (by omega) (by omega) (by omega)).mono ?_
          rintro e w4 ⟨a4, n4, c4, rfl, hO, hE4⟩
          have Hn4 : Hid (n4 = d) := Lib.hid (by rw [hO.len, digs_len])
          have hn4 : n4 ≤ 64 := by rw [Hn4.out]; omega
          have hE5 := hE.trans hE4
          have hO5 := hO.base (B' := w.heap.size) hE.size
          have hsz := hE5.size
          clear hO hE hE4
          go_wp2_with (at_builtin; refine app_I rfl _ _ rfl hO5 hsz rfl (by omega) rfl rfl ?_; intro ad' d' w6 hrow honly hmv)
          have hE6 := hE5.app hO5 honly (Nat.le_refl _)
          have HB6 : Hid (Bnd (digs m p d ++ [1]) p) := Lib.hid ((digs_bnd (by omega)).snoc (by omega))
          clear hO5 hE5 honly hmv hsz
          refine (l03Rest_any a (k + 1) c x ad' (n4 + 1) d' (digs m p d ++ [1]) p _ (hx.ext hE6) hrow.rdI HXB.out HB6.out (by omega) hp (by rw [Hn4.out]; omega) (by rw [Hn4.out]; omega) (by omega)).mono ?_
          rintro e w7 ⟨a7, n7, c7, rfl, hO7, hE7⟩
          have HBr := Lib.hid (rest_bnd (b := digs m p d ++ [1]) HXB.out)
          have Hn7 : Hid (n7 = d) := Lib.hid (by rw [hO7.len, rest_len (by rw [List.length_append, digs_len, ← Hl.out]; simp; omega), List.length_append, digs_len]; simp)
          go_wp2_with fail
          refine (l03Number_any a7 n7 c7 (rest x (digs m p d ++ [1]) p) p _ hO7.rdI HBr.out hp (by rw [Hn7.out]; exact HPD.out) (by rw [Hn7.out]; omega)).mono ?_
          rintro e w8 ⟨rfl, rfl⟩
          have hE8 := hE6.trans hE7
          obtain ⟨v, hv⟩ : ∃ v, irrAt x p d m = v := ⟨_, rfl⟩
          have HV := Lib.hid hv
          have hz0 := (num_zero (bnd_mem HBr.out) (show 0 < p by omega)).1
          rw [irrAt] at hv
          rw [hv] at hz0
          clear hv hrow hE6 hO7 hE7
          cases v
          · have HR := Lib.hid (irr_no (poly := x) (p := p) hd1 (by rw [← Hl.out]; omega) (by rw [HPd.out]; exact hlm) HV.out)
            go_wp2
            go_ret
            exact ⟨by rw [HR.out]; rfl, hE8⟩
          · have HN2 : Hid (∀ n, n < m + 1 → irrAt x p d n = true) := Lib.hid (fun n hn => by
              by_cases e : n = m
              · subst e; exact HV.out
              · exact HN.out n (by omega))
            go_wp2
            go_roundg (P - (m + 1))
            case measure => go_light; omega
            case rel => go_light; exact ⟨m + 1, by omega, rfl, by go_num, hE8, HN2⟩
        · have hzm : ¬ (m : Int) < (P : Int) := by omega
          obtain rfl : m = P := by omega
          have HD2 : Hid (∀ d', 1 ≤ d' → d' < d + 1 → 2 * d' ≤ k → ∀ n, n < p ^ d' → irrAt x p d' n = true) := Lib.hid (fun d' h1 h2 h3 n hn => by
            by_cases e : d' = d
            · subst e; exact HN.out n (by rw [← HPd.out]; exact hn)
            · exact HD.out d' h1 (by omega) h3 n hn)
          go_wp2
          go_roundg (k + 2 - (d + 1))
          case measure => go_light; omega
          case rel => go_light; exact ⟨d + 1, by omega, by omega, rfl, by go_num, hE, HD2⟩
    · have hzl : ¬ 2 * (d : Int) ≤ (k : Int) := by omega
      have HR := Lib.hid (irr_yes (poly := x) (p := p) (fun d' n h1 h2 h3 => HD.out d' h1 (by rw [← Hl.out] at h2; omega) (by rw [← Hl.out] at h2; omega) n h3))
      go_wp2
      go_ret
      exact ⟨by rw [HR.out]; rfl, hE⟩

def MkYes (w : World) (p k : Nat) (e : Ending) (w' : World) : Prop := ∃ a n c, e = .returned (.agg #[.int .i64 p, .int .i64 k, .slice a n c]) ∧ OwnI w' w.heap.size a n c (fpoly p k) ∧ Ext w w'
set_option maxRecDepth 100000 in
set_option maxHeartbeats 3200000 in
theorem l03Make_any (q p k : Nat) (w : World) (hpp : sp q = (p, k)) (hp2 : 2 ≤ p) (hk1 : 1 ≤ k) (hpk : p ^ k ≤ 64) (hN : leastN p k < 64) : Calls Try.prog 74 #[.int .i64 q] w (MkYes w p k) := by
  obtain ⟨W, hW⟩ : ∃ W, (w.alloc (.cells #[.int .i64 0, .int .i64 0, .slice none 0 0] 67)) = W := ⟨_, rfl⟩
  have hEW : Ext w W := by rw [← hW]; exact (Ext.refl _).alloc _
  have HF : Hid (Three W w.heap.size) := Lib.hid ⟨_, rfl, by rw [← hW]; exact heap_alloc_new _ _⟩
  have HPP := Lib.hid hpp
  have HN := Lib.hid hN
  have HPK := Lib.hid hpk
  have hp64 : p ≤ 64 := Nat.le_trans (by have := Nat.pow_le_pow_right (show 1 ≤ p by omega) hk1; rwa [Nat.pow_one] at this) hpk
  have hk64 : k ≤ 64 := by
    have h1 : k < 2 ^ k := Nat.lt_two_pow_self
    have h2 : 2 ^ k ≤ p ^ k := Nat.pow_le_pow_left hp2 k
    omega
  obtain ⟨N, hNN⟩ : ∃ N, leastN p k = N := ⟨_, rfl⟩
  have HNN := Lib.hid hNN
  have hN64 : N < 64 := by rw [← hNN]; exact hN
  clear hpp hN hpk hNN
  go_enter Try.func74, Try.ntmps74
  go_wp2_with fail
  clear hW
  refine (l03Split_any q _).mono ?_
  rintro e w2 ⟨rfl, rfl⟩
  rw [Int.toNat_natCast, HPP.out]
  go_wp2
  go_loopg [5] (N + 1) (fun gh nv wr => ∃ n : Nat, n ≤ N ∧ gh = N + 1 - n ∧ nv = .int .i64 n ∧ Ext W wr)
  case atStart => exact ⟨0, Nat.zero_le _, by omega, rfl, Ext.refl _⟩
  case round =>
    obtain ⟨n, hn, rfl, rfl, hEr⟩ := hrel
    go_wp2_with fail
    refine (l03Digits_any n p k _ (by omega) (by omega) (by omega) (by omega)).mono ?_
    rintro e w4 ⟨a4, n4, c4, rfl, hO, hE4⟩
    obtain rfl : n4 = k := by rw [hO.len, digs_len]
    have hE5 := hEr.trans hE4
    have hO5 := hO.base (B' := W.heap.size) hEr.size
    have hsz := hE5.size
    clear hO hE4
    go_wp2_with (at_builtin; refine app_I rfl _ _ rfl hO5 hsz rfl (by omega) rfl rfl ?_; intro ad' d' w6 hrow honly hmv)
    have hE6 := hE5.app hO5 honly (Nat.le_refl _)
    have HB6 : Hid (Bnd (digs n p n4 ++ [1]) p) := Lib.hid ((digs_bnd (by omega)).snoc (by omega))
    clear hO5 hE5 honly hmv hsz
    refine (l03Irreducible_any ad' d' (digs n p n4 ++ [1]) p n4 _ hrow.rdI HB6.out hp2 hp64 hk1 hk64 HPK.out).mono ?_
    rintro e w7 ⟨rfl, hE7⟩
    have hE8 := hE6.trans hE7
    have hrow7 := hrow.ext hE7
    clear hrow hE6 hE7
    by_cases hnN : n = N
    · have HI : Hid (irr (digs n p n4 ++ [1]) p = true) := Lib.hid (by rw [hnN, ← HNN.out]; exact (leastN_spec HN.out).1)
      have HL : Hid (digs n p n4 ++ [1] = fpoly p n4) := Lib.hid (by rw [fpoly, HNN.out, hnN])
      rw [HI.out]
      rw [HL.out] at hrow7
      have hlt2 := HF.out.lt
      have c5 := HF.out.ext hE8
      have HC5 := Lib.hid c5
      have f0 := c5.frozen 0
      have f1 := c5.frozen 1
      have f2 := c5.frozen 2
      obtain ⟨v0, k0⟩ := c5.cell (k := 0) (by omega)
      obtain ⟨v1, k1⟩ := c5.cell (k := 1) (by omega)
      obtain ⟨v2, k2⟩ := c5.cell (k := 2) (by omega)
      clear hnN c5
      go_wp2
      (try simp only [Exit.inBlock, Exit.then])
      obtain ⟨cs9, hs9, hh9⟩ := HC5.out
      refine bodyPost_ret (results_cell_row rfl _ _ w.heap.size 67 #[.int .i64 p, .int .i64 n4, .slice ad' (n4 + 1 : Nat) d'] (0, 0) _ rfl (three_set hh9 hs9 (.int .i64 p) (.int .i64 n4) (.slice ad' (n4 + 1 : Nat) d')) Try.underlying67 rfl (by kernel_rfl)) rfl ?_
      have hrow2 := hrow7.only (only_put3 (w := w7) (g := w.heap.size) (v1 := .int .i64 p) (v2 := .int .i64 n4) (v3 := .slice ad' (n4 + 1 : Nat) d')) (fun g hg e => by have := (hrow7.lt hg).1; omega)
      exact ⟨ad', n4 + 1, d', rfl, hrow2.base hEW.size, (hEW.trans hE8).put3 (Nat.le_refl _) _ _ _⟩
    · have HI : Hid (irr (digs n p n4 ++ [1]) p = false) := Lib.hid ((leastN_spec HN.out).2 n (by rw [HNN.out]; omega))
      rw [HI.out]
      go_wp2
      go_roundg (N + 1 - (n + 1))
      case measure => go_light; omega
      case rel => go_light; exact ⟨n + 1, by omega, by omega, by go_num, hE8⟩
end Go.Proofs.Ytgggbicmmijlnaa
