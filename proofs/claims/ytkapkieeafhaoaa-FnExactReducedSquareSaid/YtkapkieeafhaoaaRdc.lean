/- ReducedSquare of both. Conditions: none. -/
import Derived.Test.YtkapkieeafhaoaaIso
import Derived.Test.YtkapkieeafhaoaaIdn
import Derived.Test.YtkapkieeafhaoaaUnitP
import Derived.Test.YtkapkieeafhaoaaSqS
import Derived.Test.YtkapkieeafhaoaaSqI
namespace Go.Proofs.Ytkapkieeafhaoaa
open Go.RowKit

theorem below_upto (n : Nat) : Below_ (upto n) n := fun i hi => by
  rw [upto_length] at hi
  exact ⟨i, gi_upto hi, hi⟩

def rdB (p : List (List Int)) (n : Nat) : List (List Int) := isoTo p (upto n) (gr p 0) (upto n) n n
def rdR (p : List (List Int)) (n k : Nat) : List Int := (List.range k).map fun x => at2 (rdB p n) x 0
def rdT (p : List (List Int)) (n : Nat) : List (List Int) := isoTo (rdB p n) (rdR p n n) (upto n) (upto n) n n
theorem rdR_succ (p : List (List Int)) (n k : Nat) : rdR p n (k + 1) = rdR p n k ++ [at2 (rdB p n) k 0] := by rw [rdR, List.range_succ, List.map_append]; rfl
theorem rdR_length (p : List (List Int)) (n k : Nat) : (rdR p n k).length = k := by simp [rdR]

structure RdOk (p : List (List Int)) (n : Nat) : Prop where
  row : Below_ (gr p 0) n
  rlen : (gr p 0).length = n
  rng : Rng (rdB p n) n
  col : Below_ (rdR p n n) n
  top : Rng (rdT p n) n

theorem SqOk.rd {p : List (List Int)} {n : Nat} (h : SqOk p) (hn : n = p.length) : RdOk p n := by
  have h1 := (h.dims hn).1
  have hr := (h.dims hn).2.2
  have hb := (h.2.2.2.1 0 (by omega)).below
  rw [hr.2 0 (by omega)] at hb
  have hg := isoTo_rng (s := upto n) (c := gr p 0) (below_upto n) (upto_length n) hb (hr.2 0 (by omega)) (below_upto n) (upto_length n) (h.rng hn) n (Nat.le_refl _)
  have hc : Below_ (rdR p n n) n := fun i hi => by
    rw [rdR_length] at hi
    have h2 := hg.2.2 i 0 hi (by omega)
    exact ⟨(at2 (rdB p n) i 0).toNat, by rw [gi_of (v := at2 (rdB p n) i 0) (by simp [rdR, hi])]; have := h2.1; rw [rdB] at *; omega, by have := h2.2; rw [rdB]; omega⟩
  exact ⟨hb, hr.2 0 (by omega), hg, hc, isoTo_rng hc (rdR_length p n n) (below_upto n) (upto_length n) (below_upto n) (upto_length n) hg n (Nat.le_refl _)⟩

noncomputable def rdcC (p : List (List Int)) : Int := if pb (SqOk p) then 0 else 1
noncomputable def rdcM (p : List (List Int)) : List (List Int) := if pb (SqOk p) then rdT p p.length else []
theorem rdcM_tot (p : List (List Int)) : tot (rdcM p) ≤ 1048576 := by
  rw [rdcM]
  split
  · rename_i h
    have h0 := pb_iff.1 h
    have h1 := (h0.rd rfl).top
    rw [tot_rect h1.1]
    have := Nat.mul_le_mul h1.2.1 h1.2.1; omega
  · simp [tot]

set_option maxRecDepth 100000 in
set_option maxHeartbeats 1600000 in
theorem specRdc (a : Option Addr) (n c : Nat) (p : List (List Int)) (w : World) (hp : RdR w a n c p) (_ : p.length + tot p ≤ 1048576) :
    Calls Try.prog 19 #[.slice a n c] w (RetRC w (rdcM p) (rdcC p)) := by
  have hb1 := hp.le
  have hb2 := hp.max
  have Hl := Lib.hid hp.len
  go_enter Try.func19, Try.ntmps19
  go_wp2_with fail
  refine (l06Ok_any _ _ _ p _ hp).mono ?_
  rintro e w2 ⟨rfl, hE⟩
  rcases pbc (SqOk p) with ⟨hb, Hp⟩ | ⟨hb, Hp⟩
  · rw [hb]
    obtain ⟨hn1, hn, hrc⟩ := Hp.out.dims Hl.out
    have Hr := Lib.hid hrc
    have HD := Lib.hid (Hp.out.rd Hl.out)
    clear hrc
    go_wp2_with fail
    refine (l04One_any n _ (by omega)).mono ?_
    rintro e w3 ⟨a3, n3, c3, rfl, hO3, hE3⟩
    obtain rfl : n = n3 := by have := hO3.len; rwa [upto_length, eq_comm] at this
    have hE4 := hE.trans hE3
    obtain ⟨b, o, ai, ci, rfl, hc0, hrow⟩ := hp.row Hr.out (k := 0) (by omega)
    have hz0 : (0 : Int) < (n : Int) := by omega
    rw [Nat.add_zero] at hc0
    have hc1 := hE4.cell hc0
    go_wp2_with fail
    refine (l06Isotope_any _ n _ p _ _ (upto n) _ _ (gr p 0) _ _ (upto n) _ (hp.ext hE4) hO3.rdI (hrow.ext hE4) hO3.rdI Hp.out (below_upto n) HD.out.row).mono ?_
    rintro e w5 ⟨a5, n5, c5, rs5, rfl, hO5, hE5⟩
    rw [show isoTo p (upto n) (gr p 0) (upto n) n n = rdB p n from rfl] at hO5
    obtain rfl : n = n5 := by have := hO5.len; rw [HD.out.rng.1.1] at this; exact this.symm
    have hR5 := hO5.rd
    have hr1 := hR5.le
    have hr2 := hR5.max
    have hU5 := Own.ext hO3 hE5
    clear hc1
    go_wp2
    have H0 := Own.empty 2 (Value.int .i64) w5
    go_loopg [7, 8] n (fun gh s i wr => ∃ (k : Nat) (ad : Option Addr) (d : Nat), k ≤ n ∧ gh = n - k ∧ i = .int .i64 k ∧ s = .slice ad k d ∧ OwnI wr w5.heap.size ad k d (rdR p n k) ∧ Ext w5 wr)
    case atStart => exact ⟨0, _, 0, Nat.zero_le _, rfl, rfl, rfl, H0, (Ext.refl _).alloc _⟩
    case round =>
      obtain ⟨k, ad, d, hk, rfl, rfl, rfl, hO, hEk⟩ := hrel
      clear H0
      by_cases hlt : k < n
      · have hz : (k : Int) < (n : Int) := by omega
        obtain ⟨b1, o1, ai1, ci1, rfl, q1, hrow1⟩ := (hR5.ext hEk).row HD.out.rng.1 hlt
        obtain ⟨b2, o2, rfl, q2⟩ := hrow1.cell2 (y := 0) (by omega)
        rw [Nat.add_zero] at q2
        have hq1 := hrow1.le
        clear hrow1
        go_wp2_with (at_builtin; refine app_I rfl _ _ rfl hO hEk.size rfl (by omega) rfl rfl ?_; intro ad' d' w6 hrow6 honly hmv)
        have hE6 := hEk.app hO honly (Nat.le_refl _)
        rw [← rdR_succ] at hrow6
        clear hO hEk honly hmv q1 q2
        go_wp2
        go_roundg (n - (k + 1))
        case measure => go_light; omega
        case rel => go_light; exact ⟨k + 1, ad', d', by omega, rfl, by go_num, rfl, hrow6, hE6⟩
      · have hz : ¬ (k : Int) < (n : Int) := by omega
        obtain rfl : n = k := by omega
        go_wp2_with fail
        refine (l06Isotope_rng _ n _ (rdB p n) _ _ (rdR p n n) _ _ (upto n) _ _ (upto n) _ (hR5.ext hEk) hO.rdI ((Own.ext hU5 hEk).rdI) ((Own.ext hU5 hEk).rdI) HD.out.rng HD.out.col (below_upto n)).mono ?_
        rintro e w7 ⟨a7, n7, c7, rs7, rfl, hO7, hE7⟩
        have hEE := (hE4.trans hE5).trans hEk
        go_wp2
        go_ret2
        exact RetRC.mk_ hO7 hEE.size (by rw [rdcM, if_pos hb, ← Hl.out]; rfl) (by rw [rdcC, if_pos hb]) (hEE.trans hE7)
  · rw [hb]
    go_wp2
    go_ret2
    exact RetRC.nil_ (by rw [rdcM, hb]; rfl) (by rw [rdcC, hb]; rfl) hE

set_option maxRecDepth 100000 in
set_option maxHeartbeats 1600000 in
theorem implRdc (a : Option Addr) (n c : Nat) (p : List (List Int)) (w : World) (hp : RdR w a n c p) (_ : p.length + tot p ≤ 1048576) :
    Calls Try.prog 20 #[.slice a n c] w (RetRC w (rdcM p) (rdcC p)) := by
  have hb1 := hp.le
  have hb2 := hp.max
  have Hl := Lib.hid hp.len
  go_enter Try.func20, Try.ntmps20
  go_wp2_with fail
  refine (validSquare_any _ _ _ p _ hp).mono ?_
  rintro e w2 ⟨rfl, hE⟩
  rcases pbc (SqOk p) with ⟨hb, Hp⟩ | ⟨hb, Hp⟩
  · rw [hb]
    obtain ⟨hn1, hn, hrc⟩ := Hp.out.dims Hl.out
    have Hr := Lib.hid hrc
    have HD := Lib.hid (Hp.out.rd Hl.out)
    clear hrc
    go_wp2_with fail
    refine (sizeR_any _ _ _ _).mono ?_
    rintro e w3 ⟨rfl, rfl⟩
    go_wp2_with fail
    refine (identity_any n _ (by omega)).mono ?_
    rintro e w3 ⟨a3, n3, c3, rfl, hO3, hE3⟩
    obtain rfl : n = n3 := by have := hO3.len; rwa [upto_length, eq_comm] at this
    have hE4 := hE.trans hE3
    obtain ⟨b, o, ai, ci, rfl, hc0, hrow⟩ := hp.row Hr.out (k := 0) (by omega)
    have hz0 : (0 : Int) < (n : Int) := by omega
    rw [Nat.add_zero] at hc0
    have hc1 := hE4.cell hc0
    go_wp2_with fail
    refine (isotope_any _ n _ p _ _ (upto n) _ _ (gr p 0) _ _ (upto n) _ (hp.ext hE4) hO3.rdI (hrow.ext hE4) hO3.rdI Hp.out (below_upto n) HD.out.row).mono ?_
    rintro e w5 ⟨a5, n5, c5, rs5, rfl, hO5, hE5⟩
    rw [show isoTo p (upto n) (gr p 0) (upto n) n n = rdB p n from rfl] at hO5
    obtain rfl : n = n5 := by have := hO5.len; rw [HD.out.rng.1.1] at this; exact this.symm
    have hR5 := hO5.rd
    have hr1 := hR5.le
    have hr2 := hR5.max
    have hU5 := Own.ext hO3 hE5
    clear hc1
    go_wp2
    go_loopg [6, 24] n (fun gh s i wr => ∃ (k : Nat) (ad : Option Addr) (d : Nat), k ≤ n ∧ gh = n - k ∧ i = .int .i64 k ∧ s = .slice ad k d ∧ OwnI wr w5.heap.size ad k d (rdR p n k) ∧ Ext w5 wr)
    case atStart => exact ⟨0, none, 0, Nat.zero_le _, rfl, rfl, rfl, Own.nil_ _ _ _ _, Ext.refl _⟩
    case round =>
      obtain ⟨k, ad, d, hk, rfl, rfl, rfl, hO, hEk⟩ := hrel
      by_cases hlt : k < n
      · have hz : (k : Int) < (n : Int) := by omega
        obtain ⟨b1, o1, ai1, ci1, rfl, q1, hrow1⟩ := (hR5.ext hEk).row HD.out.rng.1 hlt
        obtain ⟨b2, o2, rfl, q2⟩ := hrow1.cell2 (y := 0) (by omega)
        rw [Nat.add_zero] at q2
        have hq1 := hrow1.le
        clear hrow1
        go_wp2_with (at_builtin; refine app_I rfl _ _ rfl hO hEk.size rfl (by omega) rfl rfl ?_; intro ad' d' w6 hrow6 honly hmv)
        have hE6 := hEk.app hO honly (Nat.le_refl _)
        rw [← rdR_succ] at hrow6
        clear hO hEk honly hmv q1 q2
        go_wp2
        go_roundg (n - (k + 1))
        case measure => go_light; omega
        case rel => go_light; exact ⟨k + 1, ad', d', by omega, rfl, by go_num, rfl, hrow6, hE6⟩
      · have hz : ¬ (k : Int) < (n : Int) := by omega
        obtain rfl : n = k := by omega
        go_wp2_with fail
        refine (isotope_rng _ n _ (rdB p n) _ _ (rdR p n n) _ _ (upto n) _ _ (upto n) _ (hR5.ext hEk) hO.rdI ((Own.ext hU5 hEk).rdI) ((Own.ext hU5 hEk).rdI) HD.out.rng HD.out.col (below_upto n)).mono ?_
        rintro e w7 ⟨a7, n7, c7, rs7, rfl, hO7, hE7⟩
        have hEE := (hE4.trans hE5).trans hEk
        go_wp2
        go_ret2
        exact RetRC.mk_ hO7 hEE.size (by rw [rdcM, if_pos hb, ← Hl.out]; rfl) (by rw [rdcC, if_pos hb]) (hEE.trans hE7)
  · rw [hb]
    go_wp2
    go_ret2
    exact RetRC.nil_ (by rw [rdcM, hb]; rfl) (by rw [rdcC, hb]; rfl) hE
end Go.Proofs.Ytkapkieeafhaoaa
