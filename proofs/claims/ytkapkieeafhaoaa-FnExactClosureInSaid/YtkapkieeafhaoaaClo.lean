/- ClosureIn of both. Conditions: none. -/
import Derived.Test.YtkapkieeafhaoaaCloP
import Derived.Test.YtkapkieeafhaoaaSrt
import Derived.Test.YtkapkieeafhaoaaOwnL
import Derived.Test.YtkapkieeafhaoaaVSet
import Derived.Test.YtkapkieeafhaoaaRis
import Derived.Test.YtkapkieeafhaoaaHas
import Derived.Test.YtkapkieeafhaoaaSl
import Derived.Test.YtkapkieeafhaoaaSubP
import Derived.Test.YtkapkieeafhaoaaUnitP
import Derived.Test.YtkapkieeafhaoaaSqS
import Derived.Test.YtkapkieeafhaoaaSqI
namespace Go.Proofs.Ytkapkieeafhaoaa
open Go.RowKit

theorem Own.giI {w : World} {B : Nat} {a : Option Addr} {n c : Nat} {xs : List Int} (h : OwnI w B a n c xs) {k : Nat} (hk : k < n) : ∃ g, a = some ⟨g, 0, none⟩ ∧ B ≤ g ∧ w.cell? ⟨g, k, none⟩ = some (.int .i64 (Go.Proofs.Ytkapkieeafhaoaa.gi xs k)) ∧ w.frozen? ⟨g, k, none⟩ = false := by
  obtain ⟨g, x, h1, h2, h3, h4, h5⟩ := h.at_ hk
  exact ⟨g, h1, h2, by rw [h3, gi_of h5.out], h4⟩
theorem gi_app {xs t : List Int} {k : Nat} (h : k < xs.length) : gi (xs ++ t) k = gi xs k := gi_of (by rw [List.getElem?_append_left h, gi_get h])

/-- The state of an insertion. -/
def Sorted (L : List Int) : Prop := L.Pairwise fun x y => x ≤ y

set_option maxRecDepth 100000 in
set_option maxHeartbeats 3200000 in
theorem l21Sorted_any (a : Option Addr) (n c : Nat) (xs : List Int) (w : World) (hx : RdI w a n c xs) (hn : n ≤ 1099511627775) :
    Calls Try.prog 69 #[.slice a n c] w (RetI w (xs.mergeSort leb)) := by
  have hb1 := hx.le
  have hb2 := hx.max
  have Hl := Lib.hid hx.len
  go_enter Try.func69, Try.ntmps69
  go_wp2
  have H0 := Own.empty 2 (Value.int .i64) w
  go_loopg [3, 4] n (fun gh s i wr => ∃ (k : Nat) (ad : Option Addr) (d : Nat) (L : List Int), k ≤ n ∧ gh = n - k ∧ i = .int .i64 k ∧ s = .slice ad k d ∧ OwnI wr w.heap.size ad k d L ∧ Hid (L.Perm (xs.take k) ∧ Sorted L) ∧ Ext w wr)
  case atStart => exact ⟨0, _, 0, [], Nat.zero_le _, rfl, rfl, rfl, H0, Lib.hid ⟨by simp, List.Pairwise.nil⟩, (Ext.refl _).alloc _⟩
  case round =>
    obtain ⟨k, ad, d, L, hk, rfl, rfl, rfl, hO, HL, hE⟩ := hrel
    clear H0
    by_cases hlt : k < n
    · have hz : (k : Int) < (n : Int) := by omega
      obtain ⟨b, o, rfl, q⟩ := hx.gi hlt
      replace q := hE.cell q
      have hsz := hE.size
      have Hlen := Lib.hid hO.len
      obtain ⟨v, hv⟩ : ∃ v, gi xs k = v := ⟨_, rfl⟩
      rw [hv] at q
      have HV : Hid (xs.take (k + 1) = xs.take k ++ [v]) := Lib.hid (by rw [List.take_add_one, gi_get (by rw [← Hl.out]; exact hlt), hv]; rfl)
      clear hv
      go_wp2_with (at_builtin; refine app_I rfl _ _ rfl hO hsz rfl (by omega) rfl rfl ?_; intro ad' d' w3 hrow honly hmv)
      have hE3 := hE.app hO honly (Nat.le_refl _)
      rw [← insAt_top] at hrow
      clear hO hE honly hmv hsz q
      go_wp2
      go_loopg [5] (1 * k) (fun gh i wi => ∃ (j : Nat), j ≤ k ∧ gh = 1 * j ∧ i = .int .i64 j ∧ OwnI wi w.heap.size ad' (k + 1) d' (insAt L j v) ∧ Hid (∀ i, j ≤ i → i < L.length → v ≤ gi L i) ∧ Ext w wi)
      case atStart => exact ⟨k, Nat.le_refl _, rfl, rfl, by rw [Hlen.out] at hrow ⊢; exact hrow, Lib.hid (fun i h1 h2 => by have := Hlen.out; omega), hE3⟩
      case round =>
        clear hrow hE3
        obtain ⟨j, hj, rfl, rfl, hO, HJ, hE⟩ := hrel
        by_cases h0 : j = 0
        · subst h0
          go_wp2_with fail
          go_quiet (fail)
          go_wp2
          go_roundg (n - (k + 1))
          case measure => go_light; omega
          case rel => go_light; exact ⟨k + 1, ad', d', _, by omega, rfl, by go_num, rfl, hO.ext ((Ext.refl _).drewN _), Lib.hid ⟨by rw [HV.out]; exact (insAt_perm L 0 v).trans (HL.out.1.append_right _), insAt_sorted HL.out.2 (by omega) (fun i h => by omega) (fun i h1 h2 => HJ.out i h1 h2)⟩, hE.drewN _⟩
        · obtain ⟨j, rfl⟩ : ∃ i, j = i + 1 := ⟨j - 1, by omega⟩
          clear h0
          have hlL : j < L.length := by have := Hlen.out; omega
          obtain ⟨g, rfl, hB, q1, f1⟩ := hO.giI (k := j + 1) (by omega)
          obtain ⟨g', hh, _, q2, f2⟩ := hO.giI (k := j) (by omega)
          cases hh
          rw [insAt_at L v (by omega)] at q1
          rw [insAt_below L v (by omega) (by omega)] at q2
          have i1 : (0 : Int) < (j : Int) + 1 := by omega
          have i2 : (j : Int) + 1 < (k : Int) + 1 := by omega
          have i3 : (j : Int) < (k : Int) + 1 := by omega
          have i4 : j < k + 1 := by omega
          have i5 : j + 1 < k + 1 := by omega
          have HS := Lib.hid (insAt_step L v (k := j) (by omega))
          obtain ⟨t, ht⟩ : ∃ t, decide (v < gi L j) = t := ⟨_, rfl⟩
          have Ht := Lib.hid ht
          obtain ⟨y, hy⟩ : ∃ y, gi L j = y := ⟨_, rfl⟩
          rw [hy] at q2 ht
          have HY := Lib.hid hy
          have HlL := Lib.hid hlL
          clear hlL hy
          cases t
          · have ht2 : ¬ v < y := by simpa using ht
            go_wp2_with fail
            go_quiet (fail)
            go_wp2
            go_roundg (n - (k + 1))
            case measure => go_light; omega
            case rel => go_light; exact ⟨k + 1, _, d', _, by omega, rfl, by go_num, rfl, hO.ext ((Ext.refl _).drewN _), Lib.hid ⟨by rw [HV.out]; exact (insAt_perm L (j + 1) v).trans (HL.out.1.append_right _), insAt_sorted HL.out.2 (by have := HlL.out; omega) (fun i h => by
              have h1 := sorted_gi HL.out.2 (show i ≤ j by omega) HlL.out
              have h2 := HY.out
              omega) (fun i h1 h2 => HJ.out i h1 h2)⟩, hE.drewN _⟩
          · have ht2 : v < y := by simpa using ht
            go_wp2_with fail
            go_quiet (fail)
            go_wp2
            go_roundg (1 * j)
            case measure => go_light; omega
            case rel =>
              go_light
              have hO1 := (hO.ext ((Ext.refl _).drewN nq)).set (k := j + 1) rfl (gi L j)
              have hO2 := hO1.set (k := j) rfl v
              rw [HS.out, HY.out] at hO2
              refine ⟨j, by omega, rfl, by go_num, hO2, Lib.hid (fun i h1 h2 => ?_), ((hE.drewN _).setCell (p := ⟨g, j + 1, none⟩) hB _).setCell (p := ⟨g, j, none⟩) hB _⟩
              by_cases e : i = j
              · subst e; have h3 := HY.out; omega
              · exact HJ.out i (by omega) h2
    · have hz : ¬ (k : Int) < (n : Int) := by omega
      obtain rfl : n = k := by omega
      go_wp2
      go_ret
      refine ⟨_, _, _, rfl, ?_, hE⟩
      rw [← sort_unique (by have := HL.out.1; rwa [List.take_of_length_le (by rw [← Hl.out]; exact Nat.le_refl _)] at this) HL.out.2]
      exact hO

theorem Rises.bnd {S : List Int} {n : Nat} (h : Rises S 0 ((n : Int) - 1)) : ∀ v, v ∈ S → 0 ≤ v ∧ v < n := by
  intro v hv
  obtain ⟨k, hk, rfl⟩ := mem_gi hv
  have := (h k hk).1
  omega

set_option maxRecDepth 100000 in
set_option maxHeartbeats 3200000 in
theorem specClo (a : Option Addr) (n c : Nat) (p : List (List Int)) (a' : Option Addr) (n' c' : Nat) (S : List Int) (w : World) (hp : RdR w a n c p) (_ : p.length + tot p ≤ 1048576) (hq : RdI w a' n' c' S) (hn' : n' ≤ 1048576) :
    Calls Try.prog 23 #[.slice a n c, .slice a' n' c'] w (RetIC w (clM p S) (clC p S)) := by
  have hb1 := hp.le
  have hb2 := hp.max
  have hb3 := hq.le
  have hb4 := hq.max
  have Hl := Lib.hid hp.len
  have Hq := Lib.hid hq.len
  go_enter Try.func23, Try.ntmps23
  go_wp2_with fail
  refine (l06Ok_any _ _ _ p _ hp).mono ?_
  rintro e w2 ⟨rfl, hE⟩
  rcases pbc (SqOk p) with ⟨hb, Hp⟩ | ⟨hb, Hp⟩
  · rw [hb]
    have hrng := Hp.out.rng Hl.out
    have hn : n ≤ 10 := hrng.2.1
    have HR := Lib.hid hrng
    have Hbb := Lib.hid hb
    clear hrng hb
    go_wp2_with fail
    refine (l00Rises_any _ _ _ S _ _ _ (hq.ext hE)).mono ?_
    rintro e w2' ⟨rfl, hQ⟩
    have hE2 := hE.trans hQ.ext
    rcases pbc (Rises S 0 ((n : Int) - 1)) with ⟨hi, Hi⟩ | ⟨hi, Hi⟩
    · rw [hi]
      have HI : Hid (pb (Rises S 0 ((p.length : Int) - 1)) = true) := Lib.hid (by rw [← Hl.out]; exact hi)
      have HS := Lib.hid (Rises.bnd Hi.out)
      clear hE hQ hi
      go_wp2_with fail
      refine (l00Own_any _ _ _ S _ (hq.ext hE2) (by omega)).mono ?_
      rintro e w3 ⟨a6, n6, c6, rfl, hO0, hE3⟩
      go_wp2
      go_loopg [6] (11 - n6) (fun gh s wr => ∃ (m : Nat) (ad : Option Addr) (d : Nat) (xs : List Int), gh = 11 - m ∧ s = .slice ad m d ∧ OwnI wr w2'.heap.size ad m d xs ∧ Hid (CloInv p S xs) ∧ Ext w2' wr)
      case atStart => exact ⟨n6, a6, c6, S, rfl, rfl, hO0, Lib.hid (CloInv.start Hi.out.nodup), hE3⟩
      case round =>
        clear hO0 hE3
        obtain ⟨m, ad, d, xs, rfl, rfl, hO, HC, hEx⟩ := hrel
        have hmx := hO.len
        have hm : m ≤ n := by rw [hmx]; exact HC.out.len HR.out HS.out
        have Hmx := Lib.hid hmx
        clear hmx
        go_wp2
        go_loopg [6, 8] m (fun gh s i wi => ∃ (i0 m' : Nat) (ad' : Option Addr) (d' : Nat) (t : List Int), i0 ≤ m ∧ gh = m - i0 ∧ i = .int .i64 i0 ∧ s = .slice ad' m' d' ∧ OwnI wi w2'.heap.size ad' m' d' (xs ++ t) ∧ Hid (CloInv p S (xs ++ t)) ∧
          Hid (∀ i k, i < i0 → k < m → at2 p (gi xs i).toNat (gi xs k).toNat ∈ xs ++ t) ∧ Ext w2' wi)
        case atStart => exact ⟨0, m, ad, d, [], Nat.zero_le _, rfl, rfl, rfl, by rw [List.append_nil]; exact hO, by rw [List.append_nil]; exact HC, Lib.hid (fun i k h => absurd h (Nat.not_lt_zero _)), hEx⟩
        case round =>
          clear hO hEx
          obtain ⟨i0, m', ad', d', t, hi0, rfl, rfl, rfl, hO, HC', HP, hEx⟩ := hrel
          by_cases hin : i0 < m
          · have hz1 : (i0 : Int) < (m : Int) := by omega
            go_wp2
            go_loopg [6, 9] m (fun gh s k wi => ∃ (k0 m' : Nat) (ad' : Option Addr) (d' : Nat) (t : List Int), k0 ≤ m ∧ gh = m - k0 ∧ k = .int .i64 k0 ∧ s = .slice ad' m' d' ∧ OwnI wi w2'.heap.size ad' m' d' (xs ++ t) ∧ Hid (CloInv p S (xs ++ t)) ∧
              Hid (∀ i k, i < i0 → k < m → at2 p (gi xs i).toNat (gi xs k).toNat ∈ xs ++ t) ∧ Hid (∀ k, k < k0 → at2 p (gi xs i0).toNat (gi xs k).toNat ∈ xs ++ t) ∧ Ext w2' wi)
            case atStart => exact ⟨0, m', ad', d', t, Nat.zero_le _, rfl, rfl, rfl, hO, HC', HP, Lib.hid (fun k h => absurd h (Nat.not_lt_zero _)), hEx⟩
            case round =>
              clear hO HC' HP hEx
              obtain ⟨k0, m', ad', d', t, hk0, rfl, rfl, rfl, hO, HC', HP, HP2, hEx⟩ := hrel
              by_cases hkn : k0 < m
              · have hz2 : (k0 : Int) < (m : Int) := by omega
                have hm' := hO.len
                have hmm : m ≤ m' := by rw [hm', List.length_append]; have := Hmx.out; omega
                have hm10 : m' ≤ n := by rw [hm']; exact HC'.out.len HR.out HS.out
                obtain ⟨g, rfl, hB, q1, _⟩ := hO.giI (k := i0) (by omega)
                obtain ⟨g', hh, _, q2, _⟩ := hO.giI (k := k0) (by omega)
                cases hh
                have x1 : gi xs i0 ∈ xs ++ t := List.mem_append_left _ (gi_mem (by have := Hmx.out; omega))
                have x2 : gi xs k0 ∈ xs ++ t := List.mem_append_left _ (gi_mem (by have := Hmx.out; omega))
                have y1 := HC'.out.lt HR.out HS.out x1
                have y2 := HC'.out.lt HR.out HS.out x2
                rw [gi_app (by have := Hmx.out; omega)] at q1 q2
                obtain ⟨u, hu⟩ : ∃ u : Nat, gi xs i0 = u := ⟨(gi xs i0).toNat, by omega⟩
                obtain ⟨v, hv⟩ : ∃ v : Nat, gi xs k0 = v := ⟨(gi xs k0).toNat, by omega⟩
                have hun : u < n := by omega
                have hvn : v < n := by omega
                have i1 : (u : Int) < (n : Int) := by omega
                have i2 : (v : Int) < (n : Int) := by omega
                obtain ⟨b, o, ai, ci, rfl, hc, hrow⟩ := hp.row HR.out.1 hun
                obtain ⟨b1, o1, rfl, hc1⟩ := hrow.cell2 hvn
                have dc := (hE2.trans hEx).cell hc
                have dc1 := (hE2.trans hEx).cell hc1
                rw [hu] at q1
                rw [hv] at q2
                obtain ⟨z, hzz⟩ : ∃ z, at2 p u v = z := ⟨_, rfl⟩
                rw [hzz] at dc1
                have HZ : Hid (at2 p (gi xs i0).toNat (gi xs k0).toNat = z) := Lib.hid (by rw [hu, hv]; exact hzz)
                have X1 := Lib.hid x1
                have X2 := Lib.hid x2
                have Hm' := Lib.hid hm'
                obtain ⟨r, hr⟩ : ∃ r, decide (z ∈ xs ++ t) = r := ⟨_, rfl⟩
                have Hr := Lib.hid hr
                clear hc hc1 hrow hu hv hzz x1 x2 y1 y2 hr hm'
                go_wp2_with fail
                go_quiet (fail)
                go_wp2_with fail
                refine (l00Has_any _ _ _ (xs ++ t) z r _ (hO.ext ((Ext.refl _).drewN _)).rdI Hr.out).mono ?_
                rintro e w5 ⟨rfl, rfl⟩
                cases r
                · have hO2 := hO.ext ((Ext.refl _).drewN nq)
                  have hE6 := hEx.drewN nq
                  have hsz := hE6.size
                  clear hO hEx
                  go_wp2_with (at_builtin; refine app_I rfl _ _ rfl hO2 hsz rfl (by omega) rfl rfl ?_; intro a7 d7 w7 hrow honly hmv)
                  have hE7 := hE6.app hO2 honly (Nat.le_refl _)
                  rw [List.append_assoc] at hrow
                  clear hO2 hE6 honly hmv hsz
                  go_wp2
                  go_roundg (m - (k0 + 1))
                  case measure => go_light; omega
                  case rel =>
                    go_light
                    refine ⟨k0 + 1, m' + 1, a7, d7, t ++ [z], by omega, rfl, by go_num, rfl, hrow, Lib.hid ?_, Lib.hid (fun i k h1 h2 => ?_), Lib.hid (fun k h => ?_), hE7⟩
                    · have := HC'.out.step X1.out X2.out (by rw [HZ.out]; simpa using Hr.out)
                      rw [HZ.out, List.append_assoc] at this
                      exact this
                    · rw [← List.append_assoc]; exact List.mem_append_left _ (HP.out i k h1 h2)
                    · rw [← List.append_assoc]
                      by_cases e : k = k0
                      · subst e; rw [HZ.out]; simp
                      · exact List.mem_append_left _ (HP2.out k (by omega))
                · go_wp2
                  go_roundg (m - (k0 + 1))
                  case measure => go_light; omega
                  case rel => go_light; exact ⟨k0 + 1, m', _, d', t, by omega, rfl, by go_num, rfl, hO.ext ((Ext.refl _).drewN _), HC', HP, Lib.hid (fun k h => by
                    by_cases e : k = k0
                    · subst e; rw [HZ.out]; simpa using Hr.out
                    · exact HP2.out k (by omega)), hEx.drewN _⟩
              · have hz2 : ¬ (k0 : Int) < (m : Int) := by omega
                obtain rfl : m = k0 := by omega
                go_wp2
                go_roundg (m - (i0 + 1))
                case measure => go_light; omega
                case rel => go_light; exact ⟨i0 + 1, m', ad', d', t, by omega, rfl, by go_num, rfl, hO, HC', Lib.hid (fun i k h1 h2 => by
                  by_cases e : i = i0
                  · subst e; exact HP2.out k h2
                  · exact HP.out i k (by omega) h2), hEx⟩
          · have hz1 : ¬ (i0 : Int) < (m : Int) := by omega
            obtain rfl : m = i0 := by omega
            have hm' := hO.len
            have hm10 : m' ≤ n := by rw [hm']; exact HC'.out.len HR.out HS.out
            have Hm' := Lib.hid hm'
            clear hm'
            go_wp2_with fail
            refine (l21Sorted_any _ _ _ (xs ++ t) _ hO.rdI (by omega)).mono ?_
            rintro e w9 ⟨a9, n9, c9, rfl, hO9, hE9⟩
            have hn9 : n9 = m' := by have h1 := hO9.len; have h2 := (List.mergeSort_perm (xs ++ t) leb).length_eq; have := Hm'.out; omega
            subst hn9
            have hO10 := hO9.base hEx.size
            have hEy := hEx.trans hE9
            clear hO hO9 hE9 hEx
            by_cases hsame : n9 = m
            · subst hsame
              have he1 : ((n9 : Int) == (n9 : Int)) = true := by simp
              have Ht : Hid (t = []) := Lib.hid (by have h1 := Hm'.out; have h2 := Hmx.out; rw [List.length_append] at h1; exact List.eq_nil_of_length_eq_zero (by omega))
              go_wp2
              go_ret2
              refine RetIC.mk_ hO10 hE2.size ?_ (by rw [clC, if_pos Hbb.out, if_pos HI.out]) (hE2.trans hEy)
              rw [clM, if_pos Hbb.out, if_pos HI.out, ← Hl.out]
              have hc := HC'.out
              have hpp := HP.out
              rw [Ht.out, List.append_nil] at hc hpp ⊢
              refine hc.done HR.out HS.out (fun x y hx hy => ?_)
              obtain ⟨i, hi, rfl⟩ := mem_gi hx
              obtain ⟨k, hk, rfl⟩ := mem_gi hy
              exact hpp i k (by have := Hmx.out; omega) (by have := Hmx.out; omega)
            · have he1 : ((n9 : Int) == (m : Int)) = false := by simp; omega
              have hgt : m < n9 := by have h1 := Hm'.out; have h2 := Hmx.out; rw [List.length_append] at h1; omega
              go_wp2
              go_roundg (11 - n9)
              case measure => go_light; omega
              case rel => go_light; exact ⟨n9, a9, c9, _, rfl, rfl, hO10, Lib.hid (HC'.out.perm (List.mergeSort_perm _ _)), hEy⟩
    · rw [hi]
      have HI : Hid (pb (Rises S 0 ((p.length : Int) - 1)) = false) := Lib.hid (by rw [← Hl.out]; exact hi)
      go_wp2
      go_ret2
      exact RetIC.nil_ (by rw [clM, if_pos Hbb.out, HI.out]; rfl) (by rw [clC, if_pos Hbb.out, HI.out]; rfl) hE2
  · rw [hb]
    go_wp2
    go_ret2
    exact RetIC.nil_ (by rw [clM, hb]; rfl) (by rw [clC, hb]; rfl) hE

/-- One block is not another. -/
def Apart (a b : Option Addr) : Prop := ∀ g, blk a = some g → blk b ≠ some g
theorem Apart.moved {w : World} {B : Nat} {a ad ad' : Option Addr} {n c : Nat} {xs : List Int} (h : Apart a ad) (ho : OwnI w B a n c xs) (hm : Moved w ad ad') : Apart a ad' := by
  intro g hg he
  rcases hm with h1 | ⟨g', h1, h2⟩
  · exact h g hg (by rw [← h1]; exact he)
  · have := (ho.lt hg).2
    rw [he] at h1
    cases h1
    omega

set_option maxRecDepth 100000 in
set_option maxHeartbeats 3200000 in
theorem implClo (a : Option Addr) (n c : Nat) (p : List (List Int)) (a' : Option Addr) (n' c' : Nat) (S : List Int) (w : World) (hp : RdR w a n c p) (_ : p.length + tot p ≤ 1048576) (hq : RdI w a' n' c' S) (hn' : n' ≤ 1048576) :
    Calls Try.prog 25 #[.slice a n c, .slice a' n' c'] w (RetIC w (clM p S) (clC p S)) := by
  have hb1 := hp.le
  have hb2 := hp.max
  have hb3 := hq.le
  have hb4 := hq.max
  have Hl := Lib.hid hp.len
  have Hq := Lib.hid hq.len
  go_enter Try.func25, Try.ntmps25
  go_wp2_with fail
  refine (validSquare_any _ _ _ p _ hp).mono ?_
  rintro e w2 ⟨rfl, hE⟩
  rcases pbc (SqOk p) with ⟨hb, Hp⟩ | ⟨hb, Hp⟩
  · rw [hb]
    have hrng := Hp.out.rng Hl.out
    have hn : n ≤ 10 := hrng.2.1
    have HR := Lib.hid hrng
    have Hbb := Lib.hid hb
    clear hrng hb
    go_wp2_with fail
    refine (sizeR_any _ _ _ _).mono ?_
    rintro e w2' ⟨rfl, rfl⟩
    go_wp2_with fail
    refine (validSet_any _ _ _ S _ _ (hq.ext hE)).mono ?_
    rintro e w2' ⟨rfl, rfl⟩
    rw [pb_congr (show SetOk S n ↔ Rises S 0 ((n : Int) - 1) from ⟨fun h => h.2, fun h => ⟨by omega, h⟩⟩)]
    rcases pbc (Rises S 0 ((n : Int) - 1)) with ⟨hi, Hi⟩ | ⟨hi, Hi⟩
    · rw [hi]
      have HI : Hid (pb (Rises S 0 ((p.length : Int) - 1)) = true) := Lib.hid (by rw [← Hl.out]; exact hi)
      have HS := Lib.hid (Rises.bnd Hi.out)
      clear hi
      go_wp2_with fail
      refine (slClone_any _ _ _ S _ (hq.ext hE) (by omega)).mono ?_
      rintro e w3 ⟨a6, n6, c6, rfl, hO0, hE3⟩
      go_wp2
      go_loopg [6, 7] (2 * (11 - n6) + 1) (fun gh s f wr => ∃ (m : Nat) (ad : Option Addr) (d : Nat) (xs : List Int) (fl : Bool), gh = 2 * (11 - m) + (if fl then 1 else 0) ∧ s = .slice ad m d ∧ f = .bool fl ∧ OwnI wr w2.heap.size ad m d xs ∧ Hid (CloInv p S xs) ∧
        Hid (fl = false → ∀ i k, i < m → k < m → at2 p (gi xs i).toNat (gi xs k).toNat ∈ xs) ∧ Ext w2 wr)
      case atStart => exact ⟨n6, a6, c6, S, true, rfl, rfl, rfl, hO0, Lib.hid (CloInv.start Hi.out.nodup), Lib.hid (fun h => by cases h), hE3⟩
      case round =>
        clear hO0 hE3
        obtain ⟨m, ad, d, xs, fl, rfl, rfl, rfl, hO, HC, HF, hEx⟩ := hrel
        have hmx := hO.len
        have hm : m ≤ n := by rw [hmx]; exact HC.out.len HR.out HS.out
        have Hmx := Lib.hid hmx
        clear hmx
        cases fl
        · go_wp2_with fail
          refine (slSort_any _ hO (by omega)).mono ?_
          rintro e w9 ⟨rfl, hO9, honly⟩
          have hE9 := hEx.app hO honly (Nat.le_refl _)
          go_wp2
          go_ret2
          refine RetIC.mk_ hO9 hE.size ?_ (by rw [clC, if_pos Hbb.out, if_pos HI.out]) (hE.trans hE9)
          rw [clM, if_pos Hbb.out, if_pos HI.out, ← Hl.out]
          refine HC.out.done HR.out HS.out (fun x y hx hy => ?_)
          obtain ⟨i, hi, rfl⟩ := mem_gi hx
          obtain ⟨k, hk, rfl⟩ := mem_gi hy
          exact HF.out (by trivial) i k (by have := Hmx.out; omega) (by have := Hmx.out; omega)
        · clear HF
          go_wp2_with fail
          refine (slClone_any _ _ _ xs _ hO.rdI (by omega)).mono ?_
          rintro e wc ⟨a1, n1, c1, rfl, hA0, hEc⟩
          obtain rfl : m = n1 := by rw [Hmx.out]; exact hA0.len.symm
          have hap0 : Apart a1 ad := fun g h1 h2 => by have := (hO.lt h2).2; have := (hA0.lt h1).1; omega
          have hO1 := hO.ext hEc
          have hA1 := hA0.base hEx.size
          have hEy := hEx.trans hEc
          clear hO hA0 hEc hEx
          go_wp2
          go_loopg [6, 7, 26] m (fun gh s f i wi => ∃ (i0 m' : Nat) (ad' : Option Addr) (d' : Nat) (zs : List Int) (fl : Bool), i0 ≤ m ∧ gh = m - i0 ∧ i = .int .i64 i0 ∧ s = .slice ad' m' d' ∧ f = .bool fl ∧
            OwnI wi w2.heap.size ad' m' d' zs ∧ OwnI wi w2.heap.size a1 m c1 xs ∧ Hid (Apart a1 ad') ∧ Hid (CloInv p S zs) ∧ Hid (∀ v, v ∈ xs → v ∈ zs) ∧
            Hid (fl = false → zs = xs ∧ ∀ i k, i < i0 → k < m → at2 p (gi xs i).toNat (gi xs k).toNat ∈ xs) ∧ Hid (fl = true → m < m') ∧ Ext w2 wi)
          case atStart => exact ⟨0, m, ad, d, xs, false, Nat.zero_le _, rfl, rfl, rfl, rfl, hO1, hA1, hap0, HC, Lib.hid (fun v h => h), Lib.hid (fun _ => ⟨rfl, fun i k h => absurd h (Nat.not_lt_zero _)⟩), Lib.hid (fun h => by cases h), hEy⟩
          case round =>
            clear hO1 hA1 hap0 hEy
            obtain ⟨i0, m2, ad2, d2, ys, f2, hi0, rfl, rfl, rfl, rfl, hO, hA, HAp, HC2, HX2, HF2, HG2, hEx⟩ := hrel
            have hm2 := hO.len
            have hm2n : m2 ≤ n := by rw [hm2]; exact HC2.out.len HR.out HS.out
            have Hm2 := Lib.hid hm2
            clear hm2
            by_cases hin : i0 < m
            · have hz1 : (i0 : Int) < (m : Int) := by omega
              obtain ⟨g1, rfl, _, q1, _⟩ := hA.giI hin
              have x1 : gi xs i0 ∈ ys := HX2.out _ (gi_mem (by have := Hmx.out; omega))
              have y1 := HC2.out.lt HR.out HS.out x1
              obtain ⟨u, hu⟩ : ∃ u : Nat, gi xs i0 = u := ⟨(gi xs i0).toNat, by omega⟩
              have hun : u < n := by omega
              have i1 : (u : Int) < (n : Int) := by omega
              obtain ⟨b, o, ai, ci, rfl, hc, hrow⟩ := hp.row HR.out.1 hun
              rw [hu] at q1
              have X1 := Lib.hid x1
              have HU := Lib.hid hu
              clear x1 y1 hu
              have hgi := hA.le
              go_wp2_with fail
              refine (slClone_any _ _ _ ys _ hO.rdI (by omega)).mono ?_
              rintro e wd ⟨a3, n3, c3, rfl, hD0, hEd⟩
              obtain rfl : m2 = n3 := by rw [Hm2.out]; exact hD0.len.symm
              have hap3 : Apart a3 ad2 := fun g h1 h2 => by have := (hO.lt h2).2; have := (hD0.lt h1).1; omega
              have hO1 := hO.ext hEd
              have hA1 := hA.ext hEd
              have hD1 := hD0.base hEx.size
              have hEy := hEx.trans hEd
              have hbd := hD0.le
              clear hO hA hD0 hEd hEx q1
              go_wp2
              go_loopg [6, 7, 33] m2 (fun gh s f j wj => ∃ (j0 m' : Nat) (ad' : Option Addr) (d' : Nat) (zs : List Int) (fl : Bool), j0 ≤ m2 ∧ gh = m2 - j0 ∧ j = .int .i64 j0 ∧ s = .slice ad' m' d' ∧ f = .bool fl ∧ m2 ≤ m' ∧
                OwnI wj w2.heap.size ad' m' d' zs ∧ OwnI wj w2.heap.size (some ⟨g1, 0, none⟩) m c1 xs ∧ OwnI wj w2.heap.size a3 m2 c3 ys ∧ Hid (Apart (some ⟨g1, 0, none⟩) ad') ∧ Hid (Apart a3 ad') ∧ Hid (CloInv p S zs) ∧ Hid (∀ v, v ∈ ys → v ∈ zs) ∧
                Hid (fl = false → f2 = false ∧ zs = ys ∧ ∀ j, j < j0 → at2 p (gi xs i0).toNat (gi ys j).toNat ∈ zs) ∧ Hid (fl = true → m < m') ∧ Ext w2 wj)
              case atStart => exact ⟨0, m2, ad2, d2, ys, f2, Nat.zero_le _, rfl, rfl, rfl, rfl, Nat.le_refl _, hO1, hA1, hD1, HAp, hap3, HC2, Lib.hid (fun v h => h), Lib.hid (fun h => ⟨h, rfl, fun j h => absurd h (Nat.not_lt_zero _)⟩), HG2, hEy⟩
              case round =>
                clear hO1 hA1 hD1 hap3 hEy
                obtain ⟨j0, m3, ad3, d3, zs, f3, hj0, rfl, rfl, rfl, rfl, hm23, hO, hA, hD, HAp1, HAp3, HC3, HX3, HF3, HG3, hEx⟩ := hrel
                have hm3 := hO.len
                have hm3n : m3 ≤ n := by rw [hm3]; exact HC3.out.len HR.out HS.out
                clear hm3
                by_cases hjn : j0 < m2
                · have hz2 : (j0 : Int) < (m2 : Int) := by omega
                  obtain ⟨g3, rfl, _, q3, _⟩ := hD.giI hjn
                  have x2 : gi ys j0 ∈ zs := HX3.out _ (gi_mem (by have := Hm2.out; omega))
                  have y2 := HC3.out.lt HR.out HS.out x2
                  obtain ⟨v, hv⟩ : ∃ v : Nat, gi ys j0 = v := ⟨(gi ys j0).toNat, by omega⟩
                  have hvn : v < n := by omega
                  have i2 : (v : Int) < (n : Int) := by omega
                  obtain ⟨b1, o1, rfl, hc1⟩ := hrow.cell2 hvn
                  have dc := (hE.trans hEx).cell hc
                  have dc1 := (hE.trans hEx).cell hc1
                  rw [hv] at q3
                  obtain ⟨z, hzz⟩ : ∃ z, at2 p u v = z := ⟨_, rfl⟩
                  rw [hzz] at dc1
                  have HZ : Hid (at2 p (gi xs i0).toNat (gi ys j0).toNat = z) := Lib.hid (by rw [HU.out, hv]; exact hzz)
                  have X2 := Lib.hid x2
                  obtain ⟨r, hr⟩ : ∃ r, decide (z ∈ zs) = r := ⟨_, rfl⟩
                  have Hr := Lib.hid hr
                  clear hv hzz x2 y2 hr
                  go_wp2_with fail
                  refine (slContains_any _ _ _ zs z r _ hO.rdI Hr.out).mono ?_
                  rintro e w5 ⟨rfl, rfl⟩
                  cases r
                  · have hsz := hEx.size
                    go_wp2_with (at_builtin; refine app_I rfl _ _ rfl hO hsz rfl (by omega) rfl rfl ?_; intro a7 d7 w7 hrow7 honly hmv)
                    have hE7 := hEx.app hO honly (Nat.le_refl _)
                    have hA7 := hA.only honly (fun g h1 h2 => HAp1.out g h1 h2)
                    have hD7 := hD.only honly (fun g h1 h2 => HAp3.out g h1 h2)
                    have A1 := Lib.hid (HAp1.out.moved hA hmv)
                    have A3 := Lib.hid (HAp3.out.moved hD hmv)
                    clear hO hEx honly hmv hsz hA hD HAp1 HAp3 q3 dc dc1
                    go_wp2
                    go_roundg (m2 - (j0 + 1))
                    case measure => go_light; omega
                    case rel =>
                      go_light
                      refine ⟨j0 + 1, m3 + 1, a7, d7, zs ++ [z], true, by omega, rfl, by go_num, rfl, rfl, by omega, hrow7, hA7, hD7, A1, A3, Lib.hid ?_, Lib.hid (fun v h => List.mem_append_left _ (HX3.out v h)), Lib.hid (fun h => by cases h), Lib.hid (fun _ => ?_), hE7⟩
                      · have := HC3.out.step (HX3.out _ X1.out) X2.out (by rw [HZ.out]; simpa using Hr.out)
                        rwa [HZ.out] at this
                      · have h1 := Hm2.out
                        have h2 := Hmx.out
                        have h3 := List.Nodup.length_le_of_subset (l₁ := xs) (l₂ := ys) (List.Nodup.sublist (List.Sublist.refl _) HC.out.1) (fun v hv => HX2.out v hv)
                        omega
                  · clear q3 dc dc1
                    go_wp2
                    go_roundg (m2 - (j0 + 1))
                    case measure => go_light; omega
                    case rel => go_light; exact ⟨j0 + 1, m3, _, d3, zs, f3, by omega, rfl, by go_num, rfl, rfl, hm23, hO, hA, hD, HAp1, HAp3, HC3, HX3, Lib.hid (fun h => ⟨(HF3.out h).1, (HF3.out h).2.1, fun j hj => by
                      by_cases e : j = j0
                      · subst e; rw [HZ.out]; simpa using Hr.out
                      · exact (HF3.out h).2.2 j (by omega)⟩), HG3, hEx⟩
                · have hz2 : ¬ (j0 : Int) < (m2 : Int) := by omega
                  obtain rfl : m2 = j0 := by omega
                  go_wp2
                  go_roundg (m - (i0 + 1))
                  case measure => go_light; omega
                  case rel => go_light; exact ⟨i0 + 1, m3, ad3, d3, zs, f3, by omega, rfl, by go_num, rfl, rfl, hO, hA, HAp1, HC3, Lib.hid (fun v h => HX3.out v (HX2.out v h)), Lib.hid (fun h => by
                    obtain ⟨e1, e2, e3⟩ := HF3.out h
                    obtain ⟨e4, e5⟩ := HF2.out e1
                    have e6 : zs = xs := e2.trans e4
                    refine ⟨e6, fun i k h1 h2 => ?_⟩
                    by_cases e : i = i0
                    · subst e
                      have := e3 k (by have h3 := Hm2.out; rw [e4, ← Hmx.out] at h3; omega)
                      rw [e6, e4] at this
                      exact this
                    · exact e5 i k (by omega) h2), HG3, hEx⟩
            · have hz1 : ¬ (i0 : Int) < (m : Int) := by omega
              obtain rfl : m = i0 := by omega
              go_wp2
              go_roundg (2 * (11 - m2) + (if f2 then 1 else 0))
              case measure =>
                go_light
                cases f2
                · have h1 := (HF2.out rfl).1
                  have h2 := Hm2.out
                  have h3 := Hmx.out
                  rw [h1] at h2
                  have : m2 = m := by omega
                  simp
                  omega
                · have := HG2.out rfl
                  simp
                  omega
              case rel => go_light; exact ⟨m2, ad2, d2, ys, f2, rfl, rfl, rfl, hO, HC2, Lib.hid (fun h => by
                obtain ⟨e1, e2⟩ := HF2.out h
                have h2 := Hm2.out
                have h3 := Hmx.out
                rw [e1] at h2
                have e3 : m2 = m := by omega
                subst e1
                rw [e3]
                exact e2), hEx⟩
    · rw [hi]
      have HI : Hid (pb (Rises S 0 ((p.length : Int) - 1)) = false) := Lib.hid (by rw [← Hl.out]; exact hi)
      go_wp2
      go_ret2
      exact RetIC.nil_ (by rw [clM, if_pos Hbb.out, HI.out]; rfl) (by rw [clC, if_pos Hbb.out, HI.out]; rfl) hE
  · rw [hb]
    go_wp2
    go_ret2
    exact RetIC.nil_ (by rw [clM, hb]; rfl) (by rw [clC, hb]; rfl) hE
end Go.Proofs.Ytkapkieeafhaoaa
