/- Prime powers, digits and remainders by the program. Conditions: none. -/
import Derived.Test.YtgggbicmmijlnaaFldP
import Derived.Test.YtgggbicmmijlnaaIn
import Derived.Test.YtgggbicmmijlnaaSl
import Derived.Test.YtgggbicmmijlnaaApp
namespace Go.Proofs.Ytgggbicmmijlnaa
open Go.RowKit

def nats (l : List Nat) : List Int := l.map fun x : Nat => (x : Int)
theorem nats_snoc (l : List Nat) (x : Nat) : nats l ++ [(x : Int)] = nats (l ++ [x]) := by simp [nats]
theorem nats_len (l : List Nat) : (nats l).length = l.length := by simp [nats]
theorem nats_gi {l : List Nat} {k : Nat} (h : k < l.length) : gi (nats l) k = (l.getD k 0 : Nat) := gi_of (by simp [nats, h])
theorem fac_down {p n : Nat} (hp : 2 ≤ p) (hn : 1 ≤ n) (h : n % p = 0) : 1 ≤ n / p ∧ n / p + 1 ≤ n := by
  have h1 := Nat.div_add_mod n p
  rw [h, Nat.add_zero] at h1
  obtain ⟨q, hq⟩ : ∃ q, n / p = q := ⟨_, rfl⟩
  rw [hq] at h1 ⊢
  have h2 : 1 ≤ q := by
    apply Classical.byContradiction
    intro h0
    rw [show q = 0 by omega, Nat.mul_zero] at h1
    omega
  have h3 := Nat.mul_le_mul_right q hp
  omega

set_option maxRecDepth 100000 in
set_option maxHeartbeats 3200000 in
theorem factorsOf_any (q : Nat) (w : World) (h1 : 1 ≤ q) (h2 : q ≤ 1000000) :
    Calls Try.prog 98 #[.int .i64 q] w (RetI w (nats (fac q))) := by
  have hin : decide ((1 : Int) ≤ (q : Int) ∧ (q : Int) ≤ 1000000) = true := decide_eq_true (by omega)
  have Hin := Lib.hid hin
  clear hin
  go_enter Try.func98, Try.ntmps98
  go_wp2_with fail
  refine (within_any _ _ _ true Hin.out _).mono ?_
  rintro e w2 ⟨rfl, rfl⟩
  go_wp2
  go_loopg [0, 3, 4] 1000 (fun gh nv fv pv wr => ∃ (n p m d : Nat) (ad : Option Addr) (acc : List Nat), gh = 1002 - p ∧ nv = .int .i64 n ∧ fv = .slice ad m d ∧ pv = .int .i64 p ∧ 2 ≤ p ∧ p ≤ 1002 ∧ 1 ≤ n ∧ n ≤ 1000000 ∧ m + n ≤ 1000001 ∧ OwnI wr w.heap.size ad m d (nats acc) ∧ Hid (facO (1002 - p) p n acc = fac q) ∧ Ext w wr)
  case atStart => exact ⟨q, 2, 0, 0, none, [], rfl, rfl, rfl, rfl, by omega, by omega, h1, h2, by omega, Own.nil_ _ _ _ _, Lib.hid rfl, Ext.refl _⟩
  case round =>
    obtain ⟨n, p, m, d, ad, acc, rfl, rfl, rfl, rfl, hp2, hp, hn1, hn2, hmn, hO, HF, hE⟩ := hrel
    have hpp1 : (0 : Int) ≤ (p : Int) * (p : Int) := by exact_mod_cast Nat.zero_le (p * p)
    have hpp2 : (p : Int) * (p : Int) ≤ 1004004 := by have h9 : p * p ≤ 1004004 := Nat.le_trans (Nat.mul_le_mul hp hp) (by decide); have h10 := Int.ofNat_le.2 h9; rw [Int.natCast_mul] at h10; omega
    by_cases hlt : p * p ≤ n
    · have hzl : (p : Int) * (p : Int) ≤ (n : Int) := by exact_mod_cast hlt
      have hp1000 : p ≤ 1000 := by
        apply Classical.byContradiction
        intro h
        have := Nat.mul_le_mul (show 1001 ≤ p by omega) (show 1001 ≤ p by omega)
        omega
      have HF2 : Hid (facO (1002 - (p + 1)) (p + 1) (facI n p n acc).2 (facI n p n acc).1 = fac q) := Lib.hid (by
        have := HF.out
        rw [show 1002 - p = (1002 - (p + 1)) + 1 by omega, facO, if_pos hlt] at this
        exact this)
      go_wp2
      go_loopg [0, 3] (1 * n) (fun gh nv fv wi => ∃ (n' m' d' f : Nat) (ad' : Option Addr) (acc' : List Nat), gh = 1 * n' ∧ nv = .int .i64 n' ∧ fv = .slice ad' m' d' ∧ 1 ≤ n' ∧ n' ≤ f ∧ n' ≤ 1000000 ∧ m' + n' ≤ 1000001 ∧ OwnI wi w.heap.size ad' m' d' (nats acc') ∧ Hid (facI f p n' acc' = facI n p n acc) ∧ Ext w wi)
      case atStart => exact ⟨n, m, d, n, ad, acc, rfl, rfl, rfl, hn1, Nat.le_refl _, hn2, hmn, hO, Lib.hid rfl, hE⟩
      case round =>
        clear hO hE
        obtain ⟨n', m', d', f, ad', acc', rfl, rfl, rfl, hn1', hnf, hn2', hmn', hO, HI, hE⟩ := hrel
        obtain ⟨f', rfl⟩ : ∃ f', f = f' + 1 := ⟨f - 1, by omega⟩
        have hpz : (1 : Int) ≤ (p : Int) := by omega
        by_cases hr : n' % p = 0
        · have hrz : (n' : Int) % (p : Int) = 0 := by exact_mod_cast hr
          have hrb : ((n' : Int) % (p : Int) == 0) = true := by rw [hrz]; rfl
          obtain ⟨hq1, hq2⟩ := fac_down hp2 hn1' hr
          obtain ⟨n2, hn2q⟩ : ∃ n2, n' / p = n2 := ⟨_, rfl⟩
          have hqz : (n' : Int) / (p : Int) = (n2 : Int) := by rw [← hn2q]; rfl
          rw [hn2q] at hq1 hq2
          have HI2 : Hid (facI f' p n2 (acc' ++ [p]) = facI n p n acc) := Lib.hid (by
            have := HI.out
            rw [facI, if_pos hr, hn2q] at this
            exact this)
          have hsz := hE.size
          clear hr hn2q hlt hzl
          go_wp2_with (at_builtin; refine app_I rfl _ _ rfl hO hsz rfl (by omega) rfl rfl ?_; intro ad2 d2 w3 hrow honly hmv)
          rw [nats_snoc] at hrow
          have hE3 := hE.app hO honly (Nat.le_refl _)
          clear hO hE honly hmv hsz
          go_wp2
          go_roundg (1 * n2)
          case measure => go_light; omega
          case rel => go_light; exact ⟨n2, m' + 1, d2, f', ad2, acc' ++ [p], rfl, by go_num, rfl, hq1, by omega, by omega, by omega, hrow, HI2, hE3⟩
        · have hrz : (n' : Int) % (p : Int) ≠ 0 := by intro h; exact hr (by exact_mod_cast h)
          have hrb : ((n' : Int) % (p : Int) == 0) = false := by simp [hrz]
          have HI2 : Hid (facI n p n acc = (acc', n')) := Lib.hid (by
            have := HI.out
            rw [facI, if_neg hr] at this
            exact this.symm)
          have HF3 : Hid (facO (1002 - (p + 1)) (p + 1) n' acc' = fac q) := Lib.hid (by have := HF2.out; rw [HI2.out] at this; exact this)
          clear hr hrz hlt hzl
          go_wp2
          go_roundg (1002 - (p + 1))
          case measure => go_light; omega
          case rel => go_light; exact ⟨n', p + 1, m', d', ad', acc', rfl, rfl, rfl, by go_num, by omega, by omega, hn1', hn2', hmn', hO, HF3, hE⟩
    · have hzl : ¬ (p : Int) * (p : Int) ≤ (n : Int) := by intro h; exact hlt (by exact_mod_cast h)
      have HF2 : Hid ((if 1 < n then acc ++ [n] else acc) = fac q) := Lib.hid (by
        have := HF.out
        by_cases e : 1002 - p = 0
        · rw [e, facO] at this; exact this
        · rw [show 1002 - p = (1002 - (p + 1)) + 1 by omega, facO, if_neg hlt] at this; exact this)
      clear hlt
      by_cases hn : 1 < n
      · have hzn : decide ((1 : Int) < (n : Int)) = true := decide_eq_true (by omega)
        have HF3 : Hid (acc ++ [n] = fac q) := Lib.hid (by have := HF2.out; rwa [if_pos hn] at this)
        have hsz := hE.size
        go_wp2_with (at_builtin; refine app_I rfl _ _ rfl hO hsz rfl (by omega) rfl rfl ?_; intro ad2 d2 w3 hrow honly hmv)
        rw [nats_snoc, HF3.out] at hrow
        have hE3 := hE.app hO honly (Nat.le_refl _)
        clear hO hE honly hmv hsz
        go_wp2
        go_ret
        exact ⟨_, _, _, rfl, hrow, hE3⟩
      · have hzn : decide ((1 : Int) < (n : Int)) = false := decide_eq_false (by omega)
        have HF3 : Hid (acc = fac q) := Lib.hid (by have := HF2.out; rwa [if_neg hn] at this)
        rw [HF3.out] at hO
        go_wp2
        go_ret
        exact ⟨_, _, _, rfl, hO, hE⟩

theorem factorsOf_no (z : Int) (w : World) (h : ¬ (1 ≤ z ∧ z ≤ 1000000)) :
    Calls Try.prog 98 #[.int .i64 z] w (RetI w []) := by
  have Hin := Lib.hid (decide_eq_false h)
  clear h
  go_enter Try.func98, Try.ntmps98
  go_wp2_with fail
  refine (within_any _ _ _ false Hin.out _).mono ?_
  rintro e w2 ⟨rfl, rfl⟩
  go_wp2
  go_ret
  exact ⟨_, _, _, rfl, Own.nil_ _ _ _ _, Ext.refl _⟩

/-- The prime and the exponent of any number. -/
def ppz (z : Int) : Nat × Nat := if 1 ≤ z ∧ z ≤ 1000000 then pp z.toNat else (0, 0)
def facz (z : Int) : List Nat := if 1 ≤ z ∧ z ≤ 1000000 then fac z.toNat else []
theorem ppz_of (z : Int) : ppz z = match facz z with | [] => (0, 0) | p :: r => if r.all (fun x => x == p) then (p, r.length + 1) else (0, 0) := by
  rw [ppz, facz]
  split
  · rfl
  · rfl
def fz (z : Int) (k : Nat) : Nat := (facz z).getD k 0
theorem nats_fz {z : Int} {k : Nat} (h : k < (facz z).length) : gi (nats (facz z)) k = (fz z k : Nat) := nats_gi h
theorem ppz_nil {z : Int} (h : facz z = []) : ppz z = (0, 0) := by rw [ppz_of, h]
theorem ppz_bad {z : Int} {k : Nat} (hk : k < (facz z).length) (h : fz z k ≠ fz z 0) : ppz z = (0, 0) := by
  rw [ppz_of]
  cases e : facz z with
  | nil => rfl
  | cons p r =>
    rw [fz, fz, e] at h
    rw [e] at hk
    cases k with
    | zero => exact absurd rfl h
    | succ k =>
      have hk' : k < r.length := by simpa using hk
      have : r.all (fun x => x == p) = false := by
        apply Classical.byContradiction
        intro hn
        have ht : r.all (fun x => x == p) = true := by simpa using hn
        rw [List.all_eq_true] at ht
        have h2 := ht r[k] (List.getElem_mem hk')
        apply h
        simp [hk'] at h2 ⊢
        exact h2
      show (if (r.all fun x => x == p) = true then (p, r.length + 1) else (0, 0)) = (0, 0)
      rw [this]; rfl
theorem ppz_good {z : Int} (h0 : 0 < (facz z).length) (h : ∀ k, k < (facz z).length → fz z k = fz z 0) : ppz z = (fz z 0, (facz z).length) := by
  rw [ppz_of]
  cases e : facz z with
  | nil => rw [e] at h0; exact absurd h0 (Nat.lt_irrefl _)
  | cons p r =>
    have : r.all (fun x => x == p) = true := by
      rw [List.all_eq_true]
      intro x hx
      obtain ⟨k, hk, rfl⟩ := List.mem_iff_getElem.1 hx
      have := h (k + 1) (by rw [e]; simpa using hk)
      rw [fz, fz, e] at this
      simp [hk] at this
      simpa using this
    rw [fz, e]
    simp [this]

theorem factorsOf_z (z : Int) (w : World) : Calls Try.prog 98 #[.int .i64 z] w (RetI w (nats (facz z))) := by
  by_cases h : 1 ≤ z ∧ z ≤ 1000000
  · obtain ⟨q, rfl⟩ := Int.eq_ofNat_of_zero_le (show 0 ≤ z by omega)
    rw [facz, if_pos h, Int.toNat_natCast]
    exact factorsOf_any q w (by omega) (by omega)
  · rw [facz, if_neg h]
    exact factorsOf_no z w h
def RetPP (w : World) (z : Int) (e : Ending) (w' : World) : Prop := e = .returned (.tuple #[.int .i64 ((ppz z).1 : Nat), .int .i64 ((ppz z).2 : Nat)]) ∧ Ext w w'
theorem RetPP.zero {w w' : World} {z : Int} (h : ppz z = (0, 0)) (hE : Ext w w') : RetPP w z (.returned (.tuple #[.int .i64 0, .int .i64 0])) w' := ⟨by rw [h]; rfl, hE⟩
theorem RetPP.good {w w' : World} {z : Int} {p : Int} {n : Nat} (h : ppz z = (fz z 0, (facz z).length)) (hp : p = (fz z 0 : Nat)) (hn : n = (facz z).length) (hE : Ext w w') : RetPP w z (.returned (.tuple #[.int .i64 p, .int .i64 n])) w' := ⟨by rw [h, hp, hn], hE⟩
set_option maxRecDepth 100000 in
set_option maxHeartbeats 1600000 in
theorem primePower_any (z : Int) (w : World) : Calls Try.prog 78 #[.int .i64 z] w (RetPP w z) := by
  go_enter Try.func78, Try.ntmps78
  go_wp2_with fail
  refine (factorsOf_z z w).mono ?_
  rintro e w2 ⟨a, n, c, rfl, hO, hE⟩
  have hx := hO.rdI
  have hb1 := hx.le
  have hb2 := hx.max
  have Hn : Hid (n = (facz z).length) := Lib.hid (by rw [hx.len, nats_len])
  clear hO
  go_wp2
  go_loopg [11] n (fun gh ix wr => ∃ k : Nat, k ≤ n ∧ gh = n - k ∧ ix = .int .i64 k ∧ wr = w2 ∧ Hid (∀ i, i < k → fz z i = fz z 0))
  case atStart => exact ⟨0, Nat.zero_le _, rfl, rfl, rfl, Lib.hid (fun i h => absurd h (Nat.not_lt_zero _))⟩
  case round =>
    obtain ⟨k, hk, rfl, rfl, rfl, HK⟩ := hrel
    by_cases hlt : k < n
    · have hzk : (k : Int) < (n : Int) := by omega
      have hn0 : 0 < n := by omega
      have hnz : (0 : Int) < (n : Int) := by omega
      obtain ⟨b, o, rfl, hc0⟩ := hx.gi hn0
      rw [Nat.add_zero] at hc0
      obtain ⟨b', o', hh, hck⟩ := hx.gi hlt
      cases hh
      rw [nats_fz (by rw [← Hn.out]; exact hn0)] at hc0
      rw [nats_fz (by rw [← Hn.out]; exact hlt)] at hck
      by_cases he1 : fz z k = fz z 0
      · have heb : (((fz z k : Nat) : Int) != ((fz z 0 : Nat) : Int)) = false := by rw [he1]; simp
        have HK2 : Hid (∀ i, i < k + 1 → fz z i = fz z 0) := Lib.hid (fun i hi => by
          by_cases e : i = k
          · subst e; exact he1
          · exact HK.out i (by omega))
        clear he1
        go_wp2
        go_roundg (n - (k + 1))
        case measure => go_light; omega
        case rel => go_light; exact ⟨k + 1, by omega, rfl, by go_num, rfl, HK2⟩
      · have heb : (((fz z k : Nat) : Int) != ((fz z 0 : Nat) : Int)) = true := by simp only [bne_iff_ne]; intro h; exact he1 (by omega)
        have HZ := Lib.hid (ppz_bad (by rw [← Hn.out]; exact hlt) he1)
        clear he1
        go_wp2
        go_ret2
        exact RetPP.zero HZ.out hE
    · have hzk : ¬ (k : Int) < (n : Int) := by omega
      obtain rfl : n = k := by omega
      by_cases hn0 : n = 0
      · have hnb : ((n : Int) == 0) = true := by simp [hn0]
        have HZ := Lib.hid (ppz_nil (List.eq_nil_of_length_eq_zero (by rw [← Hn.out]; exact hn0)))
        clear hn0
        go_wp2
        go_ret2
        exact RetPP.zero HZ.out hE
      · have hnb : ((n : Int) == 0) = false := by simp [hn0]
        have hnp : 0 < n := by omega
        have hnz : (0 : Int) < (n : Int) := by omega
        obtain ⟨b, o, rfl, hc0⟩ := hx.gi hnp
        rw [Nat.add_zero] at hc0
        have HG := Lib.hid (nats_fz (show 0 < (facz z).length by rw [← Hn.out]; exact hnp))
        have HZ := Lib.hid (ppz_good (by rw [← Hn.out]; exact hnp) (by rw [← Hn.out]; exact HK.out))
        clear hn0
        go_wp2
        go_quiet ((go_at_call 66; exact quiet_same (sizeI_any _ _ _ _)))
        go_wp2
        go_ret2
        exact RetPP.good HZ.out HG.out Hn.out (hE.drewN _)
end Go.Proofs.Ytgggbicmmijlnaa
