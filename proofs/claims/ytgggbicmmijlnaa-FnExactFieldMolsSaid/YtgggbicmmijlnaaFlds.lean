/- Prime powers, digits and remainders by the reference. Conditions: none. -/
import Derived.Test.YtgggbicmmijlnaaFld3
import Derived.Test.YtgggbicmmijlnaaFld
namespace Go.Proofs.Ytgggbicmmijlnaa
open Go.RowKit

theorem leastD_at {q p : Nat} (hp2 : 2 ≤ p) (hpq : p ≤ q) (h : q % p = 0) (hb : ∀ d, 2 ≤ d → d < p → q % d ≠ 0) : leastD q = p := by
  have e : (List.range (q + 1)).find? (fun d => 2 ≤ d && q % d == 0) = some p := by
    rw [List.find?_eq_some_iff_getElem]
    refine ⟨by simp [hp2, h], p, by simp; omega, by simp, fun j hj => ?_⟩
    rw [List.getElem_range]
    by_cases hj2 : 2 ≤ j
    · have := hb j hj2 hj
      simp [this]
    · simp [hj2]
  rw [leastD, e]; rfl

def RetSp (w : World) (z : Int) (e : Ending) (w' : World) : Prop := e = .returned (.tuple #[.int .i64 ((sp z.toNat).1 : Nat), .int .i64 ((sp z.toNat).2 : Nat)]) ∧ w = w'
theorem RetSp.zero {w : World} {z : Int} (h : sp z.toNat = (0, 0)) : RetSp w z (.returned (.tuple #[.int .i64 0, .int .i64 0])) w := ⟨by rw [h]; rfl, rfl⟩
theorem RetSp.good {w : World} {z : Int} {p k : Nat} (h : sp z.toNat = (p, k)) : RetSp w z (.returned (.tuple #[.int .i64 p, .int .i64 k])) w := ⟨by rw [h], rfl⟩
set_option maxRecDepth 100000 in
set_option maxHeartbeats 3200000 in
theorem l03Split_any (z : Int) (w : World) : Calls Try.prog 73 #[.int .i64 z] w (RetSp w z) := by
  go_enter Try.func73, Try.ntmps73
  go_wp2_with fail
  by_cases hz : 2 ≤ z ∧ z ≤ 64
  · refine (l00In_any _ _ _ true (decide_eq_true hz) _).mono ?_
    rintro e w2 ⟨rfl, rfl⟩
    obtain ⟨q, rfl⟩ := Int.eq_ofNat_of_zero_le (show 0 ≤ z by omega)
    have hq2 : 2 ≤ q := by omega
    have hq64 : q ≤ 64 := by omega
    clear hz
    go_wp2
    go_loopg [4] (q - 2) (fun gh pv wr => ∃ p : Nat, 2 ≤ p ∧ p ≤ q ∧ gh = q - p ∧ pv = .int .i64 p ∧ wr = w ∧ Hid (∀ d, 2 ≤ d → d < p → q % d ≠ 0))
    case atStart => exact ⟨2, by omega, hq2, rfl, rfl, rfl, Lib.hid (fun d h1 h2 => by omega)⟩
    case round =>
      obtain ⟨p, hp2, hpq, rfl, rfl, rfl, HD⟩ := hrel
      have hpz : (1 : Int) ≤ (p : Int) := by omega
      by_cases hr : q % p = 0
      · have hrz : (q : Int) % (p : Int) = 0 := by exact_mod_cast hr
        have hrb : ((q : Int) % (p : Int) != 0) = false := by rw [hrz]; rfl
        have HP : Hid (leastD q = p) := Lib.hid (leastD_at hp2 hpq hr HD.out)
        have HSP : Hid (sp q = spR q p q 0) := Lib.hid (by rw [sp, if_pos ⟨hq2, hq64⟩, HP.out])
        clear hr
        go_wp2
        clear hrz hrb
        go_loopg [5, 6] (1 * q) (fun gh kv nv wi => ∃ (n k f : Nat), 1 ≤ n ∧ n ≤ f ∧ n ≤ 64 ∧ k + n ≤ 65 ∧ gh = 1 * n ∧ kv = .int .i64 k ∧ nv = .int .i64 n ∧ wi = wr ∧ Hid (spR f p n k = sp q))
        case atStart => exact ⟨q, 0, q, by omega, Nat.le_refl _, hq64, by omega, rfl, rfl, rfl, rfl, Lib.hid HSP.out.symm⟩
        case round =>
          obtain ⟨n, k, f, hn1, hnf, hn64, hkn, rfl, rfl, rfl, rfl, HS⟩ := hrel
          obtain ⟨f', rfl⟩ : ∃ f', f = f' + 1 := ⟨f - 1, by omega⟩
          by_cases hn : n ≤ 1
          · have hb : decide ((1 : Int) < (n : Int)) = false := decide_eq_false (by omega)
            have hb' : ¬ (1 : Int) < (n : Int) := by omega
            have HF : Hid (sp (q : Int).toNat = (p, k)) := Lib.hid (by rw [Int.toNat_natCast, ← HS.out, spR, if_pos hn])
            go_wp2
            go_ret2
            exact RetSp.good HF.out
          · have hb : decide ((1 : Int) < (n : Int)) = true := decide_eq_true (by omega)
            have hb' : (1 : Int) < (n : Int) := by omega
            by_cases hr : n % p = 0
            · have hrz : (n : Int) % (p : Int) = 0 := by exact_mod_cast hr
              have hrb : ((n : Int) % (p : Int) != 0) = false := by rw [hrz]; rfl
              obtain ⟨hq1, hq3⟩ := fac_down hp2 hn1 hr
              obtain ⟨n2, hn2q⟩ : ∃ n2, n / p = n2 := ⟨_, rfl⟩
              have hqz : (n : Int) / (p : Int) = (n2 : Int) := by rw [← hn2q]; rfl
              rw [hn2q] at hq1 hq3
              have HS2 : Hid (spR f' p n2 (k + 1) = sp q) := Lib.hid (by rw [← HS.out, spR, if_neg hn, if_pos hr, hn2q])
              clear hr hn2q hn
              go_wp2
              go_roundg (1 * n2)
              case measure => go_light; omega
              case rel => go_light; exact ⟨n2, k + 1, f', hq1, by omega, by omega, by omega, rfl, by go_num, rfl, rfl, HS2⟩
            · have hrz : (n : Int) % (p : Int) ≠ 0 := by intro h; exact hr (by exact_mod_cast h)
              have hrb : ((n : Int) % (p : Int) != 0) = true := by simp [hrz]
              have HF : Hid (sp (q : Int).toNat = (0, 0)) := Lib.hid (by rw [Int.toNat_natCast, ← HS.out, spR, if_neg hn, if_neg hr])
              clear hr hrz
              go_wp2
              go_ret2
              exact RetSp.zero HF.out
      · have hrz : (q : Int) % (p : Int) ≠ 0 := by intro h; exact hr (by exact_mod_cast h)
        have hrb : ((q : Int) % (p : Int) != 0) = true := by simp [hrz]
        have hpq2 : p ≠ q := fun e => hr (by rw [e]; exact Nat.mod_self q)
        have HD2 : Hid (∀ d, 2 ≤ d → d < p + 1 → q % d ≠ 0) := Lib.hid (fun d h1 h2 => by
          by_cases e : d = p
          · subst e; exact hr
          · exact HD.out d h1 (by omega))
        clear hr hrz
        go_wp2
        go_roundg (q - (p + 1))
        case measure => go_light; omega
        case rel => go_light; exact ⟨p + 1, by omega, by omega, rfl, by go_num, rfl, HD2⟩
  · have HF : Hid (sp z.toNat = (0, 0)) := Lib.hid (by rw [sp, if_neg (by omega)])
    refine (l00In_any _ _ _ false (decide_eq_false hz) _).mono ?_
    rintro e w2 ⟨rfl, rfl⟩
    clear hz
    go_wp2
    go_ret2
    exact RetSp.zero HF.out

set_option maxRecDepth 100000 in
set_option maxHeartbeats 1600000 in
theorem l03Digits_any (n p k : Nat) (w : World) (hn : n ≤ 1000000) (hp : 1 ≤ p) (hp2 : p ≤ 1000) (hk : k ≤ 1000) :
    Calls Try.prog 94 #[.int .i64 n, .int .i64 p, .int .i64 k] w (RetI w (digs n p k)) := by
  have H0 := Own.empty 2 (Value.int .i64) w
  have hpz : (1 : Int) ≤ (p : Int) := by omega
  go_enter Try.func94, Try.ntmps94
  go_wp2
  go_loopg [0, 2, 7] (1 * k) (fun gh nv kv sv wr => ∃ (i m r d : Nat) (ad : Option Addr), i + r = k ∧ gh = 1 * r ∧ nv = .int .i64 m ∧ m ≤ 1000000 ∧ kv = .int .i64 r ∧ sv = .slice ad i d ∧ OwnI wr w.heap.size ad i d (digs n p i) ∧ Hid (m = n / p ^ i) ∧ Ext w wr)
  case atStart => exact ⟨0, n, k, 0, _, by omega, rfl, rfl, hn, rfl, rfl, H0, Lib.hid (by simp), (Ext.refl _).alloc _⟩
  case round =>
    clear H0
    obtain ⟨i, m, r, d, ad, hir, rfl, rfl, hm, rfl, rfl, hO, HM, hE⟩ := hrel
    cases r with
    | zero =>
      have hb : decide ((0 : Int) < ((0 : Nat) : Int)) = false := rfl
      obtain rfl : i = k := by omega
      go_wp2
      go_ret
      exact ⟨_, _, _, rfl, hO, hE⟩
    | succ r =>
      have hb : decide ((0 : Int) < ((r + 1 : Nat) : Int)) = true := decide_eq_true (by omega)
      have hb2 : (0 : Int) < ((r + 1 : Nat) : Int) := by omega
      have e1 : ((r + 1 : Nat) : Int) - 1 = (r : Int) := by omega
      obtain ⟨v, hv⟩ : ∃ v, m % p = v := ⟨_, rfl⟩
      have hrz : (m : Int) % (p : Int) = (v : Int) := by rw [← hv]; rfl
      obtain ⟨q, hq⟩ : ∃ q, m / p = q := ⟨_, rfl⟩
      have hqz : (m : Int) / (p : Int) = (q : Int) := by rw [← hq]; rfl
      have hqm : q ≤ m := by rw [← hq]; exact Nat.div_le_self _ _
      have hvp : v < p := by rw [← hv]; exact Nat.mod_lt _ (by omega)
      have HM2 : Hid (q = n / p ^ (i + 1)) := Lib.hid (by rw [← hq, HM.out, dig_next])
      have HR : Hid ((v : Int) = (dig n p i : Int)) := Lib.hid (by rw [← hv, HM.out, dig])
      have hsz := hE.size
      clear hv hq
      go_wp2_with (at_builtin; refine app_I rfl _ _ rfl hO hsz rfl (by omega) rfl rfl ?_; intro ad2 d2 w3 hrow honly hmv)
      rw [HR.out, ← digs_succ] at hrow
      have hE3 := hE.app hO honly (Nat.le_refl _)
      clear hO hE honly hmv hsz
      go_wp2
      go_roundg (1 * r)
      case measure => go_light; omega
      case rel => go_light; exact ⟨i + 1, q, r, d2, ad2, by omega, rfl, by go_num, by omega, by go_num, rfl, hrow, HM2, hE3⟩

set_option maxRecDepth 100000 in
set_option maxHeartbeats 1600000 in
theorem l03Power_any (p k : Nat) (w : World) (hp : 1 ≤ p) (hk : k ≤ 1000) (hpk : p ^ k ≤ 64) (hp64 : p ≤ 64) :
    Calls Try.prog 105 #[.int .i64 p, .int .i64 k] w fun e w' => e = .returned (.int .i64 (p ^ k : Nat)) ∧ w = w' := by
  go_enter Try.func105, Try.ntmps105
  go_wp2
  go_loopg [1, 5] (1 * k) (fun gh kv pv wr => ∃ (i x : Nat), i ≤ k ∧ gh = 1 * i ∧ kv = .int .i64 i ∧ pv = .int .i64 x ∧ x ≤ 64 ∧ Hid (x * p ^ i = p ^ k) ∧ wr = w)
  case atStart => exact ⟨k, 1, Nat.le_refl _, rfl, rfl, rfl, by omega, Lib.hid (Nat.one_mul _), rfl⟩
  case round =>
    obtain ⟨i, x, hi, rfl, rfl, rfl, hx, HX, rfl⟩ := hrel
    cases i with
    | zero =>
      have hb : decide ((0 : Int) < ((0 : Nat) : Int)) = false := rfl
      have HX2 : Hid (x = p ^ k) := Lib.hid (by have := HX.out; simpa using this)
      go_wp2
      go_ret
      exact ⟨by rw [HX2.out]; rfl, rfl⟩
    | succ i =>
      have hb : decide ((0 : Int) < ((i + 1 : Nat) : Int)) = true := decide_eq_true (by omega)
      have hb2 : (0 : Int) < ((i + 1 : Nat) : Int) := by omega
      have hxp1 : (0 : Int) ≤ (x : Int) * (p : Int) := by exact_mod_cast Nat.zero_le (x * p)
      have HXP : Hid (x * p * p ^ i = p ^ k) := Lib.hid (by have := HX.out; rw [Nat.pow_succ, Nat.mul_comm (p ^ i), ← Nat.mul_assoc] at this; exact this)
      have hxp : x * p ≤ 64 := by
        have h1 := HXP.out
        have h2 : 1 ≤ p ^ i := Nat.one_le_pow _ _ hp
        have h3 := Nat.mul_le_mul_left (x * p) h2
        omega
      have hxp2 : (x : Int) * (p : Int) ≤ 64 := by exact_mod_cast hxp
      obtain ⟨y, hy⟩ : ∃ y, x * p = y := ⟨_, rfl⟩
      have hyz : (x : Int) * (p : Int) = (y : Int) := by rw [← hy]; exact_mod_cast rfl
      rw [hy] at hxp
      have HX2 : Hid (y * p ^ i = p ^ k) := Lib.hid (by rw [← hy]; exact HXP.out)
      have hi1 : (((i + 1 : Nat) : Int) - 1) = (i : Int) := by omega
      clear hy
      go_wp2
      go_roundg (1 * i)
      case measure => go_light; omega
      case rel => go_light; exact ⟨i, y, by omega, rfl, by go_num, by go_num, hxp, HX2, rfl⟩
end Go.Proofs.Ytgggbicmmijlnaa
