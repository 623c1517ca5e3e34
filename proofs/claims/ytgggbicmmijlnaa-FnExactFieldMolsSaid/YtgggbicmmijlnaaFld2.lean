/- Digits, remainders and irreducible polynomials by the program. Conditions: none. -/
import Derived.Test.YtgggbicmmijlnaaFldP
import Derived.Test.YtgggbicmmijlnaaIn
import Derived.Test.YtgggbicmmijlnaaSl
import Derived.Test.YtgggbicmmijlnaaApp
import Derived.Test.YtgggbicmmijlnaaOwnL
namespace Go.Proofs.Ytgggbicmmijlnaa
open Go.RowKit

theorem digs_put {n p k i : Nat} (h : i < k) : (digs n p i ++ List.replicate (k - i) (0 : Int)).set i (dig n p i : Int) = digs n p (i + 1) ++ List.replicate (k - (i + 1)) 0 := by
  rw [List.set_append_right _ _ (by rw [digs_len]; exact Nat.le_refl _), digs_len, Nat.sub_self, show k - i = (k - (i + 1)) + 1 by omega, List.replicate_succ, List.set_cons_zero, digs_succ, List.append_assoc]
  rfl

set_option maxRecDepth 100000 in
set_option maxHeartbeats 1600000 in
theorem digitsOf_any (n p k : Nat) (w : World) (hn : n ≤ 1000000) (hp : 1 ≤ p) (hp2 : p ≤ 1000) (hk : k ≤ 1000) :
    Calls Try.prog 80 #[.int .i64 n, .int .i64 p, .int .i64 k] w (RetI w (digs n p k)) := by
  have hmk := run_make_row' (P := Try.prog) 56 2 (.int .i64 0) 8 Try.underlying56 Try.info_i64 rfl .i64 .i64 k (by omega) (by omega)
  have H0 := own_made w 2 (Value.int .i64) 0 k (by omega)
  have hE0 : Ext w (w.alloc (.cells (madeCells #[Value.int .i64 0] k) 2)) := (Ext.refl _).alloc _
  have hpz : (1 : Int) ≤ (p : Int) := by omega
  go_enter Try.func80, Try.ntmps80
  go_wp2
  clear hmk
  go_loopg [0, 13] k (fun gh nv ix wr => ∃ (i m : Nat), i ≤ k ∧ gh = k - i ∧ nv = .int .i64 m ∧ m ≤ 1000000 ∧ ix = .int .i64 i ∧ OwnI wr w.heap.size (some ⟨w.heap.size, 0, none⟩) k k (digs n p i ++ List.replicate (k - i) 0) ∧ Hid (m = n / p ^ i) ∧ Ext w wr)
  case atStart => exact ⟨0, n, Nat.zero_le _, rfl, rfl, hn, rfl, H0, Lib.hid (by simp), hE0⟩
  case round =>
    clear H0 hE0
    obtain ⟨i, m, hi, rfl, rfl, hm, rfl, hO, HM, hE⟩ := hrel
    by_cases hlt : i < k
    · have hzi : (i : Int) < (k : Int) := by omega
      obtain ⟨g, v, hg, hB, hc, hf, -⟩ := hO.at_ (k := i) hlt
      cases hg
      obtain ⟨r, hr⟩ : ∃ r, m % p = r := ⟨_, rfl⟩
      have hrz : (m : Int) % (p : Int) = (r : Int) := by rw [← hr]; rfl
      obtain ⟨q, hq⟩ : ∃ q, m / p = q := ⟨_, rfl⟩
      have hqz : (m : Int) / (p : Int) = (q : Int) := by rw [← hq]; rfl
      have hqm : q ≤ m := by rw [← hq]; exact Nat.div_le_self _ _
      have HM2 : Hid (q = n / p ^ (i + 1)) := Lib.hid (by rw [← hq, HM.out, dig_next])
      have HR : Hid (r = dig n p i) := Lib.hid (by rw [← hr, HM.out, dig])
      have hO2 := hO.set (k := i) rfl (r : Int)
      rw [HR.out, digs_put hlt, ← HR.out] at hO2
      have hE2 := hE.setCell (p := ⟨w.heap.size, i, none⟩) (Nat.le_refl _) (.int .i64 r)
      clear hO hE hr hq
      go_wp2
      go_roundg (k - (i + 1))
      case measure => go_light; omega
      case rel => go_light; exact ⟨i + 1, q, by omega, rfl, by go_num, by omega, by go_num, hO2, HM2, hE2⟩
    · have hzi : ¬ (i : Int) < (k : Int) := by omega
      obtain rfl : k = i := by omega
      rw [Nat.sub_self, List.replicate_zero, List.append_nil] at hO
      go_wp2
      go_ret
      exact ⟨_, _, _, rfl, hO, hE⟩

set_option maxRecDepth 100000 in
set_option maxHeartbeats 1600000 in
theorem powerUpTo_any (p k : Nat) (w : World) (hp : 1 ≤ p) (hk : k ≤ 1000) (hpk : p ^ k ≤ 64) (hp64 : p ≤ 64) :
    Calls Try.prog 99 #[.int .i64 p, .int .i64 k, .int .i64 64] w fun e w' => e = .returned (.int .i64 (p ^ k : Nat)) ∧ w = w' := by
  go_enter Try.func99, Try.ntmps99
  go_wp2
  go_loopg [1, 7] (1 * k) (fun gh kv pv wr => ∃ (i x : Nat), i ≤ k ∧ gh = 1 * i ∧ kv = .int .i64 i ∧ pv = .int .i64 x ∧ x ≤ 64 ∧ Hid (x * p ^ i = p ^ k) ∧ wr = w)
  case atStart => exact ⟨k, 1, Nat.le_refl _, rfl, rfl, rfl, by omega, Lib.hid (Nat.one_mul _), rfl⟩
  case round =>
    obtain ⟨i, x, hi, rfl, rfl, rfl, hx, HX, rfl⟩ := hrel
    have hxz : (x : Int) ≤ 64 := by omega
    have hxb : decide ((x : Int) ≤ 64) = true := decide_eq_true hxz
    cases i with
    | zero =>
      have hb : decide ((0 : Int) < ((0 : Nat) : Int)) = false := rfl
      have HX2 : Hid (x = p ^ k) := Lib.hid (by have := HX.out; simpa using this)
      go_wp2
      go_ret
      exact ⟨by rw [HX2.out]; rfl, rfl⟩
    | succ i =>
      have hb : decide ((0 : Int) < ((i + 1 : Nat) : Int)) = true := decide_eq_true (by omega)
      have hb2 : (0 : Int) < ((i + 1 : Nat) : Int) := by omega
      have hxp1 : (0 : Int) ≤ (x : Int) * (p : Int) := by exact_mod_cast Nat.zero_le (x * p)
      have HXP : Hid (x * p * p ^ i = p ^ k) := Lib.hid (by have := HX.out; rw [Nat.pow_succ, Nat.mul_comm (p ^ i), ← Nat.mul_assoc] at this; exact this)
      have hxp : x * p ≤ 64 := by
        have h1 := HXP.out
        have h2 : 1 ≤ p ^ i := Nat.one_le_pow _ _ hp
        have h3 := Nat.mul_le_mul_left (x * p) h2
        omega
      have hxp2 : (x : Int) * (p : Int) ≤ 64 := by exact_mod_cast hxp
      obtain ⟨y, hy⟩ : ∃ y, x * p = y := ⟨_, rfl⟩
      have hyz : (x : Int) * (p : Int) = (y : Int) := by rw [← hy]; exact_mod_cast rfl
      rw [hy] at hxp
      have HX2 : Hid (y * p ^ i = p ^ k) := Lib.hid (by rw [← hy]; exact HXP.out)
      have hi1 : (((i + 1 : Nat) : Int) - 1) = (i : Int) := by omega
      clear hy
      go_wp2
      go_roundg (1 * i)
      case measure => go_light; omega
      case rel => go_light; exact ⟨i, y, by omega, rfl, by go_num, by go_num, hxp, HX2, rfl⟩

set_option maxRecDepth 100000 in
set_option maxHeartbeats 1600000 in
theorem numberOf_any (a : Option Addr) (n c : Nat) (z : List Int) (p : Nat) (w : World) (hx : RdI w a n c z) (hz : Bnd z p) (hp : p ≤ 64) (hpn : p ^ n ≤ 64) (hn : n ≤ 1000) :
    Calls Try.prog 81 #[.slice a n c, .int .i64 p] w fun e w' => e = .returned (.int .i64 (num p z)) ∧ w = w' := by
  have hb1 := hx.le
  have hb2 := hx.max
  have Hl := Lib.hid hx.len
  have HZ := Lib.hid hz
  clear hz
  go_enter Try.func81, Try.ntmps81
  go_wp2
  go_loopg [5, 6] (1 * n) (fun gh sv ix wr => ∃ (i : Nat) (x : Int), i ≤ n ∧ gh = 1 * i ∧ sv = .int .i64 x ∧ ix = .int .i64 ((i : Int) - 1) ∧ 0 ≤ x ∧ x ≤ 64 ∧ Hid (x = num p (z.drop i)) ∧ wr = w)
  case atStart => exact ⟨n, 0, Nat.le_refl _, rfl, rfl, by go_num, by omega, by omega, Lib.hid (by rw [Hl.out, List.drop_length]; rfl), rfl⟩
  case round =>
    obtain ⟨i, x, hi, rfl, rfl, rfl, hx0, hx1, HX, rfl⟩ := hrel
    cases i with
    | zero =>
      have hb : decide ((0 : Int) ≤ ((0 : Nat) : Int) - 1) = false := rfl
      have hb' : ¬ ((0 : Int) ≤ ((0 : Nat) : Int) - 1) := by omega
      have HX2 : Hid (x = num p z) := Lib.hid (by have := HX.out; simpa using this)
      go_wp2
      go_ret
      exact ⟨by rw [HX2.out]; rfl, rfl⟩
    | succ i =>
      have hin : i < n := by omega
      have e1 : ((i + 1 : Nat) : Int) - 1 = (i : Int) := by omega
      rw [e1]
      have hb' : (0 : Int) ≤ (i : Int) := by omega
      have hzi : (i : Int) < (n : Int) := by omega
      obtain ⟨b, o, rfl, hc⟩ := hx.gi hin
      obtain ⟨hv0, hv1⟩ := HZ.out i
      obtain ⟨x', rfl⟩ := Int.eq_ofNat_of_zero_le hx0
      have hxp1 : (0 : Int) ≤ (x' : Int) * (p : Int) := by exact_mod_cast Nat.zero_le (x' * p)
      have hxp2 : (x' : Int) * (p : Int) ≤ 4096 := by have := Nat.mul_le_mul (show x' ≤ 64 by omega) hp; exact_mod_cast this
      have HX2 : Hid ((x' : Int) * (p : Int) + gi z i = num p (z.drop i)) := Lib.hid (by rw [num_drop (by rw [← Hl.out]; exact hin), ← HX.out])
      have hr : 0 ≤ (x' : Int) * (p : Int) + gi z i ∧ (x' : Int) * (p : Int) + gi z i ≤ 64 := by
        have h1 := num_range (p := p) HZ.out (n - i)
        rw [show z.length - (n - i) = i by rw [← Hl.out]; omega] at h1
        have h2 : p ^ (n - i) ≤ p ^ n := Nat.pow_le_pow_right (by omega) (by omega)
        rw [HX2.out]
        omega
      obtain ⟨hr0, hr1⟩ := hr
      go_wp2
      go_roundg (1 * i)
      case measure => go_light; omega
      case rel => go_light; exact ⟨i, (x' : Int) * (p : Int) + gi z i, by omega, rfl, by go_num, by go_num, hr0, hr1, HX2, rfl⟩

/-- A function value that is asked of numbers. -/
def AskI (F : FuncId) (f : Int → Bool) : Prop := ∀ (x : Int) (w1 : World), Calls Try.prog F #[.int .i64 x] w1 fun e w2 => e = .returned (.bool (f x)) ∧ w1 = w2
set_option maxHeartbeats 800000 in
theorem slIndexFuncI_any (a : Option Addr) (n c : Nat) (xs : List Int) (F : FuncId) (f : Int → Bool) (w : World) (hx : RdI w a n c xs) (hF : Enters F) (hf : AskI F f) :
    Calls Try.prog 108 #[.slice a n c, .func (.func F) #[] #[]] w fun e w' => ∃ r, e = .returned (.int .i64 r) ∧ -1 ≤ r ∧ Hid (decide (0 ≤ r) = xs.any f) ∧ w = w' := by
  have hb1 := hx.le
  have hb2 := hx.max
  have Hx := Lib.hid hx.len
  have Hf := Lib.hid hf
  clear hf
  have hen : ∀ (args : Array Value) (w : World), (callFunc F args).run Try.prog w = .ok (.enter F args) w := hF
  go_enter Try.func108, Try.ntmps108
  go_wp2
  go_loopg [8] n (fun g i wr => ∃ k : Nat, k ≤ n ∧ g = n - k ∧ i = .int .i64 k ∧ wr = w ∧ Hid (∀ j, j < k → f (gi xs j) = false))
  case atStart => exact ⟨0, Nat.zero_le _, rfl, rfl, rfl, Lib.hid (fun j h => absurd h (Nat.not_lt_zero _))⟩
  case round =>
    obtain ⟨k, hk, rfl, rfl, rfl, Hn⟩ := hrel
    by_cases hlt : k < n
    · obtain ⟨b1, o1, rfl, c1⟩ := hx.gi hlt
      have hz : (k : Int) < (n : Int) := by omega
      go_wp2_with fail
      refine (Hf.out _ _).mono ?_
      rintro e w2 ⟨rfl, rfl⟩
      obtain ⟨v, hv⟩ : ∃ v, f (gi xs k) = v := ⟨_, rfl⟩
      rw [hv]
      have Hv := Lib.hid hv
      clear hv
      cases v
      · have Hn2 : Hid (∀ j, j < k + 1 → f (gi xs j) = false) := Lib.hid (fun j hj => by
          by_cases e : j = k
          · subst e; exact Hv.out
          · exact Hn.out j (by omega))
        go_wp2
        go_roundg (n - (k + 1))
        case measure => go_light; omega
        case rel => go_light; exact ⟨k + 1, by omega, rfl, by go_num, rfl, Hn2⟩
      · have HA : Hid (decide (0 ≤ (k : Int)) = xs.any f) := Lib.hid (by
          rw [decide_eq_true (by omega)]
          exact (List.any_eq_true.2 ⟨_, gi_mem (xs := xs) (k := k) (by have := Hx.out; omega), Hv.out⟩).symm)
        go_wp2
        go_ret
        exact ⟨k, rfl, by omega, HA, rfl⟩
    · have hz : ¬ (k : Int) < (n : Int) := by omega
      have HA : Hid (decide ((0 : Int) ≤ -1) = xs.any f) := Lib.hid (by
        rw [decide_eq_false (by omega)]
        refine (List.any_eq_false.2 (fun x hx' => ?_)).symm
        obtain ⟨j, hj, rfl⟩ := mem_gi hx'
        rw [Hn.out j (by have := Hx.out; omega)]
        decide)
      go_wp2
      go_ret
      exact ⟨-1, rfl, by omega, HA, rfl⟩
set_option maxHeartbeats 800000 in
theorem slContainsFuncI_any (a : Option Addr) (n c : Nat) (xs : List Int) (F : FuncId) (f : Int → Bool) (w : World) (hx : RdI w a n c xs) (hF : Enters F) (hf : AskI F f) :
    Calls Try.prog 106 #[.slice a n c, .func (.func F) #[] #[]] w fun e w' => e = .returned (.bool (xs.any f)) ∧ w = w' := by
  have Hf := Lib.hid hf
  clear hf
  go_enter Try.func106, Try.ntmps106
  go_wp2_with fail
  refine (slIndexFuncI_any _ _ _ xs F f _ hx hF Hf.out).mono ?_
  rintro e w2 ⟨r, rfl, _, hm, rfl⟩
  go_wp2
  go_ret
  exact ⟨ret_bool hm.out, rfl⟩
set_option maxHeartbeats 800000 in
theorem isZero_asks : AskI 107 (fun x => x != 0) := by
  intro x w
  go_enter Try.func107, Try.ntmps107
  go_wp2
  go_ret
  exact ⟨rfl, rfl⟩
set_option maxHeartbeats 800000 in
theorem isZero_any (a : Option Addr) (n c : Nat) (xs : List Int) (w : World) (hx : RdI w a n c xs) :
    Calls Try.prog 100 #[.slice a n c] w fun e w' => e = .returned (.bool !(xs.any fun x => x != 0)) ∧ w = w' := by
  go_enter Try.func100, Try.ntmps100
  go_wp2_with fail
  refine (slContainsFuncI_any a n c xs _ _ _ hx (enters_of Try.func107 (by kernel_rfl) (by kernel_rfl)) isZero_asks).mono ?_
  rintro e w2 ⟨rfl, rfl⟩
  go_wp2
  go_ret
  exact ⟨rfl, rfl⟩
end Go.Proofs.Ytgggbicmmijlnaa
