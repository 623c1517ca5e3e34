/- The permutations of three points by rank, of both. Conditions: none. -/
import Derived.Test.YtkapkieeafhaoaaIdn
import Derived.Test.YtkapkieeafhaoaaOwnL
import Derived.Test.YtkapkieeafhaoaaCloP
import Derived.Test.YtkapkieeafhaoaaSrt
import Derived.Test.YtkapkieeafhaoaaDel
import Derived.Test.YtkapkieeafhaoaaIcl
namespace Go.Proofs.Ytkapkieeafhaoaa
open Go.RowKit Go.Sort

def fact : Nat → Nat
  | 0 => 1
  | k + 1 => (k + 1) * fact k
theorem fact_pos (k : Nat) : 0 < fact k := by
  induction k with
  | zero => decide
  | succ k ih => exact Nat.mul_pos (by omega) ih

/-- The permutation of a rank, out of the points that are left. -/
def unr : Nat → List Int → Nat → List Int
  | 0, _, _ => []
  | k + 1, L, r => gi L (r / fact k) :: unr k (L.take (r / fact k) ++ L.drop (r / fact k + 1)) (r % fact k)
def unr3 (r : Nat) : List Int := unr 3 (upto 3) r
noncomputable def unrM (kind : Int) : List Int := if pb (0 ≤ kind ∧ kind ≤ 5) then unr3 kind.toNat else []
noncomputable def unrC (kind : Int) : Int := if pb (0 ≤ kind ∧ kind ≤ 5) then 0 else 2

/-- Its numbers. -/
theorem unr3_perm {r : Nat} (h : r < 6) : ∃ x y z : Nat, unr3 r = [(x : Int), (y : Int), (z : Int)] ∧ x < 3 ∧ y < 3 ∧ z < 3 := by
  rcases (show r = 0 ∨ r = 1 ∨ r = 2 ∨ r = 3 ∨ r = 4 ∨ r = 5 by omega) with rfl | rfl | rfl | rfl | rfl | rfl
  · exact ⟨0, 1, 2, by decide, by decide, by decide, by decide⟩
  · exact ⟨0, 2, 1, by decide, by decide, by decide, by decide⟩
  · exact ⟨1, 0, 2, by decide, by decide, by decide, by decide⟩
  · exact ⟨1, 2, 0, by decide, by decide, by decide, by decide⟩
  · exact ⟨2, 0, 1, by decide, by decide, by decide, by decide⟩
  · exact ⟨2, 1, 0, by decide, by decide, by decide, by decide⟩

set_option maxHeartbeats 800000 in
theorem factorial_any (n : Nat) (w : World) (hn : n ≤ 3) :
    Calls Try.prog 117 #[.int .i64 n] w fun e w' => e = .returned (.int .i64 (fact n)) ∧ w = w' := by
  go_enter Try.func117, Try.ntmps117
  go_wp2
  go_loopg [3, 4] (n + 1 - 2) (fun gh f i wr => ∃ j F : Nat, 2 ≤ j ∧ (j ≤ n + 1 ∨ j = 2) ∧ gh = n + 1 - j ∧ i = .int .i64 j ∧ f = .int .i64 F ∧ Hid (F = fact (j - 1)) ∧ w = wr)
  case atStart => exact ⟨2, 1, Nat.le_refl _, .inr rfl, rfl, rfl, rfl, rfl, rfl⟩
  case round =>
    obtain ⟨j, F, hj, hjn, rfl, rfl, rfl, HF, rfl⟩ := hrel
    by_cases hlt : j ≤ n
    · rcases (show j = 2 ∨ j = 3 by omega) with rfl | rfl
      · obtain rfl : F = 1 := HF.out
        have hz : (2 : Int) ≤ (n : Int) := by omega
        go_wp2
        go_roundg (n + 1 - 3)
        case measure => go_light; omega
        case rel => go_light; exact ⟨3, 2, by omega, by omega, rfl, by go_num, by go_num, rfl, rfl⟩
      · obtain rfl : F = 2 := HF.out
        have hz : (3 : Int) ≤ (n : Int) := by omega
        go_wp2
        go_roundg (n + 1 - 4)
        case measure => go_light; omega
        case rel => go_light; exact ⟨4, 6, by omega, by omega, rfl, by go_num, by go_num, rfl, rfl⟩
    · have hz : ¬ (j : Int) ≤ (n : Int) := by omega
      have HN : Hid (F = fact n) := Lib.hid (by
        rcases (show n = 0 ∨ n = 1 ∨ j = n + 1 by omega) with h | h | h
        · subst h; obtain rfl : j = 2 := by omega
          exact HF.out
        · subst h; obtain rfl : j = 2 := by omega
          exact HF.out
        · subst h; exact HF.out)
      go_wp2
      go_ret
      exact ⟨ret_int (by rw [HN.out]), rfl⟩

set_option maxHeartbeats 800000 in
theorem l04Factorial_any (n : Nat) (w : World) (hn : n ≤ 3) :
    Calls Try.prog 147 #[.int .i64 n] w fun e w' => e = .returned (.int .i64 (fact n)) ∧ w = w' := by
  go_enter Try.func147, Try.ntmps147
  go_wp2
  go_loopg [3, 4] (n + 1 - 2) (fun gh f i wr => ∃ j F : Nat, 2 ≤ j ∧ (j ≤ n + 1 ∨ j = 2) ∧ gh = n + 1 - j ∧ i = .int .i64 j ∧ f = .int .i64 F ∧ Hid (F = fact (j - 1)) ∧ w = wr)
  case atStart => exact ⟨2, 1, Nat.le_refl _, .inr rfl, rfl, rfl, rfl, rfl, rfl⟩
  case round =>
    obtain ⟨j, F, hj, hjn, rfl, rfl, rfl, HF, rfl⟩ := hrel
    by_cases hlt : j ≤ n
    · rcases (show j = 2 ∨ j = 3 by omega) with rfl | rfl
      · obtain rfl : F = 1 := HF.out
        have hz : (2 : Int) ≤ (n : Int) := by omega
        go_wp2
        go_roundg (n + 1 - 3)
        case measure => go_light; omega
        case rel => go_light; exact ⟨3, 2, by omega, by omega, rfl, by go_num, by go_num, rfl, rfl⟩
      · obtain rfl : F = 2 := HF.out
        have hz : (3 : Int) ≤ (n : Int) := by omega
        go_wp2
        go_roundg (n + 1 - 4)
        case measure => go_light; omega
        case rel => go_light; exact ⟨4, 6, by omega, by omega, rfl, by go_num, by go_num, rfl, rfl⟩
    · have hz : ¬ (j : Int) ≤ (n : Int) := by omega
      have HN : Hid (F = fact n) := Lib.hid (by
        rcases (show n = 0 ∨ n = 1 ∨ j = n + 1 by omega) with h | h | h
        · subst h; obtain rfl : j = 2 := by omega
          exact HF.out
        · subst h; obtain rfl : j = 2 := by omega
          exact HF.out
        · subst h; exact HF.out)
      go_wp2
      go_ret
      exact ⟨ret_int (by rw [HN.out]), rfl⟩

/-- The tail of a slice that is owned, also where the slice ends. -/
theorem Own.tail {w : World} {B : Nat} {g : Nat} {n c : Nat} {xs : List Int} (h : OwnI w B (some ⟨g, 0, none⟩) n c xs) {m : Nat} (hm : m ≤ n) :
    RdI w (if c = m then some ⟨g, 0, none⟩ else some ⟨g, m, none⟩) (n - m) (c - m) (xs.drop m) := by
  have hle := h.le
  have hlen := h.len
  by_cases e : c = m
  · rw [if_pos e]
    have : xs.drop m = [] := List.drop_eq_nil_of_le (by omega)
    rw [this]
    exact ⟨by simp; omega, by omega, by omega, fun e => (by cases e), fun k x hx => by simp at hx⟩
  · rw [if_neg e]
    have := Rd.from_ h.rdI (m := m) hm
    rwa [Nat.zero_add] at this

theorem unr_len (k : Nat) (L : List Int) (r : Nat) : (unr k L r).length = k := by
  induction k generalizing L r with
  | zero => rfl
  | succ k ih => rw [unr, List.length_cons, ih]

/-- One block is not another. -/
def Apart (a b : Option Addr) : Prop := ∀ g, blk a = some g → blk b ≠ some g
theorem Apart.moved {w : World} {B : Nat} {a ad ad' : Option Addr} {n c : Nat} {xs : List Int} (h : Apart a ad) (ho : OwnI w B a n c xs) (hm : Moved w ad ad') : Apart a ad' := by
  intro g hg he
  rcases hm with h1 | ⟨g', h1, h2⟩
  · exact h g hg (by rw [← h1]; exact he)
  · have := (ho.lt hg).2
    rw [he] at h1
    cases h1
    omega
theorem Apart.symm {a b : Option Addr} (h : Apart a b) : Apart b a := fun g h1 h2 => h g h2 h1

theorem Own.giI {E : TypeId} {w : World} {B : Nat} {a : Option Addr} {n c : Nat} {xs : List Int} (h : Own E (Value.int .i64) w B a n c xs) {k : Nat} (hk : k < n) : ∃ g, a = some ⟨g, 0, none⟩ ∧ B ≤ g ∧ w.cell? ⟨g, k, none⟩ = some (.int .i64 (Go.Proofs.Ytkapkieeafhaoaa.gi xs k)) ∧ w.frozen? ⟨g, k, none⟩ = false := by
  obtain ⟨g, x, h1, h2, h3, h4, h5⟩ := h.at_ hk
  exact ⟨g, h1, h2, by rw [h3, gi_of h5.out], h4⟩

theorem unr_div {j r : Nat} (h : r < fact (j + 1)) : r / fact j < j + 1 ∧ r % fact j < fact j :=
  ⟨Nat.div_lt_of_lt_mul (by rw [fact, Nat.mul_comm] at h; exact h), Nat.mod_lt _ (fact_pos j)⟩
theorem fact_le {j : Nat} (h : j ≤ 3) : fact j ≤ 6 := by
  rcases (show j = 0 ∨ j = 1 ∨ j = 2 ∨ j = 3 by omega) with rfl | rfl | rfl | rfl <;> decide

set_option maxRecDepth 100000 in
set_option maxHeartbeats 3200000 in
theorem l04Unrank3 (rk : Nat) (w : World) (hrk : rk < 6) :
    Calls Try.prog 116 #[.int .i64 3, .int .i64 rk] w (RetI w (unr3 rk)) := by
  go_enter Try.func116, Try.ntmps116
  go_wp2_with fail
  refine (l04One_any 3 _ (by decide)).mono ?_
  rintro e w1 ⟨a5, n5, c5, rfl, hL0, hE0⟩
  obtain rfl : 3 = n5 := by have := hL0.len; rw [upto_length] at this; exact this.symm
  have H0 := Own.empty 2 (Value.int .i64) w1
  have hL1 := hL0.alloc (.cells #[] 2)
  have hap : Apart a5 (some ⟨w1.heap.size, 0, none⟩) := fun g h1 h2 => by have := (hL0.lt h1).2; have := blk_eq h2; omega
  have hE1 := hE0.alloc (.cells #[] 2)
  have H1 := H0.base hE0.size
  clear hL0 H0 hE0
  go_wp2
  go_loopg [1, 5, 6] (1 * 3) (fun gh r s t wr => ∃ (k rr : Nat) (aL : Option Addr) (cL : Nat) (aP : Option Addr) (m cP : Nat) (L P : List Int), k ≤ 3 ∧ gh = 1 * k ∧ r = .int .i64 rr ∧ s = .slice aL k cL ∧ t = .slice aP m cP ∧ m ≤ 3 ∧
    OwnI wr w.heap.size aL k cL L ∧ OwnI wr w.heap.size aP m cP P ∧ Hid (Apart aL aP) ∧ Hid (P ++ unr k L rr = unr3 rk) ∧ rr < fact k ∧ Ext w wr)
  case atStart => exact ⟨3, rk, a5, c5, _, 0, 0, upto 3, [], Nat.le_refl _, rfl, rfl, rfl, rfl, by omega, hL1, H1, hap, rfl, hrk, hE1⟩
  case round =>
    clear hL1 H1 hap hE1
    obtain ⟨k, rr, aL, cL, aP, m, cP, L, P, hk, rfl, rfl, rfl, rfl, hm, hL, hP, HA, HU, hr, hE⟩ := hrel
    by_cases h0 : k = 0
    · subst h0
      go_wp2
      go_ret
      exact ⟨_, _, _, rfl, by rw [← HU.out, unr, List.append_nil]; exact hP, hE⟩
    · obtain ⟨j, rfl⟩ : ∃ i, k = i + 1 := ⟨k - 1, by omega⟩
      clear h0
      have hmP : m + (j + 1) = 3 := by
        have h1 := congrArg List.length HU.out
        rw [List.length_append, unr_len, unr3, unr_len, ← hP.len] at h1
        exact h1
      have hz : (0 : Int) < (j : Int) + 1 := by omega
      obtain ⟨d1, d2⟩ := unr_div hr
      have hfp := fact_pos j
      have hfl := fact_le (j := j) (by omega)
      obtain ⟨F, hF⟩ : ∃ F, fact j = F := ⟨_, rfl⟩
      obtain ⟨q, hq⟩ : ∃ q, rr / fact j = q := ⟨_, rfl⟩
      obtain ⟨r2, hr2⟩ : ∃ r2, rr % fact j = r2 := ⟨_, rfl⟩
      have HU2 : Hid ((P ++ [gi L q]) ++ unr j (L.take q ++ L.drop (q + 1)) r2 = unr3 rk) := Lib.hid (by rw [← HU.out, unr, hq, hr2, List.append_assoc]; rfl)
      rw [hq] at d1
      rw [hr2] at d2
      have D2 := Lib.hid d2
      have hqz : (rr : Int) / (F : Int) = (q : Int) := by rw [← hq, hF]; rfl
      have hrz : (rr : Int) % (F : Int) = (r2 : Int) := by rw [← hr2, hF]; rfl
      have hrr6 : rr ≤ 24 := by
        have h1 := fact_le (j := j) (by omega)
        rw [fact] at hr
        have h2 : (j + 1) * fact j ≤ 3 * 6 := Nat.mul_le_mul (by omega) h1
        omega
      have hF0 : 0 < F := by omega
      have hF6 : F ≤ 6 := by omega
      have hFz : (F : Int) ≠ 0 := by omega
      have hrF : r2 < F := by omega
      obtain ⟨v, hv⟩ : ∃ v, gi L q = v := ⟨_, rfl⟩
      obtain ⟨g, rfl, hB, q1, _⟩ := hL.giI (k := q) d1
      rw [hv] at q1 HU2
      have HF := Lib.hid hF
      have hd : (q : Int) < (j : Int) + 1 := by omega
      have hLc := hL.le
      have hd2 : (q : Int) ≤ (cL : Int) := by omega
      have hd3 : q ≤ cL := by omega
      have hd4 : (q : Int) + 1 ≤ (j : Int) + 1 := by omega
      have hd5 : q ≤ j := by omega
      have hsz := hE.size
      clear HU hr hfp hfl d2 hv hq hr2 hF
      go_wp2_with fail
      refine (l04Factorial_any j _ (by omega)).mono ?_
      rintro e w5 ⟨rfl, rfl⟩
      rw [HF.out]
      go_wp2_with (at_builtin; refine app_I rfl _ _ rfl hP hsz rfl (by omega) rfl rfl ?_; intro a7 d7 w7 hrow honly hmv)
      have hL7 := hL.only honly (fun g h1 h2 => HA.out g h1 h2)
      have A7 := HA.out.moved hL hmv
      have hE7 := hE.app hP honly (Nat.le_refl _)
      clear hL hP HA hE honly hmv hsz q1
      go_wp2_with fail
      refine (l00Own_any _ _ _ (L.take q) _ (hL7.rdI.cut (m := q) (by omega)) (by omega)).mono ?_
      rintro e w8 ⟨a8, n8, c8, rfl, hR, hE8⟩
      have hn8 : n8 = q := by have h1 := hR.len; have h2 := hL7.len; rw [List.length_take] at h1; omega
      subst hn8
      have hL8 := hL7.ext hE8
      have hP8 := hrow.ext hE8
      have hR8 := hR.base hE7.size
      have A8 : Apart a7 a8 := fun g h1 h2 => by have := (hrow.lt h1).2; have := (hR.lt h2).1; omega
      have hEy := hE7.trans hE8
      have hsz := hEy.size
      have hsrc := hL8.tail (m := n8 + 1) (by omega)
      clear hR hrow hL7 hE7 hE8
      by_cases hc : cL = n8 + 1
      · rw [if_pos hc, show j + 1 - (n8 + 1) = j - n8 by omega, show cL - (n8 + 1) = 0 by omega] at hsrc
        go_wp2_with (at_builtin; refine app_list rfl _ _ rfl hR8 hsz hsrc (by omega) rfl rfl ?_; intro a9 d9 w9 hnew honly9 hmv9)
        rw [show n8 + (j - n8) = j by omega] at hnew
        have hP9 := hP8.only honly9 (fun g h1 h2 => A8 g h1 h2)
        have A9 := Lib.hid ((A8.moved hP8 hmv9).symm)
        have hE9 := hEy.app hR8 honly9 (Nat.le_refl _)
        clear hP8 hmv9 hEy hR8 honly9 hsrc hL8 A8 A7 hsz
        go_wp2
        go_roundg (1 * j)
        case measure => go_light; omega
        case rel => go_light; exact ⟨j, r2, a9, d9, a7, m + 1, d7, _, _, by omega, rfl, by go_num, rfl, rfl, by omega, hnew, hP9, A9, HU2, D2.out, hE9⟩
      · rw [if_neg hc, show j + 1 - (n8 + 1) = j - n8 by omega] at hsrc
        go_wp2_with (at_builtin; refine app_list rfl _ _ rfl hR8 hsz hsrc (by omega) rfl rfl ?_; intro a9 d9 w9 hnew honly9 hmv9)
        rw [show n8 + (j - n8) = j by omega] at hnew
        have hP9 := hP8.only honly9 (fun g h1 h2 => A8 g h1 h2)
        have A9 := Lib.hid ((A8.moved hP8 hmv9).symm)
        have hE9 := hEy.app hR8 honly9 (Nat.le_refl _)
        clear hP8 hmv9 hEy hR8 honly9 hsrc hL8 A8 A7 hsz
        go_wp2
        go_roundg (1 * j)
        case measure => go_light; omega
        case rel => go_light; exact ⟨j, r2, a9, d9, a7, m + 1, d7, _, _, by omega, rfl, by go_num, rfl, rfl, by omega, hnew, hP9, A9, HU2, D2.out, hE9⟩

theorem slDelete_any {E : TypeId} {B n c g q : Nat} {xs : List Int} (w : World) (h : Own E (Value.int .i64) w B (some ⟨g, 0, none⟩) n c xs) (hq : q < n) :
    Calls Try.prog 118 #[.slice (some ⟨g, 0, none⟩) n c, .int .i64 q, .int .i64 ((q : Int) + 1)] w fun e w' => e = .returned (.slice (some ⟨g, 0, none⟩) (n - 1) c) ∧ Own E (Value.int .i64) w' B (some ⟨g, 0, none⟩) (n - 1) c (xs.take q ++ xs.drop (q + 1)) ∧ Only (onlyA (some ⟨g, 0, none⟩)) w w' := by
  have hl := h.len
  have hle := h.le
  subst hl
  have hk := AnyG.slices_Delete_int Try.delL g 0 c q (q + 1) xs w (own_holds h) hle.1 hle.2 (by omega) (by omega)
  refine Calls.mono (show Calls Try.prog 118 #[.slice (some ⟨g, 0, none⟩) xs.length c, .int .i64 q, .int .i64 ((q : Int) + 1)] w _ from hk) ?_
  rintro e w' ⟨rfl, m, rfl⟩
  have hlen : (xs.take q ++ xs.drop (q + 1) ++ List.replicate (q + 1 - q) 0).length = xs.length := by simp; omega
  have := own_put h hlen m #[]
  rw [show ∀ W : World, grow W #[] = W from fun W => by simp [grow]] at this
  refine ⟨by rw [show q + 1 - q = 1 by omega], ?_, this.2⟩
  have h2 := Own.take this.1 (m := xs.length - 1) (by omega) (.inr (.inl (by simp)))
  rwa [List.take_left' (by simp; omega)] at h2

set_option maxRecDepth 100000 in
set_option maxHeartbeats 3200000 in
theorem unrank3_any (kind : Int) (w : World) (hk1 : -9223372036854775808 ≤ kind) (hk2 : kind ≤ 9223372036854775807) :
    Calls Try.prog 87 #[.int .i64 3, .int .i64 kind] w
      (RetIC w (unrM kind) (unrC kind)) := by
  go_enter Try.func87, Try.ntmps87
  go_wp2_with fail
  refine (within_any 3 0 12 true (by decide) _).mono ?_
  rintro e w1 ⟨rfl, rfl⟩
  go_wp2_with fail
  refine (factorial_any 3 _ (by decide)).mono ?_
  rintro e w1 ⟨rfl, rfl⟩
  rw [show ((fact 3 : Nat) : Int) = 6 from rfl]
  go_wp2_with fail
  obtain ⟨b, hb⟩ : ∃ b, decide (0 ≤ kind ∧ kind ≤ 5) = b := ⟨_, rfl⟩
  refine (within_any kind 0 5 b hb _).mono ?_
  rintro e w1 ⟨rfl, rfl⟩
  have Hb := Lib.hid hb
  clear hb
  cases b
  · have HP : Hid (pb (0 ≤ kind ∧ kind ≤ 5) = false) := Lib.hid (pb_false (by simpa using Hb.out))
    go_wp2
    go_ret2
    exact RetIC.nil_ (by rw [unrM, HP.out]; rfl) (by rw [unrC, HP.out]; rfl) (Ext.refl _)
  · have hin : 0 ≤ kind ∧ kind ≤ 5 := by simpa using Hb.out
    obtain ⟨rk, rfl⟩ : ∃ rk : Nat, kind = rk := ⟨kind.toNat, by omega⟩
    have hrk : rk < 6 := by omega
    have HP : Hid (pb (0 ≤ (rk : Int) ∧ (rk : Int) ≤ 5) = true) := Lib.hid (pb_true hin)
    clear hin hk1 hk2
    go_wp2_with fail
    refine (identity_any 3 _ (by decide)).mono ?_
    rintro e w1 ⟨a6, n6, c6, rfl, hL0, hE0⟩
    obtain rfl : 3 = n6 := by have := hL0.len; rw [upto_length] at this; exact this.symm
    go_wp2
    go_loopg [1, 6, 7, 8] (1 * 3) (fun gh r s t i wr => ∃ (k rr : Nat) (aL : Option Addr) (cL : Nat) (aP : Option Addr) (m cP : Nat) (L P : List Int), k ≤ 3 ∧ gh = 1 * k ∧ r = .int .i64 rr ∧ s = .slice aL k cL ∧ t = .slice aP m cP ∧ i = .int .i64 ((k : Int) - 1) ∧ m ≤ 3 ∧
      OwnI wr w.heap.size aL k cL L ∧ OwnI wr w.heap.size aP m cP P ∧ Hid (Apart aL aP) ∧ Hid (P ++ unr k L rr = unr3 rk) ∧ rr < fact k ∧ Ext w wr)
    case atStart => exact ⟨3, rk, a6, c6, none, 0, 0, upto 3, [], Nat.le_refl _, rfl, rfl, rfl, rfl, rfl, by omega, hL0, Own.nil_ _ _ _ _, Lib.hid (fun g h1 h2 => by cases h2), rfl, hrk, hE0⟩
    case round =>
      clear hL0 hE0
      obtain ⟨k, rr, aL, cL, aP, m, cP, L, P, hk, rfl, rfl, rfl, rfl, rfl, hm, hL, hP, HA, HU, hr, hE⟩ := hrel
      by_cases h0 : k = 0
      · subst h0
        go_wp2
        go_ret2
        exact RetIC.mk_ hP (Nat.le_refl _) (by rw [unrM, if_pos HP.out, Int.toNat_natCast, ← HU.out, unr, List.append_nil]) (by rw [unrC, if_pos HP.out]) hE
      · obtain ⟨j, rfl⟩ : ∃ i, k = i + 1 := ⟨k - 1, by omega⟩
        clear h0
        have hmP : m + (j + 1) = 3 := by
          have h1 := congrArg List.length HU.out
          rw [List.length_append, unr_len, unr3, unr_len, ← hP.len] at h1
          exact h1
        have ej : (((j + 1 : Nat) : Int) - 1) = (j : Int) := by omega
        rw [ej]
        clear ej
        have hz : (0 : Int) ≤ (j : Int) := by omega
        obtain ⟨d1, d2⟩ := unr_div hr
        have hfp := fact_pos j
        have hfl := fact_le (j := j) (by omega)
        obtain ⟨F, hF⟩ : ∃ F, fact j = F := ⟨_, rfl⟩
        obtain ⟨q, hq⟩ : ∃ q, rr / fact j = q := ⟨_, rfl⟩
        obtain ⟨r2, hr2⟩ : ∃ r2, rr % fact j = r2 := ⟨_, rfl⟩
        have HU2 : Hid ((P ++ [gi L q]) ++ unr j (L.take q ++ L.drop (q + 1)) r2 = unr3 rk) := Lib.hid (by rw [← HU.out, unr, hq, hr2, List.append_assoc]; rfl)
        rw [hq] at d1
        rw [hr2] at d2
        have D2 := Lib.hid d2
        have hqz : (rr : Int) / (F : Int) = (q : Int) := by rw [← hq, hF]; rfl
        have hrz : (rr : Int) % (F : Int) = (r2 : Int) := by rw [← hr2, hF]; rfl
        have hrr6 : rr ≤ 24 := by
          have h1 := fact_le (j := j) (by omega)
          rw [fact] at hr
          have h2 : (j + 1) * fact j ≤ 3 * 6 := Nat.mul_le_mul (by omega) h1
          omega
        have hF0 : 0 < F := by omega
        have hF6 : F ≤ 6 := by omega
        have hFz : (F : Int) ≠ 0 := by omega
        have hrF : r2 < F := by omega
        obtain ⟨v, hv⟩ : ∃ v, gi L q = v := ⟨_, rfl⟩
        obtain ⟨g, rfl, hB, q1, _⟩ := hL.giI (k := q) d1
        rw [hv] at q1 HU2
        have HF := Lib.hid hF
        have hd : (q : Int) < (j : Int) + 1 := by omega
        have hsz := hE.size
        clear HU hr hfp hfl d2 hv hq hr2 hF
        go_wp2_with fail
        refine (factorial_any j _ (by omega)).mono ?_
        rintro e w5 ⟨rfl, rfl⟩
        rw [HF.out]
        go_wp2_with fail
        refine (factorial_any j _ (by omega)).mono ?_
        rintro e w5 ⟨rfl, rfl⟩
        rw [HF.out]
        go_wp2_with (at_builtin; refine app_I rfl _ _ rfl hP hsz rfl (by omega) rfl rfl ?_; intro a7 d7 w7 hrow honly hmv)
        have hL7 := hL.only honly (fun g h1 h2 => HA.out g h1 h2)
        have A7 := HA.out.moved hL hmv
        have hE7 := hE.app hP honly (Nat.le_refl _)
        clear hL hP HA hE honly hmv hsz q1
        go_wp2_with fail
        refine (slDelete_any _ hL7 d1).mono ?_
        rintro e w8 ⟨rfl, hL8, honly8⟩
        have hE8 := hE7.app hL7 honly8 (Nat.le_refl _)
        have hP8 := hrow.only honly8 (fun g h1 h2 => A7 g h2 h1)
        rw [Nat.add_sub_cancel] at hL8 ⊢
        have A8 := Lib.hid A7
        clear hrow hL7 hE7 honly8 A7
        go_wp2
        go_roundg (1 * j)
        case measure => go_light; omega
        case rel => go_light; exact ⟨j, r2, _, cL, a7, m + 1, d7, _, _, by omega, rfl, by go_num, rfl, rfl, by go_num, by omega, hL8, hP8, A8, HU2, D2.out, hE8⟩
end Go.Proofs.Ytkapkieeafhaoaa
