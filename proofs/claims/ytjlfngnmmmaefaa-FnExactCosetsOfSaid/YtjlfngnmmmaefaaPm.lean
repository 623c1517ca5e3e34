/- Inverse and composition of permutations, by both. Conditions: none. -/
import Derived.Test.YtjlfngnmmmaefaaPermP
import Derived.Test.YtjlfngnmmmaefaaTo
namespace Go.Proofs.Ytjlfngnmmmaefaa
open Go.RowKit

/-- All numbers lie below m. -/
def Below_ (xs : List Int) (m : Nat) : Prop := ∀ i, i < xs.length → ∃ y : Nat, gi xs i = y ∧ y < m

theorem IsPerm.below {xs : List Int} (h : IsPerm xs) : Below_ xs xs.length := fun i hi => by
  have := h.2 _ (gi_mem hi)
  exact ⟨(gi xs i).toNat, by omega, by omega⟩

/-- The inverse, as far as the first k points. -/
def invTo (xs : List Int) (n : Nat) : Nat → List Int
  | 0 => List.replicate n 0
  | k + 1 => (invTo xs n k).set (gi xs k).toNat (k : Int)
def inv (xs : List Int) : List Int := invTo xs xs.length xs.length

theorem invTo_length (xs : List Int) (n k : Nat) : (invTo xs n k).length = n := by
  induction k with
  | zero => simp [invTo]
  | succ k ih => rw [invTo, List.length_set, ih]
theorem inv_length (xs : List Int) : (inv xs).length = xs.length := invTo_length _ _ _
theorem invTo_below {xs : List Int} {n m : Nat} (hm : n ≤ m) (k : Nat) (hk : k ≤ n) : Below_ (invTo xs n k) m := by
  induction k with
  | zero => intro i hi; simp [invTo] at hi; exact ⟨0, by rw [gi_of (v := 0) (by simp [invTo, hi])]; rfl, by omega⟩
  | succ k ih =>
    intro i hi
    rw [invTo, List.length_set] at hi
    obtain ⟨y, h1, h2⟩ := ih (by omega) i hi
    by_cases e : (gi xs k).toNat = i
    · refine ⟨k, gi_of ?_, by omega⟩
      rw [invTo, e, List.getElem?_set_self hi]
    · refine ⟨y, ?_, h2⟩
      rw [← h1, invTo]
      apply gi_of
      rw [List.getElem?_set_ne e, gi_get hi]
theorem inv_below (xs : List Int) : Below_ (inv xs) xs.length := invTo_below (Nat.le_refl _) _ (Nat.le_refl _)

/-- First p, then q. -/
def cmpTo (p q : List Int) : Nat → List Int
  | 0 => []
  | k + 1 => cmpTo p q k ++ [gi q (gi p k).toNat]
def cmp (p q : List Int) : List Int := cmpTo p q p.length
theorem cmpTo_length (p q : List Int) (k : Nat) : (cmpTo p q k).length = k := by
  induction k with
  | zero => rfl
  | succ k ih => rw [cmpTo, List.length_append, ih]; rfl
theorem cmp_length (p q : List Int) : (cmp p q).length = p.length := cmpTo_length _ _ _

theorem made_nil (n : Nat) : List.replicate n (0 : Int) = ([] : List Int) ++ List.replicate (n - 0) 0 := rfl



set_option maxHeartbeats 800000 in
theorem compose_any (a : Option Addr) (n c : Nat) (p : List Int) (a' : Option Addr) (m c' : Nat) (q : List Int) (w : World) (hx : RdI w a n c p) (hy : RdI w a' m c' q) (hn : n ≤ 1048576) (hb : Below_ p m) :
    Calls Try.prog 83 #[.slice a n c, .slice a' m c'] w (RetI w (cmp p q)) := by
  have hmk := run_make_row' (P := Try.prog) 26 2 (.int .i64 0) 8 Try.underlying26 Try.info_i64 rfl .i64 .i64 n (by omega) (by omega)
  have Hl := Lib.hid hx.len
  have hb1 := hx.le
  have hb2 := hx.max
  have hb3 := hy.le
  have hb4 := hy.max
  have Hb := Lib.hid hb
  clear hb
  go_enter Try.func83, Try.ntmps83
  go_wp2
  clear hmk
  have H0 := own_made w 2 (Value.int .i64) 0 n (by omega)
  go_loopg [12] n (fun g i wr => ∃ k : Nat, k ≤ n ∧ g = n - k ∧ i = .int .i64 k ∧ OwnI wr w.heap.size (some ⟨w.heap.size, 0, none⟩) n n (cmpTo p q k ++ List.replicate (n - k) 0) ∧ Ext w wr)
  case atStart => exact ⟨0, Nat.zero_le _, rfl, rfl, H0, (Ext.refl w).alloc _⟩
  case round =>
    obtain ⟨k, hk, rfl, rfl, hO, hE⟩ := hrel
    clear H0
    by_cases hlt : k < n
    · obtain ⟨b, off, rfl, hcell⟩ := (hx.ext hE).gi hlt
      obtain ⟨y, hyy, hyn⟩ := Hb.out k (by have := Hl.out; omega)
      rw [hyy] at hcell
      obtain ⟨b2, off2, rfl, hcell2⟩ := (hy.ext hE).gi hyn
      obtain ⟨g, z, hg, hB, hoc, hof, Hz⟩ := hO.at_ hlt
      cases hg
      have hz : (k : Int) < (n : Int) := by omega
      have hz2 : (y : Int) < (m : Int) := by omega
      have hO' := hO.set (k := k) rfl (gi q y)
      rw [take_set_drop' (cmpTo_length _ _ _) hlt] at hO'
      have e : cmpTo p q (k + 1) = cmpTo p q k ++ [gi q y] := by rw [cmpTo, hyy]; rfl
      rw [← e] at hO'
      have hE' := hE.setCell (p := ⟨w.heap.size, k, none⟩) (Nat.le_refl _) (.int .i64 (gi q y))
      clear hO hE e hyy
      go_wp2
      go_roundg (n - (k + 1))
      case measure => go_light; omega
      case rel => go_light; exact ⟨k + 1, by omega, rfl, by go_num, hO', hE'⟩
    · have hz : ¬ (k : Int) < (n : Int) := by omega
      obtain rfl : n = k := by omega
      go_wp2
      go_ret
      rw [show cmpTo p q n ++ List.replicate (n - n) 0 = cmp p q by rw [cmp, ← Hl.out, Nat.sub_self]; simp] at hO
      exact ⟨_, _, _, rfl, hO, hE⟩

set_option maxHeartbeats 800000 in
theorem l04Times_any (a : Option Addr) (n c : Nat) (p : List Int) (a' : Option Addr) (m c' : Nat) (q : List Int) (w : World) (hx : RdI w a n c p) (hy : RdI w a' m c' q) (hn : n ≤ 1048576) (hb : Below_ p m) :
    Calls Try.prog 79 #[.slice a n c, .slice a' m c'] w (RetI w (cmp p q)) := by
  have Hl := Lib.hid hx.len
  have hb1 := hx.le
  have hb2 := hx.max
  have hb3 := hy.le
  have hb4 := hy.max
  have Hb := Lib.hid hb
  clear hb
  go_enter Try.func79, Try.ntmps79
  go_wp2
  have H0 := Own.empty 2 (Value.int .i64) w
  go_loopg [5, 6] n (fun g t i wr => ∃ (k : Nat) (ad : Option Addr) (d : Nat), k ≤ n ∧ g = n - k ∧ i = .int .i64 k ∧ t = .slice ad k d ∧ OwnI wr w.heap.size ad k d (cmpTo p q k) ∧ Ext w wr)
  case atStart => exact ⟨0, _, 0, Nat.zero_le _, rfl, rfl, rfl, H0, (Ext.refl w).alloc _⟩
  case round =>
    obtain ⟨k, ad, d, hk, rfl, rfl, rfl, hO, hE⟩ := hrel
    clear H0
    by_cases hlt : k < n
    · obtain ⟨b, off, rfl, hcell⟩ := (hx.ext hE).gi hlt
      obtain ⟨y, hyy, hyn⟩ := Hb.out k (by have := Hl.out; omega)
      rw [hyy] at hcell
      obtain ⟨b2, off2, rfl, hcell2⟩ := (hy.ext hE).gi hyn
      have hz : (k : Int) < (n : Int) := by omega
      have hz2 : (y : Int) < (m : Int) := by omega
      have e : cmpTo p q (k + 1) = cmpTo p q k ++ [gi q y] := by rw [cmpTo, hyy]; rfl
      have hsz := hE.size
      clear hyy
      go_wp2_with (at_builtin; refine app_I rfl _ _ rfl hO hsz rfl (by omega) rfl rfl ?_; intro ad' d' w3 hrow2 honly hmv)
      have hE4 := hE.app hO honly (Nat.le_refl _)
      rw [← e] at hrow2
      clear hO hE honly hmv hsz e
      go_wp2
      go_roundg (n - (k + 1))
      case measure => go_light; omega
      case rel => go_light; exact ⟨k + 1, ad', d', by omega, rfl, by go_num, rfl, hrow2, hE4⟩
    · have hz : ¬ (k : Int) < (n : Int) := by omega
      obtain rfl : n = k := by omega
      go_wp2
      go_ret
      rw [show cmpTo p q n = cmp p q by rw [cmp, ← Hl.out]] at hO
      exact ⟨_, _, _, rfl, hO, hE⟩
end Go.Proofs.Ytjlfngnmmmaefaa
