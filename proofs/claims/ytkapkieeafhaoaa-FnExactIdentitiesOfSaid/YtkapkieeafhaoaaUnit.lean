/- Units of squares, of both. Conditions: none. -/
import Derived.Test.YtkapkieeafhaoaaUnitP
import Derived.Test.YtkapkieeafhaoaaFAll
import Derived.Test.YtkapkieeafhaoaaIdn
import Derived.Test.YtkapkieeafhaoaaSl
import Derived.Test.YtkapkieeafhaoaaSlEqual
import Derived.Test.YtkapkieeafhaoaaSqS
import Derived.Test.YtkapkieeafhaoaaSqI
namespace Go.Proofs.Ytkapkieeafhaoaa
open Go.RowKit

theorem row_upto {p : List (List Int)} {n e : Nat} (hn : p.length = n) (hl : (gr p e).length = n) : gr p e = upto n ↔ LUnit p e := by
  constructor
  · intro h x hx
    rw [at2, h, gi_upto (by omega)]
  · intro h
    refine list_ext_gi (by rw [hl, upto_length]) (fun k hk => ?_)
    rw [gi_upto (by omega)]
    exact h k (by omega)

set_option maxRecDepth 100000 in
set_option maxHeartbeats 1600000 in
theorem l08UnitL_any (a : Option Addr) (n c : Nat) (p : List (List Int)) (e : Nat) (w : World) (hp : RdR w a n c p) (hr : Rect p n n) (he : e < n) (hn : n ≤ 1000) :
    Calls Try.prog 150 #[.slice a n c, .int .i64 e, .bool true] w fun e' w' => e' = .returned (.bool (pb (LUnit p e))) ∧ w = w' := by
  have hb1 := hp.le
  have hb2 := hp.max
  have Hl := Lib.hid hp.len
  have hez : (e : Int) < (n : Int) := by omega
  obtain ⟨b, o, ai, ci, rfl, hc, hrow⟩ := hp.row hr he
  have Hr := Lib.hid hr
  clear hr
  go_enter Try.func150, Try.ntmps150
  go_wp2
  go_loopg [7] n (fun gh i wr => ∃ k : Nat, k ≤ n ∧ gh = n - k ∧ i = .int .i64 k ∧ w = wr ∧ Hid (∀ x, x < k → at2 p e x = x))
  case atStart => exact ⟨0, Nat.zero_le _, rfl, rfl, rfl, fun x h => absurd h (Nat.not_lt_zero _)⟩
  case round =>
    obtain ⟨k, hk, rfl, rfl, rfl, Hn⟩ := hrel
    by_cases hlt : k < n
    · have hz : (k : Int) < (n : Int) := by omega
      obtain ⟨b1, o1, rfl, hc1⟩ := hrow.cell2 hlt
      by_cases hv : at2 p e k = k
      · have hv1 : (at2 p e k != (k : Int)) = false := by simp [hv]
        have Hv := Lib.hid hv
        clear hv
        go_wp2
        go_roundg (n - (k + 1))
        case measure => go_light; omega
        case rel => go_light; exact ⟨k + 1, by omega, rfl, by go_num, rfl, fun x hx => by
          by_cases e : x = k
          · subst e; exact Hv.out
          · exact Hn.out x (by omega)⟩
      · have hv1 : (at2 p e k != (k : Int)) = true := by simp [hv]
        have Hv := Lib.hid hv
        clear hv
        go_wp2
        go_ret
        exact ⟨ret_npb (fun h => Hv.out (h k (by rw [← Hl.out]; exact hlt))), rfl⟩
    · have hz : ¬ (k : Int) < (n : Int) := by omega
      obtain rfl : n = k := by omega
      go_wp2
      go_ret
      exact ⟨ret_pb (fun x hx => Hn.out x (by rw [Hl.out]; exact hx)), rfl⟩

set_option maxRecDepth 100000 in
set_option maxHeartbeats 1600000 in
theorem l08UnitR_any (a : Option Addr) (n c : Nat) (p : List (List Int)) (e : Nat) (w : World) (hp : RdR w a n c p) (hr : Rect p n n) (he : e < n) (hn : n ≤ 1000) :
    Calls Try.prog 150 #[.slice a n c, .int .i64 e, .bool false] w fun e' w' => e' = .returned (.bool (pb (RUnit p e))) ∧ w = w' := by
  have hb1 := hp.le
  have hb2 := hp.max
  have Hl := Lib.hid hp.len
  have hez : (e : Int) < (n : Int) := by omega
  have Hr := Lib.hid hr
  clear hr
  go_enter Try.func150, Try.ntmps150
  go_wp2
  go_loopg [7] n (fun gh i wr => ∃ k : Nat, k ≤ n ∧ gh = n - k ∧ i = .int .i64 k ∧ w = wr ∧ Hid (∀ x, x < k → at2 p x e = x))
  case atStart => exact ⟨0, Nat.zero_le _, rfl, rfl, rfl, fun x h => absurd h (Nat.not_lt_zero _)⟩
  case round =>
    obtain ⟨k, hk, rfl, rfl, rfl, Hn⟩ := hrel
    by_cases hlt : k < n
    · have hz : (k : Int) < (n : Int) := by omega
      obtain ⟨b, o, ai, ci, rfl, hc, hrow⟩ := hp.row Hr.out hlt
      obtain ⟨b1, o1, rfl, hc1⟩ := hrow.cell2 he
      clear hrow
      by_cases hv : at2 p k e = k
      · have hv1 : (at2 p k e != (k : Int)) = false := by simp [hv]
        have Hv := Lib.hid hv
        clear hv
        go_wp2
        go_roundg (n - (k + 1))
        case measure => go_light; omega
        case rel => go_light; exact ⟨k + 1, by omega, rfl, by go_num, rfl, fun x hx => by
          by_cases e : x = k
          · subst e; exact Hv.out
          · exact Hn.out x (by omega)⟩
      · have hv1 : (at2 p k e != (k : Int)) = true := by simp [hv]
        have Hv := Lib.hid hv
        clear hv
        go_wp2
        go_ret
        exact ⟨ret_npb (fun h => Hv.out (h k (by rw [← Hl.out]; exact hlt))), rfl⟩
    · have hz : ¬ (k : Int) < (n : Int) := by omega
      obtain rfl : n = k := by omega
      go_wp2
      go_ret
      exact ⟨ret_pb (fun x hx => Hn.out x (by rw [Hl.out]; exact hx)), rfl⟩

set_option maxHeartbeats 1600000 in
theorem leftF (a : Option Addr) (n c : Nat) (b1 : Nat) (xss : List (List Int)) (w : World) (hn : n ≤ 1000) (hc1 : w.cell? ⟨b1, 0, none⟩ = some (.slice a n c)) :
    Asks 151 #[.pointer (some ⟨b1, 0, none⟩)] xss (fun xs => decide (xs = upto n)) w := by
  intro i xs a2 n2 c2 w1 hi hE hx
  have hd1 := hE.cell hc1
  clear hc1
  show Calls Try.prog 151 #[.slice a2 n2 c2, .pointer (some ⟨b1, 0, none⟩)] w1 _
  obtain ⟨v, hv⟩ : ∃ v, decide (xs = upto n) = v := ⟨_, rfl⟩
  dsimp only
  rw [hv]
  have Hv := Lib.hid hv
  clear hv
  go_enter Try.func151, Try.ntmps151
  go_wp2_with fail
  refine (sizeR_any _ _ _ _).mono ?_
  rintro e w2 ⟨rfl, rfl⟩
  go_wp2_with fail
  refine (identity_any n _ (by omega)).mono ?_
  rintro e w3 ⟨a3, n3, c3, rfl, hO, hE3⟩
  go_wp2_with fail
  refine (slEqual_any _ _ _ _ _ _ xs (upto n) v _ (hx.ext hE3) hO.rdI Hv.out).mono ?_
  rintro e w4 ⟨rfl, hQ⟩
  go_wp2
  go_ret
  exact ⟨rfl, hE3.trans hQ.ext⟩

/-- The first left unit, or -1. -/
def FirstU (p : List (List Int)) (P : Nat → Prop) (r : Int) : Prop := (r = -1 ∧ ∀ e, e < p.length → ¬ P e) ∨ ∃ e : Nat, r = e ∧ e < p.length ∧ P e

set_option maxHeartbeats 1600000 in
theorem leftUnit_any (a : Option Addr) (n c : Nat) (p : List (List Int)) (w : World) (hp : RdR w a n c p) (hr : Rect p n n) (hn : n ≤ 1000) :
    Calls Try.prog 128 #[.slice a n c] w fun e w' => ∃ r : Int, e = .returned (.int .i64 r) ∧ FirstU p (LUnit p) r ∧ Ext w w' := by
  have hmf : ∀ (fn : Fn) (first cap : Array Value) (w : World), (Instr.makeFunc fn first cap).run Try.prog w = .ok (.func fn first cap) w := fun _ _ _ _ => rfl
  have Hl := Lib.hid hp.len
  have Hr := Lib.hid hr
  clear hr
  go_enter Try.func128, Try.ntmps128
  go_wp2_with fail
  refine (slIndexFunc_any _ _ _ p _ _ _ _ (hp.ext ((Ext.refl w).alloc _)) (enters_of Try.func151 (by kernel_rfl) (by kernel_rfl)) (leftF a n c _ p _ hn (by simp))).mono ?_
  rintro e w2 ⟨r, rfl, hF, _, _, hE⟩
  go_wp2
  go_ret
  refine ⟨r, rfl, ?_, Ext.trans ((Ext.refl _).alloc _) hE⟩
  rcases hF with ⟨h1, h2⟩ | ⟨k, xs, h1, h2, h3, h4⟩
  · refine .inl ⟨h1, fun e he hL => ?_⟩
    have hn' : e < n := by rw [Hl.out]; exact he
    have := h2 (gr p e) (List.mem_of_getElem? (gr_get he))
    rw [(row_upto Hl.out.symm (Hr.out.2 e hn')).2 hL] at this
    simp at this
  · have hk : k < p.length := (List.getElem?_eq_some_iff.1 h2).1
    have hx := gr_of h2
    refine .inr ⟨k, h1, hk, (row_upto Hl.out.symm (Hr.out.2 k (by rw [Hl.out]; exact hk))).1 ?_⟩
    rw [hx]; simpa using h3

set_option maxRecDepth 100000 in
set_option maxHeartbeats 1600000 in
theorem rightF (n : Nat) (b1 b2 : Nat) (a : Option Addr) (c : Nat) (p : List (List Int)) (e : Nat) (w : World) (hp0 : RdR w a n c p) (hr : Rect p n n) (he : e < n) (hn : n ≤ 1000)
    (k1 : w.cell? ⟨b1, 0, none⟩ = some (.slice a n c)) (k2 : w.cell? ⟨b2, 0, none⟩ = some (.int .i64 e)) :
    AskN 152 #[.pointer (some ⟨b1, 0, none⟩), .pointer (some ⟨b2, 0, none⟩)] n (fun x => at2 p x e == x) w := by
  intro x w1 hx hE
  replace k1 := hE.cell k1
  replace k2 := hE.cell k2
  have hp := RdR.ext hp0 hE
  have hb1 := hp.le
  have hb2 := hp.max
  obtain ⟨b, o, ai, ci, rfl, hc, hrow⟩ := hp.row hr hx
  obtain ⟨b5, o5, rfl, hc1⟩ := hrow.cell2 he
  have z1 : (x : Int) < (n : Int) := by omega
  have z2 : (e : Int) < (n : Int) := by omega
  clear hp hp0 hE hrow hr
  show Calls Try.prog 152 #[.int .i64 x, .pointer (some ⟨b1, 0, none⟩), .pointer (some ⟨b2, 0, none⟩)] w1 _
  go_enter Try.func152, Try.ntmps152
  go_wp2_with fail
  go_quiet (fail)
  go_wp2
  go_ret
  exact ⟨rfl, (Ext.refl _).drewN _⟩

theorem allN_right {p : List (List Int)} {n e : Nat} (hn : p.length = n) : AllN n (fun x => at2 p x e == x) ↔ RUnit p e := by
  constructor
  · intro h x hx; have := h x (by omega); simpa using this
  · intro h x hx; have := h x (by omega); simpa using this

set_option maxRecDepth 100000 in
set_option maxHeartbeats 1600000 in
theorem rightUnit_any (a : Option Addr) (n c : Nat) (p : List (List Int)) (w : World) (hp : RdR w a n c p) (hr : Rect p n n) (hn : n ≤ 1000) :
    Calls Try.prog 129 #[.slice a n c] w fun e w' => ∃ r : Int, e = .returned (.int .i64 r) ∧ FirstU p (RUnit p) r ∧ Ext w w' := by
  have hmf : ∀ (fn : Fn) (first cap : Array Value) (w : World), (Instr.makeFunc fn first cap).run Try.prog w = .ok (.func fn first cap) w := fun _ _ _ _ => rfl
  have Hl := Lib.hid hp.len
  have Hr := Lib.hid hr
  clear hr
  go_enter Try.func129, Try.ntmps129
  go_wp2
  go_loopg [6] n (fun gh i wr => ∃ k : Nat, k ≤ n ∧ gh = n - k ∧ i = .int .i64 k ∧ Ext (w.alloc (.cells #[.slice a n c] 22)) wr ∧ Hid (∀ e, e < k → ¬ RUnit p e))
  case atStart => exact ⟨0, Nat.zero_le _, rfl, rfl, Ext.refl _, fun x h => absurd h (Nat.not_lt_zero _)⟩
  case round =>
    obtain ⟨k, hk, rfl, rfl, hE, Hn⟩ := hrel
    have k1 : wr.cell? ⟨w.heap.size, 0, none⟩ = some (.slice a n c) := hE.cell ((World.cell?_alloc_at _ _ _ _ rfl).trans rfl)
    have hE0 : Ext w wr := Ext.trans ((Ext.refl _).alloc _) hE
    by_cases hlt : k < n
    · have hz : (k : Int) < (n : Int) := by omega
      have lt1 := World.block_lt_of_cell? _ _ k1
      have lt1n := Nat.ne_of_lt lt1
      go_wp2_with fail
      obtain ⟨W, hW⟩ : ∃ W, wr.alloc (.cells #[.int .i64 k] 3) = W := ⟨_, rfl⟩
      have hEW : Ext wr W := by rw [← hW]; exact (Ext.refl _).alloc _
      have k2 : W.cell? ⟨wr.heap.size, 0, none⟩ = some (.int .i64 k) := by rw [← hW]; exact (World.cell?_alloc_at _ _ _ _ rfl).trans rfl
      have k1W := hEW.cell k1
      rw [hW]
      clear hW
      refine (forAll_any _ n _ _ _ _ _ (by omega) (enters_of Try.func152 (by kernel_rfl) (by kernel_rfl)) (rightF n _ _ a c p k _ ((hp.ext hE0).ext hEW) Hr.out hlt hn k1W k2)).mono ?_
      rintro e w2 ⟨rfl, hE2⟩
      rcases pbc (AllN n (fun x => at2 p x k == x)) with ⟨hb, Hb⟩ | ⟨hb, Hb⟩
      · rw [hb]
        have k22 := hE2.cell k2
        go_wp2
        go_ret
        exact ⟨_, rfl, .inr ⟨k, rfl, by rw [← Hl.out]; exact hlt, (allN_right Hl.out.symm).1 Hb.out⟩, hE0.trans (hEW.trans hE2)⟩
      · rw [hb]
        go_wp2
        go_roundg (n - (k + 1))
        case measure => go_light; omega
        case rel => go_light; exact ⟨k + 1, by omega, rfl, by go_num, hE.trans (hEW.trans hE2), fun x hx => by
          by_cases e : x = k
          · subst e; exact fun h => Hb.out ((allN_right Hl.out.symm).2 h)
          · exact Hn.out x (by omega)⟩
    · have hz : ¬ (k : Int) < (n : Int) := by omega
      obtain rfl : n = k := by omega
      go_wp2
      go_ret
      exact ⟨_, rfl, .inl ⟨rfl, fun e he => Hn.out e (by rw [Hl.out]; exact he)⟩, hE0⟩


end Go.Proofs.Ytkapkieeafhaoaa
