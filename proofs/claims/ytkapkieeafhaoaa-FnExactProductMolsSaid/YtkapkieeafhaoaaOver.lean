/- The superposition of two squares, by both. Conditions: none. -/
import Derived.Test.YtkapkieeafhaoaaIsoP
import Derived.Test.YtkapkieeafhaoaaSl
namespace Go.Proofs.Ytkapkieeafhaoaa
open Go.RowKit

theorem mulv {n : Nat} {v : Int} (hn : n ≤ 10) (h0 : 0 ≤ v) (h1 : v < n) : 0 ≤ (n : Int) * v ∧ (n : Int) * v ≤ 100 := by
  refine ⟨Int.mul_nonneg (by omega) h0, ?_⟩
  have := Int.mul_le_mul (a := (n : Int)) (b := v) (c := 10) (d := 10) (by omega) (by omega) h0 (by omega)
  omega

/-- The pairs of symbols, as numbers. -/
def overF (p q : List (List Int)) (n : Nat) (x y : Nat) : Int := (n : Int) * at2 p x y + at2 q x y

/-- Two squares of one order. -/
def Two (p q : List (List Int)) (n : Nat) : Prop := SqOk p ∧ SqOk q ∧ p.length = n ∧ q.length = n

theorem Two.facts {p q : List (List Int)} {n x y : Nat} (h : Two p q n) (hx : x < n) (hy : y < n) :
    n ≤ 10 ∧ Rect p n n ∧ Rect q n n ∧ 0 ≤ (n : Int) * at2 p x y ∧ (n : Int) * at2 p x y ≤ 100 ∧ 0 ≤ at2 q x y ∧ at2 q x y ≤ 10 := by
  obtain ⟨h1, h2, h3, h4⟩ := h
  have hn : n ≤ 10 := by have := h1.2.1; omega
  have g1 := h1.lt (x := x) (y := y) (by omega) (by omega)
  have g2 := h2.lt (x := x) (y := y) (by omega) (by omega)
  obtain ⟨m1, m2⟩ := mulv hn g1.1 (by omega)
  exact ⟨hn, by have := h1.2.2.1; rwa [h3] at this, by have := h2.2.2.1; rwa [h4] at this, m1, m2, g2.1, by omega⟩

set_option maxRecDepth 100000 in
set_option maxHeartbeats 1600000 in
theorem l07Over_any (a : Option Addr) (n c : Nat) (p : List (List Int)) (a' : Option Addr) (c' : Nat) (q : List (List Int)) (w : World)
    (hp : RdR w a n c p) (hq : RdR w a' n c' q) (ht : Two p q n) (hn : n ≤ 10) :
    Calls Try.prog 121 #[.slice a n c, .slice a' n c'] w (RetR w (mat n n (overF p q n))) := by
  have hb1 := hp.le
  have hb2 := hp.max
  have hb3 := hq.le
  have hb4 := hq.max
  have Ht := Lib.hid ht
  clear ht
  go_enter Try.func121, Try.ntmps121
  go_wp2_with fail
  refine (l06Zero_any n n _ (by omega) (by omega)).mono ?_
  rintro e w4 ⟨a4, n4, c4, rs, rfl, hO0, hE0⟩
  obtain rfl : n = n4 := by have := hO0.len; rwa [mat_length, eq_comm] at this
  go_wp2
  go_loopg [7] n (fun gh i wr => ∃ (k : Nat) (f : Nat → Nat → Int), k ≤ n ∧ gh = n - k ∧ i = .int .i64 k ∧ OwnR wr w.heap.size a4 n c4 (mat n n f) rs ∧ Hid (∀ x y, x < k → y < n → f x y = overF p q n x y) ∧ Ext w wr)
  case atStart => exact ⟨0, _, Nat.zero_le _, rfl, rfl, hO0, fun x y h => absurd h (Nat.not_lt_zero _), hE0⟩
  case round =>
    obtain ⟨k, f, hk, rfl, rfl, hO, Hf, hE⟩ := hrel
    clear hO0 hE0
    by_cases hlt : k < n
    · have hz : (k : Int) < (n : Int) := by omega
      go_wp2
      go_loopg [8] n (fun gh j wi => ∃ (y : Nat) (f : Nat → Nat → Int), y ≤ n ∧ gh = n - y ∧ j = .int .i64 y ∧ OwnR wi w.heap.size a4 n c4 (mat n n f) rs ∧ Hid (∀ i j, i < k ∨ i = k ∧ j < y → j < n → f i j = overF p q n i j) ∧ Ext w wi)
      case atStart => exact ⟨0, f, Nat.zero_le _, rfl, rfl, hO, fun i j h hj => Hf.out i j (by omega) hj, hE⟩
      case round =>
        obtain ⟨y, f2, hy, rfl, rfl, hO2, Hf2, hE2⟩ := hrel
        clear hO hE Hf
        by_cases hly : y < n
        · have hz2 : (y : Int) < (n : Int) := by omega
          obtain ⟨_, hRp, hRq, m1, m2, v1, v2⟩ := Ht.out.facts hlt hly
          obtain ⟨b, o, ai, ci, rfl, hc, hrow⟩ := hp.row hRp hlt
          obtain ⟨b1, o1, rfl, hc1⟩ := hrow.cell2 hly
          obtain ⟨b2, o2, ai2, ci2, rfl, hc2, hrow2⟩ := hq.row hRq hlt
          obtain ⟨b3, o3, rfl, hc3⟩ := hrow2.cell2 hly
          replace hc := hE2.cell hc
          replace hc1 := hE2.cell hc1
          replace hc2 := hE2.cell hc2
          replace hc3 := hE2.cell hc3
          obtain ⟨g, gg, d, rfl, hd1, hB, hd2, hf2, hset⟩ := hO2.cellAt (mat_rect n n f2) hlt hly
          have hfin := hset ((n : Int) * at2 p k y + at2 q k y)
          have e : set2 (mat n n f2) k y ((n : Int) * at2 p k y + at2 q k y) = mat n n fun i j => if i = k ∧ j = y then (n : Int) * at2 p k y + at2 q k y else f2 i j := by
            rw [set2, gr_of (mat_row hlt), mat_set hlt]
          rw [e] at hfin
          have hE3 := hE2.setCell (p := ⟨gg, y, none⟩) hB (.int .i64 ((n : Int) * at2 p k y + at2 q k y))
          clear hset hO2 hE2 e hrow hrow2 hRp hRq
          go_wp2_with fail
          go_region
          clear m1 m2 v1 v2
          go_wp2
          go_roundg (n - (y + 1))
          case measure => go_light; omega
          case rel =>
            go_light
            refine ⟨y + 1, _, by omega, rfl, by go_num, hfin.ext ((Ext.refl _).drew), fun i j h hj => ?_, hE3.drew⟩
            by_cases e : i = k ∧ j = y
            · obtain ⟨rfl, rfl⟩ := e
              simp [overF]
            · simp only [if_neg e]
              exact Hf2.out i j (by omega) hj
        · have hz2 : ¬ (y : Int) < (n : Int) := by omega
          obtain rfl : n = y := by omega
          go_wp2
          go_roundg (n - (k + 1))
          case measure => go_light; omega
          case rel => go_light; exact ⟨k + 1, f2, by omega, rfl, by go_num, hO2, fun i j h hj => Hf2.out i j (by omega) hj, hE2⟩
    · have hz : ¬ (k : Int) < (n : Int) := by omega
      obtain rfl : n = k := by omega
      go_wp2
      go_ret
      rw [mat_congr Hf.out] at hO
      exact ⟨_, _, _, _, rfl, hO, hE⟩

set_option maxRecDepth 100000 in
set_option maxHeartbeats 1600000 in
theorem overG (n : Nat) (b1 b2 b3 : Nat) (a : Option Addr) (c : Nat) (p : List (List Int)) (a' : Option Addr) (c' : Nat) (q : List (List Int)) (w : World)
    (hp0 : RdR w a n c p) (hq0 : RdR w a' n c' q) (ht : Two p q n) (k1 : w.cell? ⟨b1, 0, none⟩ = some (.int .i64 n)) (k2 : w.cell? ⟨b2, 0, none⟩ = some (.slice a n c)) (k3 : w.cell? ⟨b3, 0, none⟩ = some (.slice a' n c')) :
    Gives 145 #[.pointer (some ⟨b1, 0, none⟩), .pointer (some ⟨b2, 0, none⟩), .pointer (some ⟨b3, 0, none⟩)] n (overF p q n) w := by
  intro x y w1 hx hy hE
  replace k1 := hE.cell k1
  replace k2 := hE.cell k2
  replace k3 := hE.cell k3
  have hp := RdR.ext hp0 hE
  have hq := RdR.ext hq0 hE
  clear hp0 hq0 hE
  have hb1 := hp.le
  have hb2 := hp.max
  have hb3 := hq.le
  have hb4 := hq.max
  obtain ⟨hn, hRp, hRq, m1, m2, v1, v2⟩ := ht.facts hx hy
  obtain ⟨b, o, ai, ci, rfl, hc, hrow⟩ := hp.row hRp hx
  obtain ⟨b5, o5, rfl, hc1⟩ := hrow.cell2 hy
  obtain ⟨b6, o6, ai2, ci2, rfl, hc2, hrow2⟩ := hq.row hRq hx
  obtain ⟨b7, o7, rfl, hc3⟩ := hrow2.cell2 hy
  have z1 : (x : Int) < (n : Int) := by omega
  have z2 : (y : Int) < (n : Int) := by omega
  have hw1 : IntKind.i64.wrap ((n : Int) * at2 p x y) = (n : Int) * at2 p x y := IntWalk.i64_in _ (by omega)
  have hw2 : IntKind.i64.wrap ((n : Int) * at2 p x y + at2 q x y) = (n : Int) * at2 p x y + at2 q x y := IntWalk.i64_in _ (by omega)
  clear hrow hrow2 hRp hRq hp hq ht
  show Calls Try.prog 145 #[.int .i64 x, .int .i64 y, .pointer (some ⟨b1, 0, none⟩), .pointer (some ⟨b2, 0, none⟩), .pointer (some ⟨b3, 0, none⟩)] w1 _
  go_enter Try.func145, Try.ntmps145
  go_wp2_with fail
  go_quiet (fail)
  clear hw1 hw2
  go_wp2
  go_ret
  exact ⟨rfl, (Q.refl _).drewN _⟩

set_option maxHeartbeats 1600000 in
theorem superpose_any (a : Option Addr) (n c : Nat) (p : List (List Int)) (a' : Option Addr) (c' : Nat) (q : List (List Int)) (w : World)
    (hp : RdR w a n c p) (hq : RdR w a' n c' q) (ht : Two p q n) (hn : n ≤ 10) :
    Calls Try.prog 112 #[.slice a n c, .slice a' n c'] w (RetR w (mat n n (overF p q n))) := by
  have hmf : ∀ (fn : Fn) (first cap : Array Value) (w : World), (Instr.makeFunc fn first cap).run Try.prog w = .ok (.func fn first cap) w := fun _ _ _ _ => rfl
  have Ht := Lib.hid ht
  clear ht
  go_enter Try.func112, Try.ntmps112
  go_wp2_with fail
  refine (sizeR_any _ _ _ _).mono ?_
  rintro e w2 ⟨rfl, rfl⟩
  go_wp2_with fail
  refine (filled n _ _ (overF p q n) _ (by omega) (enters_of Try.func145 (by kernel_rfl) (by kernel_rfl)) (overG n _ _ _ a c p a' c' q _ (hp.ext ?_) (hq.ext ?_) Ht.out ?_ ?_ ?_)).mono ?_
  · exact Ext.alloc (Ext.alloc (Ext.alloc (Ext.refl _) _) _) _
  · exact Ext.alloc (Ext.alloc (Ext.alloc (Ext.refl _) _) _) _
  · exact (World.cell?_alloc_at _ _ _ _ (by simp)).trans rfl
  · exact (World.cell?_alloc_past _ _ _ (by simp <;> omega)).trans ((World.cell?_alloc_past _ _ _ (by simp)).trans ((World.cell?_alloc_at _ _ _ _ rfl).trans rfl))
  · exact (World.cell?_alloc_past _ _ _ (by simp)).trans ((World.cell?_alloc_at _ _ _ _ (by simp)).trans rfl)
  rintro e w3 ⟨a1, n1, c1, rs, rfl, hO, hE⟩
  have hE2 : Ext w w3 := Ext.trans (Ext.alloc (Ext.alloc (Ext.alloc (Ext.refl _) _) _) _) hE
  go_wp2
  go_ret
  exact ⟨_, _, _, _, rfl, hO.base (by simp; omega), hE2⟩
end Go.Proofs.Ytkapkieeafhaoaa
