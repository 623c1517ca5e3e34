/- Associativity, of both. Conditions: none. -/
import Derived.Test.YtkapkieeafhaoaaFPair
import Derived.Test.YtkapkieeafhaoaaIsoP
namespace Go.Proofs.Ytkapkieeafhaoaa
open Go.RowKit

def as3 (p : List (List Int)) (x y z : Nat) : Bool := at2 p (at2 p x y).toNat z == at2 p x (at2 p y z).toNat
def Assoc (p : List (List Int)) (n : Nat) : Prop := ∀ x y z, x < n → y < n → z < n → as3 p x y z = true

theorem Rng.nat {p : List (List Int)} {n x y : Nat} (h : Rng p n) (hx : x < n) (hy : y < n) : ∃ v : Nat, at2 p x y = v ∧ v < n := by
  have := h.2.2 x y hx hy
  exact ⟨(at2 p x y).toNat, by omega, by omega⟩

/-- The cells that one test of associativity reads. -/
theorem as3_cells {w : World} {a : Option Addr} {n c : Nat} {p : List (List Int)} (h : RdR w a n c p) (hg : Rng p n) {x y z : Nat} (hx : x < n) (hy : y < n) (hz : z < n) :
    ∃ (b o : Nat) (ax : Option Addr) (cx : Nat) (ay : Option Addr) (cy : Nat) (av : Option Addr) (cv v u : Nat), a = some ⟨b, o, none⟩ ∧ v < n ∧ u < n ∧ at2 p x y = v ∧ at2 p y z = u ∧
      w.cell? ⟨b, o + x, none⟩ = some (.slice ax n cx) ∧ w.cell? ⟨b, o + y, none⟩ = some (.slice ay n cy) ∧ w.cell? ⟨b, o + v, none⟩ = some (.slice av n cv) ∧
      RdI w ax n cx (gr p x) ∧ RdI w ay n cy (gr p y) ∧ RdI w av n cv (gr p v) := by
  obtain ⟨v, hv, hvn⟩ := hg.nat hx hy
  obtain ⟨u, hu, hun⟩ := hg.nat hy hz
  obtain ⟨b, o, ax, cx, rfl, k1, g1⟩ := h.row hg.1 hx
  obtain ⟨b', o', ay, cy, hh, k2, g2⟩ := h.row hg.1 hy
  cases hh
  obtain ⟨b', o', av, cv, hh, k3, g3⟩ := h.row hg.1 hvn
  cases hh
  exact ⟨b, o, ax, cx, ay, cy, av, cv, v, u, rfl, hvn, hun, hv, hu, k1, k2, k3, g1, g2, g3⟩

set_option maxRecDepth 100000 in
set_option maxHeartbeats 3200000 in
theorem l08Associative_any (a : Option Addr) (n c : Nat) (p : List (List Int)) (w : World) (hp0 : RdR w a n c p) (hg : Rng p n) :
    Calls Try.prog 74 #[.slice a n c] w fun e w' => e = .returned (.bool (pb (Assoc p n))) ∧ Ext w w' := by
  have hb1 := hp0.le
  have hb2 := hp0.max
  have Hg := Lib.hid hg
  have hn := hg.2.1
  clear hg
  go_enter Try.func74, Try.ntmps74
  go_wp2
  go_loopg [4] n (fun gh i wr => ∃ k : Nat, k ≤ n ∧ gh = n - k ∧ i = .int .i64 k ∧ Q w wr ∧ Hid (∀ x y z, x < k → y < n → z < n → as3 p x y z = true))
  case atStart => exact ⟨0, Nat.zero_le _, rfl, rfl, Q.refl _, fun x y z h => absurd h (Nat.not_lt_zero _)⟩
  case round =>
    obtain ⟨x, hx, rfl, rfl, hQ1, H1⟩ := hrel
    by_cases hxn : x < n
    · have hz1 : (x : Int) < (n : Int) := by omega
      go_wp2
      go_loopg [5] n (fun gh i wr => ∃ k : Nat, k ≤ n ∧ gh = n - k ∧ i = .int .i64 k ∧ Q w wr ∧ Hid (∀ y z, y < k → z < n → as3 p x y z = true))
      case atStart => exact ⟨0, Nat.zero_le _, rfl, rfl, hQ1, fun y z h => absurd h (Nat.not_lt_zero _)⟩
      case round =>
        obtain ⟨y, hy, rfl, rfl, hQ2, H2⟩ := hrel
        clear hQ1
        by_cases hyn : y < n
        · have hz2 : (y : Int) < (n : Int) := by omega
          go_wp2
          go_loopg [6] n (fun gh i wr => ∃ k : Nat, k ≤ n ∧ gh = n - k ∧ i = .int .i64 k ∧ Q w wr ∧ Hid (∀ z, z < k → as3 p x y z = true))
          case atStart => exact ⟨0, Nat.zero_le _, rfl, rfl, hQ2, fun z h => absurd h (Nat.not_lt_zero _)⟩
          case round =>
            obtain ⟨z, hz, rfl, rfl, hQ3, H3⟩ := hrel
            clear hQ2
            by_cases hzn : z < n
            · have hz3 : (z : Int) < (n : Int) := by omega
              obtain ⟨b, o, ax, cx, ay, cy, av, cv, v, u, rfl, hv, hu, ev, eu, k1, k2, k3, g1, g2, g3⟩ := as3_cells (hp0.ext hQ3.ext) Hg.out hxn hyn hzn
              obtain ⟨b1, o1, rfl, q1⟩ := g1.cell2 hyn
              obtain ⟨b1', o1', hh, q2⟩ := g1.cell2 hu
              cases hh
              obtain ⟨b2, o2, rfl, q3⟩ := g2.cell2 hzn
              obtain ⟨b3, o3, rfl, q4⟩ := g3.cell2 hzn
              rw [ev] at q1
              rw [eu] at q3
              obtain ⟨t, ht⟩ : ∃ t, (at2 p v z == at2 p x u) = t := ⟨_, rfl⟩
              have ht2 : (at2 p v z != at2 p x u) = !t := by rw [← ht]; rfl
              have Ht : Hid (as3 p x y z = t) := Lib.hid (by rw [as3, ev, eu]; exact ht)
              have i1 : (v : Int) < (n : Int) := by omega
              have i2 : (u : Int) < (n : Int) := by omega
              have i3 : (0 : Int) ≤ (v : Int) := by omega
              have i4 : (0 : Int) ≤ (u : Int) := by omega
              clear g1 g2 g3 ev eu ht
              cases t
              · go_wp2_with fail
                go_quiet (fail)
                go_wp2
                go_ret
                exact ⟨ret_npb (fun h => by have := h x y z hxn hyn hzn; rw [Ht.out] at this; cases this), (hQ3.drewN _).ext⟩
              · go_wp2_with fail
                go_quiet (fail)
                go_wp2
                go_roundg (n - (z + 1))
                case measure => go_light; omega
                case rel => go_light; exact ⟨z + 1, by omega, rfl, by go_num, hQ3.drewN _, fun i hi => by
                  by_cases e : i = z
                  · subst e; exact Ht.out
                  · exact H3.out i (by omega)⟩
            · have hz3 : ¬ (z : Int) < (n : Int) := by omega
              obtain rfl : n = z := by omega
              go_wp2
              go_roundg (n - (y + 1))
              case measure => go_light; omega
              case rel => go_light; exact ⟨y + 1, by omega, rfl, by go_num, hQ3, fun i j hi hj => by
                by_cases e : i = y
                · subst e; exact H3.out j hj
                · exact H2.out i j (by omega) hj⟩
        · have hz2 : ¬ (y : Int) < (n : Int) := by omega
          obtain rfl : n = y := by omega
          go_wp2
          go_roundg (n - (x + 1))
          case measure => go_light; omega
          case rel => go_light; exact ⟨x + 1, by omega, rfl, by go_num, hQ2, fun i j k hi hj hk => by
            by_cases e : i = x
            · subst e; exact H2.out j k hj hk
            · exact H1.out i j k (by omega) hj hk⟩
    · have hz1 : ¬ (x : Int) < (n : Int) := by omega
      obtain rfl : n = x := by omega
      go_wp2
      go_ret
      exact ⟨ret_pb H1.out, hQ1.ext⟩

set_option maxRecDepth 100000 in
set_option maxHeartbeats 1600000 in
theorem assIn (a : Option Addr) (n c : Nat) (p : List (List Int)) (b1 b2 b3 : Nat) (x y : Nat) (w : World) (hp0 : RdR w a n c p) (hg : Rng p n) (hx : x < n) (hy : y < n)
    (k1 : w.cell? ⟨b1, 0, none⟩ = some (.slice a n c)) (k2 : w.cell? ⟨b2, 0, none⟩ = some (.int .i64 x)) (k3 : w.cell? ⟨b3, 0, none⟩ = some (.int .i64 y)) :
    AskN 111 #[.pointer (some ⟨b1, 0, none⟩), .pointer (some ⟨b2, 0, none⟩), .pointer (some ⟨b3, 0, none⟩)] n (as3 p x y) w := by
  intro z w1 hz hE
  have hp := RdR.ext hp0 hE
  have hb1 := hp.le
  have hb2 := hp.max
  have hn := hg.2.1
  replace k1 := hE.cell k1
  replace k2 := hE.cell k2
  replace k3 := hE.cell k3
  obtain ⟨b, o, ax, cx, ay, cy, av, cv, v, u, rfl, hv, hu, ev, eu, e1, e2, e3, g1, g2, g3⟩ := as3_cells hp hg hx hy hz
  obtain ⟨b4, o1, rfl, q1⟩ := g1.cell2 hy
  obtain ⟨b4', o1', hh, q2⟩ := g1.cell2 hu
  cases hh
  obtain ⟨b5, o2, rfl, q3⟩ := g2.cell2 hz
  obtain ⟨b6, o3, rfl, q4⟩ := g3.cell2 hz
  rw [ev] at q1
  rw [eu] at q3
  obtain ⟨t, ht⟩ : ∃ t, (at2 p v z == at2 p x u) = t := ⟨_, rfl⟩
  rw [show as3 p x y z = t by rw [as3, ev, eu]; exact ht]
  have i1 : (v : Int) < (n : Int) := by omega
  have i2 : (u : Int) < (n : Int) := by omega
  have i3 : (x : Int) < (n : Int) := by omega
  have i4 : (y : Int) < (n : Int) := by omega
  have i5 : (z : Int) < (n : Int) := by omega
  clear g1 g2 g3 ev eu hp hp0 hg hE
  show Calls Try.prog 111 #[.int .i64 z, .pointer (some ⟨b1, 0, none⟩), .pointer (some ⟨b2, 0, none⟩), .pointer (some ⟨b3, 0, none⟩)] w1 _
  go_enter Try.func111, Try.ntmps111
  go_wp2_with fail
  go_quiet (fail)
  go_wp2
  go_ret
  exact ⟨rfl, (Ext.refl _).drewN _⟩

set_option maxRecDepth 100000 in
set_option maxHeartbeats 800000 in
theorem assOut (a : Option Addr) (n c : Nat) (p : List (List Int)) (b1 : Nat) (w : World) (hp : RdR w a n c p) (hg : Rng p n) (k1 : w.cell? ⟨b1, 0, none⟩ = some (.slice a n c)) :
    AskP 110 #[.pointer (some ⟨b1, 0, none⟩)] n (fun x y => pb (AllN n (as3 p x y))) w := by
  intro x y w1 hx hy hE
  have hmf : ∀ (fn : Fn) (first cap : Array Value) (w : World), (Instr.makeFunc fn first cap).run Try.prog w = .ok (.func fn first cap) w := fun _ _ _ _ => rfl
  have Hp := Lib.hid (RdR.ext hp hE)
  have Hg := Lib.hid hg
  have hn := hg.2.1
  replace k1 := hE.cell k1
  have lt1 := World.block_lt_of_cell? _ _ k1
  have lt1n := Nat.ne_of_lt lt1
  clear hp hg hE
  show Calls Try.prog 110 #[.int .i64 x, .int .i64 y, .pointer (some ⟨b1, 0, none⟩)] w1 _
  go_enter Try.func110, Try.ntmps110
  go_wp2_with fail
  obtain ⟨W, hW⟩ : ∃ W, (w1.alloc (.cells #[.int .i64 x] 2)).alloc (.cells #[.int .i64 y] 2) = W := ⟨_, rfl⟩
  have hEW : Ext w1 W := by rw [← hW]; exact ((Ext.refl _).alloc _).alloc _
  have k2 : W.cell? ⟨w1.heap.size, 0, none⟩ = some (.int .i64 x) := by rw [← hW]; exact (World.cell?_alloc_past _ _ _ (by simp)).trans ((World.cell?_alloc_at _ _ _ _ rfl).trans rfl)
  have k3 : W.cell? ⟨w1.heap.size + 1, 0, none⟩ = some (.int .i64 y) := by rw [← hW]; exact (World.cell?_alloc_at _ _ _ _ (by simp)).trans rfl
  rw [hW]
  clear hW
  refine (forAll_any _ n _ _ _ (as3 p x y) _ (by omega) (enters_of Try.func111 (by kernel_rfl) (by kernel_rfl)) (assIn a n c p _ _ _ x y W (Hp.out.ext hEW) Hg.out hx hy (hEW.cell k1) k2 k3)).mono ?_
  rintro e w2 ⟨rfl, hE2⟩
  go_wp2
  go_ret
  exact ⟨rfl, hEW.trans hE2⟩

set_option maxRecDepth 100000 in
set_option maxHeartbeats 800000 in
theorem associative_any (a : Option Addr) (n c : Nat) (p : List (List Int)) (w : World) (hp : RdR w a n c p) (hg : Rng p n) :
    Calls Try.prog 75 #[.slice a n c] w fun e w' => e = .returned (.bool (pb (Assoc p n))) ∧ Ext w w' := by
  have hmf : ∀ (fn : Fn) (first cap : Array Value) (w : World), (Instr.makeFunc fn first cap).run Try.prog w = .ok (.func fn first cap) w := fun _ _ _ _ => rfl
  have Hg := Lib.hid hg
  have hn := hg.2.1
  clear hg
  go_enter Try.func75, Try.ntmps75
  go_wp2_with fail
  refine (forPairs_any _ n _ _ _ _ _ (by omega) (enters_of Try.func110 (by kernel_rfl) (by kernel_rfl)) (assOut a n c p _ _ (hp.ext ((Ext.refl _).alloc _)) Hg.out ((World.cell?_alloc_at _ _ _ _ rfl).trans rfl))).mono ?_
  rintro e w2 ⟨rfl, hE2⟩
  rw [show pb (All2 n fun x y => pb (AllN n (as3 p x y))) = pb (Assoc p n) from pb_congr ⟨fun h x y z hx hy hz => (pb_iff.1 (h x y hx hy)) z hz, fun h x y hx hy => pb_true (fun z hz => h x y z hx hy hz)⟩]
  go_wp2
  go_ret
  exact ⟨rfl, Ext.trans ((Ext.refl _).alloc _) hE2⟩
end Go.Proofs.Ytkapkieeafhaoaa
