/- The product of two squares, by both. Conditions: none. -/
import Derived.Test.YtkapkieeafhaoaaOver
namespace Go.Proofs.Ytkapkieeafhaoaa
open Go.RowKit

def prodF (p q : List (List Int)) (m : Nat) (x y : Nat) : Int := (m : Int) * at2 p (x / m) (y / m) + at2 q (x % m) (y % m)

/-- Two squares whose orders' product is small. -/
def TwoP (p q : List (List Int)) (n m K : Nat) : Prop := SqOk p ∧ SqOk q ∧ p.length = n ∧ q.length = m ∧ n * m = K ∧ K ≤ 10

theorem TwoP.div {p q : List (List Int)} {n m K x : Nat} (h : TwoP p q n m K) (hx : x < K) : x / m < n ∧ x % m < m := by
  obtain ⟨h1, h2, h3, h4, h5, h6⟩ := h
  have hm : 0 < m := by have := h2.1; omega
  exact ⟨Nat.div_lt_of_lt_mul (by rw [Nat.mul_comm, h5]; exact hx), Nat.mod_lt _ hm⟩

theorem TwoP.facts {p q : List (List Int)} {n m K x y : Nat} (h : TwoP p q n m K) (hx : x < K) (hy : y < K) :
    Rect p n n ∧ Rect q m m ∧ 0 ≤ (m : Int) * at2 p (x / m) (y / m) ∧ (m : Int) * at2 p (x / m) (y / m) ≤ 100 ∧ 0 ≤ at2 q (x % m) (y % m) ∧ at2 q (x % m) (y % m) ≤ 10 := by
  obtain ⟨d1, d2⟩ := h.div hx
  obtain ⟨d3, d4⟩ := h.div hy
  obtain ⟨h1, h2, h3, h4, h5, h6⟩ := h
  have hn : n ≤ 10 := by have := h1.2.1; omega
  have hm : m ≤ 10 := by have := h2.2.1; omega
  have g1 := h1.lt (x := x / m) (y := y / m) (by omega) (by omega)
  have g2 := h2.lt (x := x % m) (y := y % m) (by omega) (by omega)
  refine ⟨by have := h1.2.2.1; rwa [h3] at this, by have := h2.2.2.1; rwa [h4] at this, Int.mul_nonneg (by omega) g1.1, ?_, g2.1, by omega⟩
  have := Int.mul_le_mul (a := (m : Int)) (b := at2 p (x / m) (y / m)) (c := 10) (d := 10) (by omega) (by omega) g1.1 (by omega)
  omega

set_option maxRecDepth 100000 in
set_option maxHeartbeats 3200000 in
theorem l06Product_any (a : Option Addr) (n c : Nat) (p : List (List Int)) (a' : Option Addr) (m c' : Nat) (q : List (List Int)) (K : Nat) (w : World)
    (hp : RdR w a n c p) (hq : RdR w a' m c' q) (ht : TwoP p q n m K) :
    Calls Try.prog 98 #[.slice a n c, .slice a' m c'] w (RetR w (mat K K (prodF p q m))) := by
  have hb1 := hp.le
  have hb2 := hp.max
  have hb3 := hq.le
  have hb4 := hq.max
  have hn : n ≤ 10 := by have := ht.1.2.1; have := ht.2.2.1; omega
  have hm : m ≤ 10 := by have := ht.2.1.2.1; have := ht.2.2.2.1; omega
  have hm0 : 1 ≤ m := by have := ht.2.1.1; have := ht.2.2.2.1; omega
  have hK : (n : Int) * (m : Int) = (K : Int) := by have := ht.2.2.2.2.1; exact_mod_cast this
  have hK1 : K ≤ 10 := ht.2.2.2.2.2
  have Ht := Lib.hid ht
  have hw0 : IntKind.i64.wrap ((n : Int) * (m : Int)) = (K : Int) := by rw [hK]; exact IntWalk.i64_in _ (by omega)
  have e0 : (n : Int) * (m : Int) ≤ 10 := by omega
  have e1 : 0 ≤ (n : Int) * (m : Int) := by omega
  clear ht
  go_enter Try.func98, Try.ntmps98
  go_wp2_with fail
  refine (l06Zero_any K K _ (by omega) (by omega)).mono ?_
  rintro e w4 ⟨a4, n4, c4, rs, rfl, hO0, hE0⟩
  obtain rfl : K = n4 := by have := hO0.len; rwa [mat_length, eq_comm] at this
  go_wp2
  go_loopg [8] K (fun gh i wr => ∃ (k : Nat) (f : Nat → Nat → Int), k ≤ K ∧ gh = K - k ∧ i = .int .i64 k ∧ OwnR wr w.heap.size a4 K c4 (mat K K f) rs ∧ Hid (∀ x y, x < k → y < K → f x y = prodF p q m x y) ∧ Ext w wr)
  case atStart => exact ⟨0, _, Nat.zero_le _, rfl, rfl, hO0, fun x y h => absurd h (Nat.not_lt_zero _), hE0⟩
  case round =>
    obtain ⟨k, f, hk, rfl, rfl, hO, Hf, hE⟩ := hrel
    clear hO0 hE0
    by_cases hlt : k < K
    · have hz : (k : Int) < (K : Int) := by omega
      go_wp2
      go_loopg [9] K (fun gh j wi => ∃ (y : Nat) (f : Nat → Nat → Int), y ≤ K ∧ gh = K - y ∧ j = .int .i64 y ∧ OwnR wi w.heap.size a4 K c4 (mat K K f) rs ∧ Hid (∀ i j, i < k ∨ i = k ∧ j < y → j < K → f i j = prodF p q m i j) ∧ Ext w wi)
      case atStart => exact ⟨0, f, Nat.zero_le _, rfl, rfl, hO, fun i j h hj => Hf.out i j (by omega) hj, hE⟩
      case round =>
        obtain ⟨y, f2, hy, rfl, rfl, hO2, Hf2, hE2⟩ := hrel
        clear hO hE Hf
        by_cases hly : y < K
        · have hz2 : (y : Int) < (K : Int) := by omega
          obtain ⟨hRp, hRq, m1, m2, v1, v2⟩ := Ht.out.facts hlt hly
          obtain ⟨d1, d2⟩ := Ht.out.div hlt
          obtain ⟨d3, d4⟩ := Ht.out.div hly
          have ev : prodF p q m k y = (m : Int) * at2 p (k / m) (y / m) + at2 q (k % m) (y % m) := rfl
          have q1 : (k : Int) / (m : Int) = ((k / m : Nat) : Int) := rfl
          have q2 : (k : Int) % (m : Int) = ((k % m : Nat) : Int) := rfl
          have q3 : (y : Int) / (m : Int) = ((y / m : Nat) : Int) := rfl
          have q4 : (y : Int) % (m : Int) = ((y % m : Nat) : Int) := rfl
          obtain ⟨x1, hx1⟩ : ∃ x1, k / m = x1 := ⟨_, rfl⟩
          obtain ⟨x2, hx2⟩ : ∃ x2, k % m = x2 := ⟨_, rfl⟩
          obtain ⟨y1, hy1⟩ : ∃ y1, y / m = y1 := ⟨_, rfl⟩
          obtain ⟨y2, hy2⟩ : ∃ y2, y % m = y2 := ⟨_, rfl⟩
          rw [hx1, hy1] at m1 m2
          rw [hx2, hy2] at v1 v2
          rw [hx1, hx2, hy1, hy2] at ev
          rw [hx1] at q1 d1
          rw [hx2] at q2 d2
          rw [hy1] at q3 d3
          rw [hy2] at q4 d4
          obtain ⟨b, o, ai, ci, rfl, hc, hrow⟩ := hp.row hRp d1
          obtain ⟨b1, o1, rfl, hc1⟩ := hrow.cell2 d3
          obtain ⟨b2, o2, ai2, ci2, rfl, hc2, hrow2⟩ := hq.row hRq d2
          obtain ⟨b3, o3, rfl, hc3⟩ := hrow2.cell2 d4
          replace hc := hE2.cell hc
          replace hc1 := hE2.cell hc1
          replace hc2 := hE2.cell hc2
          replace hc3 := hE2.cell hc3
          obtain ⟨g, gg, d, rfl, hd1, hB, hd2, hf2, hset⟩ := hO2.cellAt (mat_rect K K f2) hlt hly
          have hfin := hset ((m : Int) * at2 p x1 y1 + at2 q x2 y2)
          have e : set2 (mat K K f2) k y ((m : Int) * at2 p x1 y1 + at2 q x2 y2) = mat K K fun i j => if i = k ∧ j = y then (m : Int) * at2 p x1 y1 + at2 q x2 y2 else f2 i j := by
            rw [set2, gr_of (mat_row hlt), mat_set hlt]
          rw [e] at hfin
          have hE3 := hE2.setCell (p := ⟨gg, y, none⟩) hB (.int .i64 ((m : Int) * at2 p x1 y1 + at2 q x2 y2))
          have i1 : (x1 : Int) < (n : Int) := by omega
          have i2 : (y1 : Int) < (n : Int) := by omega
          have i3 : (x2 : Int) < (m : Int) := by omega
          have i4 : (y2 : Int) < (m : Int) := by omega
          have Ev := Lib.hid ev
          clear hset hO2 hE2 e hrow hrow2 hRp hRq ev hx1 hx2 hy1 hy2
          go_wp2_with fail
          go_region
          clear m1 m2 v1 v2
          go_wp2
          go_roundg (K - (y + 1))
          case measure => go_light; omega
          case rel =>
            go_light
            refine ⟨y + 1, _, by omega, rfl, by go_num, hfin.ext ((Ext.refl _).drew), fun i j h hj => ?_, hE3.drew⟩
            by_cases e : i = k ∧ j = y
            · obtain ⟨rfl, rfl⟩ := e
              simp only [and_self, if_true]
              exact Ev.out.symm
            · simp only [if_neg e]
              exact Hf2.out i j (by omega) hj
        · have hz2 : ¬ (y : Int) < (K : Int) := by omega
          obtain rfl : K = y := by omega
          go_wp2
          go_roundg (K - (k + 1))
          case measure => go_light; omega
          case rel => go_light; exact ⟨k + 1, f2, by omega, rfl, by go_num, hO2, fun i j h hj => Hf2.out i j (by omega) hj, hE2⟩
    · have hz : ¬ (k : Int) < (K : Int) := by omega
      obtain rfl : K = k := by omega
      go_wp2
      go_ret
      rw [mat_congr Hf.out] at hO
      exact ⟨_, _, _, _, rfl, hO, hE⟩

set_option maxRecDepth 100000 in
set_option maxHeartbeats 3200000 in
theorem prodG (n m K : Nat) (b1 b2 b3 : Nat) (a : Option Addr) (c : Nat) (p : List (List Int)) (a' : Option Addr) (c' : Nat) (q : List (List Int)) (w : World)
    (hp0 : RdR w a n c p) (hq0 : RdR w a' m c' q) (ht : TwoP p q n m K) (k1 : w.cell? ⟨b1, 0, none⟩ = some (.int .i64 m)) (k2 : w.cell? ⟨b2, 0, none⟩ = some (.slice a n c)) (k3 : w.cell? ⟨b3, 0, none⟩ = some (.slice a' m c')) :
    Gives 131 #[.pointer (some ⟨b1, 0, none⟩), .pointer (some ⟨b2, 0, none⟩), .pointer (some ⟨b3, 0, none⟩)] K (prodF p q m) w := by
  intro x y w1 hx hy hE
  replace k1 := hE.cell k1
  replace k2 := hE.cell k2
  replace k3 := hE.cell k3
  have hp := RdR.ext hp0 hE
  have hq := RdR.ext hq0 hE
  clear hp0 hq0 hE
  have hb1 := hp.le
  have hb2 := hp.max
  have hb3 := hq.le
  have hb4 := hq.max
  have hn : n ≤ 10 := by have := ht.1.2.1; have := ht.2.2.1; omega
  have hm : m ≤ 10 := by have := ht.2.1.2.1; have := ht.2.2.2.1; omega
  have hm0 : 1 ≤ m := by have := ht.2.1.1; have := ht.2.2.2.1; omega
  have hK1 : K ≤ 10 := ht.2.2.2.2.2
  obtain ⟨hRp, hRq, m1, m2, v1, v2⟩ := ht.facts hx hy
  obtain ⟨d1, d2⟩ := ht.div hx
  obtain ⟨d3, d4⟩ := ht.div hy
  have ev : prodF p q m x y = (m : Int) * at2 p (x / m) (y / m) + at2 q (x % m) (y % m) := rfl
  have q1 : (x : Int) / (m : Int) = ((x / m : Nat) : Int) := rfl
  have q2 : (x : Int) % (m : Int) = ((x % m : Nat) : Int) := rfl
  have q3 : (y : Int) / (m : Int) = ((y / m : Nat) : Int) := rfl
  have q4 : (y : Int) % (m : Int) = ((y % m : Nat) : Int) := rfl
  obtain ⟨x1, hx1⟩ : ∃ x1, x / m = x1 := ⟨_, rfl⟩
  obtain ⟨x2, hx2⟩ : ∃ x2, x % m = x2 := ⟨_, rfl⟩
  obtain ⟨y1, hy1⟩ : ∃ y1, y / m = y1 := ⟨_, rfl⟩
  obtain ⟨y2, hy2⟩ : ∃ y2, y % m = y2 := ⟨_, rfl⟩
  rw [hx1, hy1] at m1 m2
  rw [hx2, hy2] at v1 v2
  rw [hx1, hx2, hy1, hy2] at ev
  rw [hx1] at q1 d1
  rw [hx2] at q2 d2
  rw [hy1] at q3 d3
  rw [hy2] at q4 d4
  obtain ⟨b, o, ai, ci, rfl, hc, hrow⟩ := hp.row hRp d1
  obtain ⟨b5, o5, rfl, hc1⟩ := hrow.cell2 d3
  obtain ⟨b6, o6, ai2, ci2, rfl, hc2, hrow2⟩ := hq.row hRq d2
  obtain ⟨b7, o7, rfl, hc3⟩ := hrow2.cell2 d4
  have i1 : (x1 : Int) < (n : Int) := by omega
  have i2 : (y1 : Int) < (n : Int) := by omega
  have i3 : (x2 : Int) < (m : Int) := by omega
  have i4 : (y2 : Int) < (m : Int) := by omega
  have hw1 : IntKind.i64.wrap ((m : Int) * at2 p x1 y1) = (m : Int) * at2 p x1 y1 := IntWalk.i64_in _ (by omega)
  have hw2 : IntKind.i64.wrap ((m : Int) * at2 p x1 y1 + at2 q x2 y2) = (m : Int) * at2 p x1 y1 + at2 q x2 y2 := IntWalk.i64_in _ (by omega)
  have hmz : ¬ (m : Int) = 0 := by omega
  have hmz2 : ((m : Int) == 0) = false := by simp; omega
  have t1 : (x : Int).tdiv (m : Int) = (x1 : Int) := by rw [Int.tdiv_eq_ediv_of_nonneg (by omega)]; exact q1
  have t2 : (x : Int).tmod (m : Int) = (x2 : Int) := by rw [Int.tmod_eq_emod_of_nonneg (by omega)]; exact q2
  have t3 : (y : Int).tdiv (m : Int) = (y1 : Int) := by rw [Int.tdiv_eq_ediv_of_nonneg (by omega)]; exact q3
  have t4 : (y : Int).tmod (m : Int) = (y2 : Int) := by rw [Int.tmod_eq_emod_of_nonneg (by omega)]; exact q4
  have w1' : IntKind.i64.wrap (x1 : Int) = (x1 : Int) := IntWalk.i64_in _ (by omega)
  have w2' : IntKind.i64.wrap (x2 : Int) = (x2 : Int) := IntWalk.i64_in _ (by omega)
  have w3' : IntKind.i64.wrap (y1 : Int) = (y1 : Int) := IntWalk.i64_in _ (by omega)
  have w4' : IntKind.i64.wrap (y2 : Int) = (y2 : Int) := IntWalk.i64_in _ (by omega)
  have Ev := Lib.hid ev
  clear hrow hrow2 hRp hRq hp hq ht ev hx1 hx2 hy1 hy2
  show Calls Try.prog 131 #[.int .i64 x, .int .i64 y, .pointer (some ⟨b1, 0, none⟩), .pointer (some ⟨b2, 0, none⟩), .pointer (some ⟨b3, 0, none⟩)] w1 _
  go_enter Try.func131, Try.ntmps131
  go_wp2_with fail
  go_quiet (fail)
  clear hw1 hw2
  go_wp2
  go_ret
  exact ⟨ret_int Ev.out.symm, (Q.refl _).drewN _⟩

end Go.Proofs.Ytkapkieeafhaoaa
