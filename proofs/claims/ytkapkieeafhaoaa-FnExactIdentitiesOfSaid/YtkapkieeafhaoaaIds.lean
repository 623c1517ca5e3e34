/- IdentitiesOf of both. Conditions: none. -/
import Derived.Test.YtkapkieeafhaoaaIdsP
import Derived.Test.YtkapkieeafhaoaaUnit
import Derived.Test.YtkapkieeafhaoaaApp
namespace Go.Proofs.Ytkapkieeafhaoaa
open Go.RowKit

/-- The two cells that one test of the diagonal reads, and those of pairs. -/
theorem row2 {w : World} {a : Option Addr} {n c : Nat} {p : List (List Int)} (h : RdR w a n c p) (hg : Rng p n) {x y : Nat} (hx : x < n) (hy : y < n) :
    ∃ (b o b1 o1 cx b2 o2 cy : Nat), a = some ⟨b, o, none⟩ ∧
      w.cell? ⟨b, o + x, none⟩ = some (.slice (some ⟨b1, o1, none⟩) n cx) ∧ w.cell? ⟨b, o + y, none⟩ = some (.slice (some ⟨b2, o2, none⟩) n cy) ∧
      (∀ z, z < n → w.cell? ⟨b1, o1 + z, none⟩ = some (.int .i64 (at2 p x z))) ∧ (∀ z, z < n → w.cell? ⟨b2, o2 + z, none⟩ = some (.int .i64 (at2 p y z))) := by
  obtain ⟨b, o, ax, cx, rfl, k1, g1⟩ := h.row hg.1 hx
  obtain ⟨b', o', ay, cy, hh, k2, g2⟩ := h.row hg.1 hy
  cases hh
  obtain ⟨b1, o1, rfl, _⟩ := g1.cell2 hx
  obtain ⟨b2, o2, rfl, _⟩ := g2.cell2 hx
  refine ⟨b, o, b1, o1, cx, b2, o2, cy, rfl, k1, k2, fun z hz => ?_, fun z hz => ?_⟩
  · obtain ⟨b', o', hh, q⟩ := g1.cell2 hz
    cases hh
    exact q
  · obtain ⟨b', o', hh, q⟩ := g2.cell2 hz
    cases hh
    exact q

set_option maxRecDepth 100000 in
set_option maxHeartbeats 3200000 in
theorem l08Diag1 (a : Option Addr) (n c : Nat) (p : List (List Int)) (w : World) (hp0 : RdR w a n c p) (hg : Rng p n) :
    Calls Try.prog 122 #[.slice a n c, .int .i64 1] w fun e w' => e = .returned (.bool (pb (AllN n (idm p)))) ∧ Ext w w' := by
  have hb1 := hp0.le
  have hb2 := hp0.max
  have hn := hg.2.1
  have Hg := Lib.hid hg
  clear hg
  go_enter Try.func122, Try.ntmps122
  go_wp2
  go_loopg [5] n (fun gh i wr => ∃ k : Nat, k ≤ n ∧ gh = n - k ∧ i = .int .i64 k ∧ Q w wr ∧ Hid (∀ x, x < k → idm p x = true))
  case atStart => exact ⟨0, Nat.zero_le _, rfl, rfl, Q.refl _, fun x h => absurd h (Nat.not_lt_zero _)⟩
  case round =>
    obtain ⟨k, hk, rfl, rfl, hQ, Hn⟩ := hrel
    by_cases hlt : k < n
    · have hz : (k : Int) < (n : Int) := by omega
      obtain ⟨b, o, b1, o1, cx, _, _, _, rfl, k1, _, q1, _⟩ := row2 (hp0.ext hQ.ext) Hg.out hlt hlt
      have q2 := q1 k hlt
      obtain ⟨t, ht⟩ : ∃ t, (at2 p k k == (k : Int)) = t := ⟨_, rfl⟩
      have ht2 : (at2 p k k != (k : Int)) = !t := by rw [← ht]; rfl
      have Ht : Hid (idm p k = t) := Lib.hid ht
      clear ht q1
      cases t
      · go_wp2_with fail
        go_quiet (fail)
        go_wp2
        go_ret
        exact ⟨ret_npb (fun h => by have := h k hlt; rw [Ht.out] at this; cases this), (hQ.drewN _).ext⟩
      · go_wp2_with fail
        go_quiet (fail)
        go_wp2
        go_roundg (n - (k + 1))
        case measure => go_light; omega
        case rel => go_light; exact ⟨k + 1, by omega, rfl, by go_num, hQ.drewN _, fun i hi => by
          by_cases e : i = k
          · subst e; exact Ht.out
          · exact Hn.out i (by omega)⟩
    · have hz : ¬ (k : Int) < (n : Int) := by omega
      obtain rfl : n = k := by omega
      go_wp2
      go_ret
      exact ⟨ret_pb Hn.out, hQ.ext⟩

set_option maxRecDepth 100000 in
set_option maxHeartbeats 3200000 in
theorem l08Diag2 (a : Option Addr) (n c : Nat) (p : List (List Int)) (w : World) (hp0 : RdR w a n c p) (hg : Rng p n) :
    Calls Try.prog 122 #[.slice a n c, .int .i64 2] w fun e w' => e = .returned (.bool (pb (AllN n (unp p)))) ∧ Ext w w' := by
  have hb1 := hp0.le
  have hb2 := hp0.max
  have hn := hg.2.1
  have Hg := Lib.hid hg
  clear hg
  go_enter Try.func122, Try.ntmps122
  go_wp2
  go_loopg [5] n (fun gh i wr => ∃ k : Nat, k ≤ n ∧ gh = n - k ∧ i = .int .i64 k ∧ Q w wr ∧ Hid (∀ x, x < k → unp p x = true))
  case atStart => exact ⟨0, Nat.zero_le _, rfl, rfl, Q.refl _, fun x h => absurd h (Nat.not_lt_zero _)⟩
  case round =>
    obtain ⟨k, hk, rfl, rfl, hQ, Hn⟩ := hrel
    by_cases hlt : k < n
    · have hz : (k : Int) < (n : Int) := by omega
      have hn0 : 0 < n := by omega
      have hn1 : n ≠ 0 := by omega
      have hn2 : (0 : Int) < (n : Int) := by omega
      obtain ⟨b, o, b1, o1, cx, b2, o2, cy, rfl, k1, k2, q1, q2⟩ := row2 (hp0.ext hQ.ext) Hg.out hlt hn0
      have q3 := q1 k hlt
      have q4 := q2 0 hn0
      rw [Nat.add_zero] at q4 k2
      obtain ⟨t, ht⟩ : ∃ t, (at2 p k k == at2 p 0 0) = t := ⟨_, rfl⟩
      have ht2 : (at2 p k k != at2 p 0 0) = !t := by rw [← ht]; rfl
      have Ht : Hid (unp p k = t) := Lib.hid ht
      clear ht q1 q2
      cases t
      · go_wp2_with fail
        go_quiet (fail)
        go_wp2
        go_ret
        exact ⟨ret_npb (fun h => by have := h k hlt; rw [Ht.out] at this; cases this), (hQ.drewN _).ext⟩
      · go_wp2_with fail
        go_quiet (fail)
        go_wp2
        go_roundg (n - (k + 1))
        case measure => go_light; omega
        case rel => go_light; exact ⟨k + 1, by omega, rfl, by go_num, hQ.drewN _, fun i hi => by
          by_cases e : i = k
          · subst e; exact Ht.out
          · exact Hn.out i (by omega)⟩
    · have hz : ¬ (k : Int) < (n : Int) := by omega
      obtain rfl : n = k := by omega
      go_wp2
      go_ret
      exact ⟨ret_pb Hn.out, hQ.ext⟩

set_option maxRecDepth 100000 in
set_option maxHeartbeats 3200000 in
theorem l08Pairs3 (a : Option Addr) (n c : Nat) (p : List (List Int)) (w : World) (hp0 : RdR w a n c p) (hg : Rng p n) :
    Calls Try.prog 124 #[.slice a n c, .int .i64 3] w fun e w' => e = .returned (.bool (pb (All2 n (cmm p)))) ∧ Ext w w' := by
  have hb1 := hp0.le
  have hb2 := hp0.max
  have hn := hg.2.1
  have Hg := Lib.hid hg
  clear hg
  go_enter Try.func124, Try.ntmps124
  go_wp2
  go_loopg [6] n (fun gh i wr => ∃ k : Nat, k ≤ n ∧ gh = n - k ∧ i = .int .i64 k ∧ Q w wr ∧ Hid (∀ x y, x < k → y < n → cmm p x y = true))
  case atStart => exact ⟨0, Nat.zero_le _, rfl, rfl, Q.refl _, fun x y h => absurd h (Nat.not_lt_zero _)⟩
  case round =>
    obtain ⟨x, hx, rfl, rfl, hQ1, H1⟩ := hrel
    by_cases hxn : x < n
    · have hz1 : (x : Int) < (n : Int) := by omega
      go_wp2
      go_loopg [7] n (fun gh i wr => ∃ k : Nat, k ≤ n ∧ gh = n - k ∧ i = .int .i64 k ∧ Q w wr ∧ Hid (∀ y, y < k → cmm p x y = true))
      case atStart => exact ⟨0, Nat.zero_le _, rfl, rfl, hQ1, fun y h => absurd h (Nat.not_lt_zero _)⟩
      case round =>
        obtain ⟨y, hy, rfl, rfl, hQ, H2⟩ := hrel
        clear hQ1
        by_cases hyn : y < n
        · have hz2 : (y : Int) < (n : Int) := by omega
          obtain ⟨b, o, b1, o1, cx, b2, o2, cy, rfl, k1, k2, q1, q2⟩ := row2 (hp0.ext hQ.ext) Hg.out hxn hyn
          have q3 := q1 y hyn
          have q4 := q2 x hxn
          obtain ⟨t, ht⟩ : ∃ t, (at2 p x y == at2 p y x) = t := ⟨_, rfl⟩
          have ht2 : (at2 p x y != at2 p y x) = !t := by rw [← ht]; rfl
          have Ht : Hid (cmm p x y = t) := Lib.hid ht
          clear ht q1 q2
          cases t
          · go_wp2_with fail
            go_quiet (fail)
            go_wp2
            go_ret
            exact ⟨ret_npb (fun h => by have := h x y hxn hyn; rw [Ht.out] at this; cases this), (hQ.drewN _).ext⟩
          · go_wp2_with fail
            go_quiet (fail)
            go_wp2
            go_roundg (n - (y + 1))
            case measure => go_light; omega
            case rel => go_light; exact ⟨y + 1, by omega, rfl, by go_num, hQ.drewN _, fun i hi => by
              by_cases e : i = y
              · subst e; exact Ht.out
              · exact H2.out i (by omega)⟩
        · have hz2 : ¬ (y : Int) < (n : Int) := by omega
          obtain rfl : n = y := by omega
          go_wp2
          go_roundg (n - (x + 1))
          case measure => go_light; omega
          case rel => go_light; exact ⟨x + 1, by omega, rfl, by go_num, hQ, fun i j hi hj => by
            by_cases e : i = x
            · subst e; exact H2.out j hj
            · exact H1.out i j (by omega) hj⟩
    · have hz1 : ¬ (x : Int) < (n : Int) := by omega
      obtain rfl : n = x := by omega
      go_wp2
      go_ret
      exact ⟨ret_pb H1.out, hQ1.ext⟩

set_option maxRecDepth 100000 in
set_option maxHeartbeats 3200000 in
theorem l08Pairs7 (a : Option Addr) (n c : Nat) (p : List (List Int)) (w : World) (hp0 : RdR w a n c p) (hg : Rng p n) :
    Calls Try.prog 124 #[.slice a n c, .int .i64 7] w fun e w' => e = .returned (.bool (pb (All2 n (sem p)))) ∧ Ext w w' := by
  have hb1 := hp0.le
  have hb2 := hp0.max
  have hn := hg.2.1
  have Hg := Lib.hid hg
  clear hg
  go_enter Try.func124, Try.ntmps124
  go_wp2
  go_loopg [6] n (fun gh i wr => ∃ k : Nat, k ≤ n ∧ gh = n - k ∧ i = .int .i64 k ∧ Q w wr ∧ Hid (∀ x y, x < k → y < n → sem p x y = true))
  case atStart => exact ⟨0, Nat.zero_le _, rfl, rfl, Q.refl _, fun x y h => absurd h (Nat.not_lt_zero _)⟩
  case round =>
    obtain ⟨x, hx, rfl, rfl, hQ1, H1⟩ := hrel
    by_cases hxn : x < n
    · have hz1 : (x : Int) < (n : Int) := by omega
      go_wp2
      go_loopg [7] n (fun gh i wr => ∃ k : Nat, k ≤ n ∧ gh = n - k ∧ i = .int .i64 k ∧ Q w wr ∧ Hid (∀ y, y < k → sem p x y = true))
      case atStart => exact ⟨0, Nat.zero_le _, rfl, rfl, hQ1, fun y h => absurd h (Nat.not_lt_zero _)⟩
      case round =>
        obtain ⟨y, hy, rfl, rfl, hQ, H2⟩ := hrel
        clear hQ1
        by_cases hyn : y < n
        · have hz2 : (y : Int) < (n : Int) := by omega
          obtain ⟨b, o, b1, o1, cx, b2, o2, cy, rfl, k1, k2, q1, q2⟩ := row2 (hp0.ext hQ.ext) Hg.out hxn hyn
          obtain ⟨v, ev, hv⟩ := Hg.out.nat hyn hxn
          have q3 := q1 v hv
          have q4 := q2 x hxn
          rw [ev] at q4
          have i1 : (v : Int) < (n : Int) := by omega
          have i3 : (0 : Int) ≤ (v : Int) := by omega
          obtain ⟨t, ht⟩ : ∃ t, (at2 p x v == (y : Int)) = t := ⟨_, rfl⟩
          have ht2 : (at2 p x v != (y : Int)) = !t := by rw [← ht]; rfl
          have Ht : Hid (sem p x y = t) := Lib.hid (by rw [sem, ev]; exact ht)
          clear ht q1 q2 ev
          cases t
          · go_wp2_with fail
            go_quiet (fail)
            go_wp2
            go_ret
            exact ⟨ret_npb (fun h => by have := h x y hxn hyn; rw [Ht.out] at this; cases this), (hQ.drewN _).ext⟩
          · go_wp2_with fail
            go_quiet (fail)
            go_wp2
            go_roundg (n - (y + 1))
            case measure => go_light; omega
            case rel => go_light; exact ⟨y + 1, by omega, rfl, by go_num, hQ.drewN _, fun i hi => by
              by_cases e : i = y
              · subst e; exact Ht.out
              · exact H2.out i (by omega)⟩
        · have hz2 : ¬ (y : Int) < (n : Int) := by omega
          obtain rfl : n = y := by omega
          go_wp2
          go_roundg (n - (x + 1))
          case measure => go_light; omega
          case rel => go_light; exact ⟨x + 1, by omega, rfl, by go_num, hQ, fun i j hi hj => by
            by_cases e : i = x
            · subst e; exact H2.out j hj
            · exact H1.out i j (by omega) hj⟩
    · have hz1 : ¬ (x : Int) < (n : Int) := by omega
      obtain rfl : n = x := by omega
      go_wp2
      go_ret
      exact ⟨ret_pb H1.out, hQ1.ext⟩

set_option maxHeartbeats 1600000 in
theorem l08SomeL (a : Option Addr) (n c : Nat) (p : List (List Int)) (w : World) (hp : RdR w a n c p) (hg : Rng p n) :
    Calls Try.prog 123 #[.slice a n c, .bool true] w fun e w' => e = .returned (.bool (pb (∃ e, e < n ∧ LUnit p e))) ∧ Ext w w' := by
  have hb1 := hp.le
  have hb2 := hp.max
  have hn := hg.2.1
  have Hr := Lib.hid hg.1
  clear hg
  go_enter Try.func123, Try.ntmps123
  go_wp2
  go_loopg [5] n (fun gh i wr => ∃ k : Nat, k ≤ n ∧ gh = n - k ∧ i = .int .i64 k ∧ w = wr ∧ Hid (∀ x, x < k → ¬ LUnit p x))
  case atStart => exact ⟨0, Nat.zero_le _, rfl, rfl, rfl, fun x h => absurd h (Nat.not_lt_zero _)⟩
  case round =>
    obtain ⟨k, hk, rfl, rfl, rfl, Hn⟩ := hrel
    by_cases hlt : k < n
    · have hz : (k : Int) < (n : Int) := by omega
      go_wp2_with fail
      refine (l08UnitL_any _ _ _ p k _ hp Hr.out hlt (by omega)).mono ?_
      rintro e w3 ⟨rfl, rfl⟩
      rcases pbc (LUnit p k) with ⟨hL, HL⟩ | ⟨hL, HL⟩
      · rw [hL]
        go_wp2
        go_ret
        exact ⟨ret_pb ⟨k, hlt, HL.out⟩, Ext.refl _⟩
      · rw [hL]
        go_wp2
        go_roundg (n - (k + 1))
        case measure => go_light; omega
        case rel => go_light; exact ⟨k + 1, by omega, rfl, by go_num, rfl, fun x hx => by
          by_cases e : x = k
          · subst e; exact HL.out
          · exact Hn.out x (by omega)⟩
    · have hz : ¬ (k : Int) < (n : Int) := by omega
      obtain rfl : n = k := by omega
      go_wp2
      go_ret
      exact ⟨ret_npb (fun ⟨e, he, h⟩ => Hn.out e he h), Ext.refl _⟩

set_option maxHeartbeats 1600000 in
theorem l08SomeR (a : Option Addr) (n c : Nat) (p : List (List Int)) (w : World) (hp : RdR w a n c p) (hg : Rng p n) :
    Calls Try.prog 123 #[.slice a n c, .bool false] w fun e w' => e = .returned (.bool (pb (∃ e, e < n ∧ RUnit p e))) ∧ Ext w w' := by
  have hb1 := hp.le
  have hb2 := hp.max
  have hn := hg.2.1
  have Hr := Lib.hid hg.1
  clear hg
  go_enter Try.func123, Try.ntmps123
  go_wp2
  go_loopg [5] n (fun gh i wr => ∃ k : Nat, k ≤ n ∧ gh = n - k ∧ i = .int .i64 k ∧ w = wr ∧ Hid (∀ x, x < k → ¬ RUnit p x))
  case atStart => exact ⟨0, Nat.zero_le _, rfl, rfl, rfl, fun x h => absurd h (Nat.not_lt_zero _)⟩
  case round =>
    obtain ⟨k, hk, rfl, rfl, rfl, Hn⟩ := hrel
    by_cases hlt : k < n
    · have hz : (k : Int) < (n : Int) := by omega
      go_wp2_with fail
      refine (l08UnitR_any _ _ _ p k _ hp Hr.out hlt (by omega)).mono ?_
      rintro e w3 ⟨rfl, rfl⟩
      rcases pbc (RUnit p k) with ⟨hL, HL⟩ | ⟨hL, HL⟩
      · rw [hL]
        go_wp2
        go_ret
        exact ⟨ret_pb ⟨k, hlt, HL.out⟩, Ext.refl _⟩
      · rw [hL]
        go_wp2
        go_roundg (n - (k + 1))
        case measure => go_light; omega
        case rel => go_light; exact ⟨k + 1, by omega, rfl, by go_num, rfl, fun x hx => by
          by_cases e : x = k
          · subst e; exact HL.out
          · exact Hn.out x (by omega)⟩
    · have hz : ¬ (k : Int) < (n : Int) := by omega
      obtain rfl : n = k := by omega
      go_wp2
      go_ret
      exact ⟨ret_npb (fun ⟨e, he, h⟩ => Hn.out e he h), Ext.refl _⟩

/-- The eight kinds. -/
theorem kind8 {k : Nat} (h1 : 1 ≤ k) (h8 : k ≤ 8) : k = 1 ∨ k = 2 ∨ k = 3 ∨ k = 4 ∨ k = 5 ∨ k = 6 ∨ k = 7 ∨ k = 8 := by omega

set_option maxRecDepth 100000 in
set_option maxHeartbeats 3200000 in
theorem l08Holds_any (a : Option Addr) (n c : Nat) (p : List (List Int)) (k : Nat) (w : World) (hp : RdR w a n c p) (hg : Rng p n) (hk1 : 1 ≤ k) (hk8 : k ≤ 8) :
    Calls Try.prog 96 #[.slice a n c, .int .i64 k] w fun e w' => e = .returned (.bool (pb (KindOk p n k))) ∧ Ext w w' := by
  have Hp := Lib.hid hp
  have Hg := Lib.hid hg
  clear hp hg
  rcases kind8 hk1 hk8 with rfl | rfl | rfl | rfl | rfl | rfl | rfl | rfl
  · clear hk1 hk8
    show Calls Try.prog 96 #[.slice a n c, .int .i64 1] w _
    go_enter Try.func96, Try.ntmps96
    go_wp2_with fail
    refine (l08Diag1 _ _ _ p _ Hp.out Hg.out).mono ?_
    rintro e w2 ⟨rfl, hE⟩
    go_wp2
    go_ret
    exact ⟨rfl, hE⟩
  · clear hk1 hk8
    show Calls Try.prog 96 #[.slice a n c, .int .i64 2] w _
    go_enter Try.func96, Try.ntmps96
    go_wp2_with fail
    refine (l08Diag2 _ _ _ p _ Hp.out Hg.out).mono ?_
    rintro e w2 ⟨rfl, hE⟩
    go_wp2
    go_ret
    exact ⟨rfl, hE⟩
  · clear hk1 hk8
    show Calls Try.prog 96 #[.slice a n c, .int .i64 3] w _
    go_enter Try.func96, Try.ntmps96
    go_wp2_with fail
    refine (l08Pairs3 _ _ _ p _ Hp.out Hg.out).mono ?_
    rintro e w2 ⟨rfl, hE⟩
    go_wp2
    go_ret
    exact ⟨rfl, hE⟩
  · clear hk1 hk8
    show Calls Try.prog 96 #[.slice a n c, .int .i64 4] w _
    go_enter Try.func96, Try.ntmps96
    go_wp2_with fail
    refine (l08SomeL _ _ _ p _ Hp.out Hg.out).mono ?_
    rintro e w2 ⟨rfl, hE⟩
    go_wp2
    go_ret
    exact ⟨rfl, hE⟩
  · clear hk1 hk8
    show Calls Try.prog 96 #[.slice a n c, .int .i64 5] w _
    go_enter Try.func96, Try.ntmps96
    go_wp2_with fail
    refine (l08SomeR _ _ _ p _ Hp.out Hg.out).mono ?_
    rintro e w2 ⟨rfl, hE⟩
    go_wp2
    go_ret
    exact ⟨rfl, hE⟩
  · clear hk1 hk8
    show Calls Try.prog 96 #[.slice a n c, .int .i64 6] w _
    go_enter Try.func96, Try.ntmps96
    go_wp2_with fail
    refine (l08Associative_any _ _ _ p _ Hp.out Hg.out).mono ?_
    rintro e w2 ⟨rfl, hE⟩
    go_wp2
    go_ret
    exact ⟨rfl, hE⟩
  · clear hk1 hk8
    show Calls Try.prog 96 #[.slice a n c, .int .i64 7] w _
    go_enter Try.func96, Try.ntmps96
    go_wp2_with fail
    refine (l08Pairs7 _ _ _ p _ Hp.out Hg.out).mono ?_
    rintro e w2 ⟨rfl, hE⟩
    go_wp2
    go_ret
    exact ⟨rfl, hE⟩
  · clear hk1 hk8
    show Calls Try.prog 96 #[.slice a n c, .int .i64 8] w _
    go_enter Try.func96, Try.ntmps96
    go_wp2_with fail
    refine (l08Pairs3 _ _ _ p _ Hp.out Hg.out).mono ?_
    rintro e w2 ⟨rfl, hE⟩
    rcases pbc (All2 n (cmm p)) with ⟨h3, H3⟩ | ⟨h3, H3⟩
    · rw [h3]
      go_wp2_with fail
      refine (l08Pairs7 _ _ _ p _ (Hp.out.ext hE) Hg.out).mono ?_
      rintro e w3 ⟨rfl, hE2⟩
      rcases pbc (All2 n (sem p)) with ⟨h7, H7⟩ | ⟨h7, H7⟩
      · rw [h7]
        go_wp2
        go_ret
        exact ⟨ret_pb ⟨H3.out, H7.out⟩, hE.trans hE2⟩
      · rw [h7]
        go_wp2
        go_ret
        exact ⟨ret_npb (fun h => H7.out h.2), hE.trans hE2⟩
    · rw [h3]
      go_wp2
      go_ret
      exact ⟨ret_npb (fun h => H3.out h.1), hE⟩

set_option maxRecDepth 100000 in
set_option maxHeartbeats 1600000 in
theorem sat1 (a : Option Addr) (n c : Nat) (p : List (List Int)) (b1 : Nat) (w : World) (hp0 : RdR w a n c p) (hg : Rng p n) (k1 : w.cell? ⟨b1, 0, none⟩ = some (.slice a n c)) :
    AskN 125 #[.pointer (some ⟨b1, 0, none⟩)] n (idm p) w := by
  intro x w1 hx hE
  have hp := RdR.ext hp0 hE
  have hb1 := hp.le
  have hb2 := hp.max
  have hn := hg.2.1
  replace k1 := hE.cell k1
  obtain ⟨b, o, b3, o1, cx, _, _, _, rfl, e1, _, q1, _⟩ := row2 hp hg hx hx
  have q2 := q1 x hx
  obtain ⟨t, ht⟩ : ∃ t, (at2 p x x == (x : Int)) = t := ⟨_, rfl⟩
  rw [show idm p x = t from ht]
  have i3 : (x : Int) < (n : Int) := by omega
  clear q1 hp hp0 hg hE
  show Calls Try.prog 125 #[.int .i64 x, .pointer (some ⟨b1, 0, none⟩)] w1 _
  go_enter Try.func125, Try.ntmps125
  go_wp2
  go_ret
  exact ⟨rfl, Ext.refl _⟩

set_option maxRecDepth 100000 in
set_option maxHeartbeats 1600000 in
theorem sat2 (a : Option Addr) (n c : Nat) (p : List (List Int)) (b1 : Nat) (w : World) (hp0 : RdR w a n c p) (hg : Rng p n) (k1 : w.cell? ⟨b1, 0, none⟩ = some (.slice a n c)) :
    AskN 126 #[.pointer (some ⟨b1, 0, none⟩)] n (unp p) w := by
  intro x w1 hx hE
  have hp := RdR.ext hp0 hE
  have hb1 := hp.le
  have hb2 := hp.max
  have hn := hg.2.1
  replace k1 := hE.cell k1
  have hn0 : 0 < n := by omega
  have hn1 : n ≠ 0 := by omega
  have hn2 : (0 : Int) < (n : Int) := by omega
  obtain ⟨b, o, b3, o1, cx, b4, o2, cy, rfl, e1, e2, q1, q2⟩ := row2 hp hg hx hn0
  have q3 := q1 x hx
  have q4 := q2 0 hn0
  rw [Nat.add_zero] at q4 e2
  obtain ⟨t, ht⟩ : ∃ t, (at2 p x x == at2 p 0 0) = t := ⟨_, rfl⟩
  rw [show unp p x = t from ht]
  have i3 : (x : Int) < (n : Int) := by omega
  clear q1 q2 hp hp0 hg hE
  show Calls Try.prog 126 #[.int .i64 x, .pointer (some ⟨b1, 0, none⟩)] w1 _
  go_enter Try.func126, Try.ntmps126
  go_wp2_with fail
  go_quiet (fail)
  go_wp2
  go_ret
  exact ⟨rfl, (Ext.refl _).drewN _⟩

set_option maxRecDepth 100000 in
set_option maxHeartbeats 1600000 in
theorem sat3 (a : Option Addr) (n c : Nat) (p : List (List Int)) (b1 : Nat) (w : World) (hp0 : RdR w a n c p) (hg : Rng p n) (k1 : w.cell? ⟨b1, 0, none⟩ = some (.slice a n c)) :
    AskP 127 #[.pointer (some ⟨b1, 0, none⟩)] n (cmm p) w := by
  intro x y w1 hx hy hE
  have hp := RdR.ext hp0 hE
  have hb1 := hp.le
  have hb2 := hp.max
  have hn := hg.2.1
  replace k1 := hE.cell k1
  obtain ⟨b, o, b3, o1, cx, b4, o2, cy, rfl, e1, e2, q1, q2⟩ := row2 hp hg hx hy
  have q3 := q1 y hy
  have q4 := q2 x hx
  obtain ⟨t, ht⟩ : ∃ t, (at2 p x y == at2 p y x) = t := ⟨_, rfl⟩
  rw [show cmm p x y = t from ht]
  have i3 : (x : Int) < (n : Int) := by omega
  have i4 : (y : Int) < (n : Int) := by omega
  clear q1 q2 hp hp0 hg hE
  show Calls Try.prog 127 #[.int .i64 x, .int .i64 y, .pointer (some ⟨b1, 0, none⟩)] w1 _
  go_enter Try.func127, Try.ntmps127
  go_wp2_with fail
  go_quiet (fail)
  go_wp2
  go_ret
  exact ⟨rfl, (Ext.refl _).drewN _⟩

set_option maxRecDepth 100000 in
set_option maxHeartbeats 1600000 in
theorem sat4 (a : Option Addr) (n c : Nat) (p : List (List Int)) (b1 : Nat) (w : World) (hp0 : RdR w a n c p) (hg : Rng p n) (k1 : w.cell? ⟨b1, 0, none⟩ = some (.slice a n c)) :
    AskP 130 #[.pointer (some ⟨b1, 0, none⟩)] n (sem p) w := by
  intro x y w1 hx hy hE
  have hp := RdR.ext hp0 hE
  have hb1 := hp.le
  have hb2 := hp.max
  have hn := hg.2.1
  replace k1 := hE.cell k1
  obtain ⟨b, o, b3, o1, cx, b4, o2, cy, rfl, e1, e2, q1, q2⟩ := row2 hp hg hx hy
  obtain ⟨v, ev, hv⟩ := hg.nat hy hx
  have q3 := q1 v hv
  have q4 := q2 x hx
  rw [ev] at q4
  obtain ⟨t, ht⟩ : ∃ t, (at2 p x v == (y : Int)) = t := ⟨_, rfl⟩
  rw [show sem p x y = t by rw [sem, ev]; exact ht]
  have i1 : (v : Int) < (n : Int) := by omega
  have i2 : (0 : Int) ≤ (v : Int) := by omega
  have i3 : (x : Int) < (n : Int) := by omega
  have i4 : (y : Int) < (n : Int) := by omega
  clear q1 q2 hp hp0 hg hE ev
  show Calls Try.prog 130 #[.int .i64 x, .int .i64 y, .pointer (some ⟨b1, 0, none⟩)] w1 _
  go_enter Try.func130, Try.ntmps130
  go_wp2_with fail
  go_quiet (fail)
  go_wp2
  go_ret
  exact ⟨rfl, (Ext.refl _).drewN _⟩

set_option maxRecDepth 100000 in
set_option maxHeartbeats 3200000 in
theorem satisfies17 (a : Option Addr) (n c : Nat) (p : List (List Int)) (k : Nat) (w : World) (hp : RdR w a n c p) (hg : Rng p n) (hk1 : 1 ≤ k) (hk7 : k ≤ 7) :
    Calls Try.prog 97 #[.slice a n c, .int .i64 k] w fun e w' => e = .returned (.bool (pb (KindOk p n k))) ∧ Ext w w' := by
  have hmf : ∀ (fn : Fn) (first cap : Array Value) (w : World), (Instr.makeFunc fn first cap).run Try.prog w = .ok (.func fn first cap) w := fun _ _ _ _ => rfl
  have Hg := Lib.hid hg
  have Hp := Lib.hid (hp.ext ((Ext.refl w).alloc (.cells #[.slice a n c] 22)))
  have Hl := Lib.hid hp.len
  have hn := hg.2.1
  clear hp hg
  have kc : (w.alloc (.cells #[.slice a n c] 22)).cell? ⟨w.heap.size, 0, none⟩ = some (.slice a n c) := (World.cell?_alloc_at _ _ _ _ rfl).trans rfl
  have Hk := Lib.hid kc
  clear kc
  rcases kind8 hk1 (by omega) with rfl | rfl | rfl | rfl | rfl | rfl | rfl | rfl
  · clear hk1 hk7
    show Calls Try.prog 97 #[.slice a n c, .int .i64 1] w _
    go_enter Try.func97, Try.ntmps97
    go_wp2_with fail
    refine (forAll_any _ n _ _ _ (idm p) _ (by omega) (enters_of Try.func125 (by kernel_rfl) (by kernel_rfl)) (sat1 a n c p _ _ Hp.out Hg.out Hk.out)).mono ?_
    rintro e w2 ⟨rfl, hE⟩
    go_wp2
    go_ret
    exact ⟨rfl, Ext.trans ((Ext.refl _).alloc _) hE⟩
  · clear hk1 hk7
    show Calls Try.prog 97 #[.slice a n c, .int .i64 2] w _
    go_enter Try.func97, Try.ntmps97
    go_wp2_with fail
    refine (forAll_any _ n _ _ _ (unp p) _ (by omega) (enters_of Try.func126 (by kernel_rfl) (by kernel_rfl)) (sat2 a n c p _ _ Hp.out Hg.out Hk.out)).mono ?_
    rintro e w2 ⟨rfl, hE⟩
    go_wp2
    go_ret
    exact ⟨rfl, Ext.trans ((Ext.refl _).alloc _) hE⟩
  · clear hk1 hk7
    show Calls Try.prog 97 #[.slice a n c, .int .i64 3] w _
    go_enter Try.func97, Try.ntmps97
    go_wp2_with fail
    refine (forPairs_any _ n _ _ _ (cmm p) _ (by omega) (enters_of Try.func127 (by kernel_rfl) (by kernel_rfl)) (sat3 a n c p _ _ Hp.out Hg.out Hk.out)).mono ?_
    rintro e w2 ⟨rfl, hE⟩
    go_wp2
    go_ret
    exact ⟨rfl, Ext.trans ((Ext.refl _).alloc _) hE⟩
  · clear hk1 hk7
    show Calls Try.prog 97 #[.slice a n c, .int .i64 4] w _
    go_enter Try.func97, Try.ntmps97
    go_wp2_with fail
    refine (leftUnit_any _ _ _ p _ Hp.out Hg.out.1 (by omega)).mono ?_
    rintro e w2 ⟨r, rfl, hF, hE⟩
    rcases hF with ⟨rfl, hno⟩ | ⟨l, rfl, hl, hL⟩
    · have Hno := Lib.hid hno
      clear hno
      go_wp2
      go_ret
      exact ⟨ret_npb (fun ⟨e, he, h⟩ => Hno.out e (by rw [← Hl.out]; exact he) h), Ext.trans ((Ext.refl _).alloc _) hE⟩
    · have HL := Lib.hid hL
      have Hl' := Lib.hid hl
      have hz : (0 : Int) ≤ (l : Int) := by omega
      clear hL hl
      go_wp2
      go_ret
      exact ⟨ret_pb ⟨l, by rw [Hl.out]; exact Hl'.out, HL.out⟩, Ext.trans ((Ext.refl _).alloc _) hE⟩
  · clear hk1 hk7
    show Calls Try.prog 97 #[.slice a n c, .int .i64 5] w _
    go_enter Try.func97, Try.ntmps97
    go_wp2_with fail
    refine (rightUnit_any _ _ _ p _ Hp.out Hg.out.1 (by omega)).mono ?_
    rintro e w2 ⟨r, rfl, hF, hE⟩
    rcases hF with ⟨rfl, hno⟩ | ⟨l, rfl, hl, hL⟩
    · have Hno := Lib.hid hno
      clear hno
      go_wp2
      go_ret
      exact ⟨ret_npb (fun ⟨e, he, h⟩ => Hno.out e (by rw [← Hl.out]; exact he) h), Ext.trans ((Ext.refl _).alloc _) hE⟩
    · have HL := Lib.hid hL
      have Hl' := Lib.hid hl
      have hz : (0 : Int) ≤ (l : Int) := by omega
      clear hL hl
      go_wp2
      go_ret
      exact ⟨ret_pb ⟨l, by rw [Hl.out]; exact Hl'.out, HL.out⟩, Ext.trans ((Ext.refl _).alloc _) hE⟩
  · clear hk1 hk7
    show Calls Try.prog 97 #[.slice a n c, .int .i64 6] w _
    go_enter Try.func97, Try.ntmps97
    go_wp2_with fail
    refine (associative_any _ _ _ p _ Hp.out Hg.out).mono ?_
    rintro e w2 ⟨rfl, hE⟩
    go_wp2
    go_ret
    exact ⟨rfl, Ext.trans ((Ext.refl _).alloc _) hE⟩
  · clear hk1 hk7
    show Calls Try.prog 97 #[.slice a n c, .int .i64 7] w _
    go_enter Try.func97, Try.ntmps97
    go_wp2_with fail
    refine (forPairs_any _ n _ _ _ (sem p) _ (by omega) (enters_of Try.func130 (by kernel_rfl) (by kernel_rfl)) (sat4 a n c p _ _ Hp.out Hg.out Hk.out)).mono ?_
    rintro e w2 ⟨rfl, hE⟩
    go_wp2
    go_ret
    exact ⟨rfl, Ext.trans ((Ext.refl _).alloc _) hE⟩
  · omega

set_option maxRecDepth 100000 in
set_option maxHeartbeats 3200000 in
theorem satisfies_any (a : Option Addr) (n c : Nat) (p : List (List Int)) (k : Nat) (w : World) (hp : RdR w a n c p) (hg : Rng p n) (hk1 : 1 ≤ k) (hk8 : k ≤ 8) :
    Calls Try.prog 97 #[.slice a n c, .int .i64 k] w fun e w' => e = .returned (.bool (pb (KindOk p n k))) ∧ Ext w w' := by
  by_cases h7 : k ≤ 7
  · exact satisfies17 a n c p k w hp hg hk1 h7
  · obtain rfl : k = 8 := by omega
    clear hk1 hk8 h7
    have Hg := Lib.hid hg
    have hE1 : Ext w (w.alloc (.cells #[.slice a n c] 22)) := (Ext.refl w).alloc _
    have Hp := Lib.hid (hp.ext hE1)
    have kc : (w.alloc (.cells #[.slice a n c] 22)).cell? ⟨w.heap.size, 0, none⟩ = some (.slice a n c) := (World.cell?_alloc_at _ _ _ _ rfl).trans rfl
    have Hk := Lib.hid kc
    clear hp hg kc
    show Calls Try.prog 97 #[.slice a n c, .int .i64 8] w _
    go_enter Try.func97, Try.ntmps97
    go_wp2_with fail
    refine (satisfies17 _ _ _ p 3 _ Hp.out Hg.out (by decide) (by decide)).mono ?_
    rintro e w2 ⟨rfl, hE⟩
    have k2 := hE.cell Hk.out
    rcases pbc (All2 n (cmm p)) with ⟨h3, H3⟩ | ⟨h3, H3⟩
    · rw [show pb (KindOk p n 3) = true from h3]
      go_wp2_with fail
      refine (satisfies17 _ _ _ p 7 _ (Hp.out.ext hE) Hg.out (by decide) (by decide)).mono ?_
      rintro e w3 ⟨rfl, hE2⟩
      rcases pbc (All2 n (sem p)) with ⟨h7, H7⟩ | ⟨h7, H7⟩
      · rw [show pb (KindOk p n 7) = true from h7]
        go_wp2
        go_ret
        exact ⟨ret_pb ⟨H3.out, H7.out⟩, hE1.trans (hE.trans hE2)⟩
      · rw [show pb (KindOk p n 7) = false from h7]
        go_wp2
        go_ret
        exact ⟨ret_npb (fun h => H7.out h.2), hE1.trans (hE.trans hE2)⟩
    · rw [show pb (KindOk p n 3) = false from h3]
      go_wp2
      go_ret
      exact ⟨ret_npb (fun h => H3.out h.1), hE1.trans hE⟩

set_option maxRecDepth 100000 in
set_option maxHeartbeats 3200000 in
theorem specIds (a : Option Addr) (n c : Nat) (p : List (List Int)) (w : World) (hp : RdR w a n c p) (_ : p.length + tot p ≤ 1048576) :
    Calls Try.prog 44 #[.slice a n c] w (RetIC w (idsM p) (idsC p)) := by
  have hb1 := hp.le
  have hb2 := hp.max
  have Hl := Lib.hid hp.len
  go_enter Try.func44, Try.ntmps44
  go_wp2_with fail
  refine (l06Ok_any _ _ _ p _ hp).mono ?_
  rintro e w2 ⟨rfl, hE⟩
  rcases pbc (SqOk p) with ⟨hb, Hp⟩ | ⟨hb, Hp⟩
  · rw [hb]
    have Hg := Lib.hid (Hp.out.rng Hl.out)
    have Hbb := Lib.hid hb
    clear hb
    go_wp2
    have H0 := Own.empty 2 (Value.int .i64) w2
    go_loopg [4, 5] 8 (fun gh s i wr => ∃ (k m : Nat) (ad : Option Addr) (d : Nat), k ≤ 8 ∧ gh = 8 - k ∧ i = .int .i64 ((k : Int) + 1) ∧ s = .slice ad m d ∧ m ≤ k ∧ OwnI wr w2.heap.size ad m d (idsTo p n k) ∧ Ext w2 wr)
    case atStart => exact ⟨0, 0, _, _, by omega, rfl, rfl, rfl, by omega, H0, (Ext.refl _).alloc _⟩
    case round =>
      obtain ⟨k, m, ad, d, hk, rfl, rfl, rfl, hm, hO, hEk⟩ := hrel
      clear H0
      by_cases hlt : k < 8
      · have hz : (k : Int) + 1 ≤ 8 := by omega
        have ek : ((k : Int) + 1) = ((k + 1 : Nat) : Int) := by omega
        rw [ek] at hz ⊢
        clear ek
        go_wp2_with fail
        refine (l08Holds_any _ _ _ p (k + 1) _ (hp.ext (hE.trans hEk)) Hg.out (by omega) (by omega)).mono ?_
        rintro e w3 ⟨rfl, hE3⟩
        have hE4 := hEk.trans hE3
        have hO2 := hO.ext hE3
        clear hO
        rcases pbc (KindOk p n (k + 1)) with ⟨h3, H3⟩ | ⟨h3, H3⟩
        · rw [h3]
          have e : idsTo p n (k + 1) = idsTo p n k ++ [(k : Int) + 1] := by rw [idsTo, if_pos h3]
          clear h3
          have hsz := hE4.size
          go_wp2_with (at_builtin; refine app_I rfl _ _ rfl hO2 hsz rfl (by omega) rfl rfl ?_; intro ad' d' w3 hrow2 honly hmv)
          have hE5 := hE4.app hO2 honly (Nat.le_refl _)
          rw [← e] at hrow2
          clear hO2 hE4 hE3 hEk honly hmv hsz e
          go_wp2
          go_roundg (8 - (k + 1))
          case measure => go_light; omega
          case rel => go_light; exact ⟨k + 1, m + 1, ad', d', by omega, rfl, by go_num, rfl, by omega, hrow2, hE5⟩
        · rw [h3]
          have e : idsTo p n (k + 1) = idsTo p n k := by rw [idsTo, h3]; rfl
          rw [← e] at hO2
          clear h3 e
          go_wp2
          go_roundg (8 - (k + 1))
          case measure => go_light; omega
          case rel => go_light; exact ⟨k + 1, m, ad, d, by omega, rfl, by go_num, rfl, by omega, hO2, hE4⟩
      · have hz : ¬ (k : Int) + 1 ≤ 8 := by omega
        obtain rfl : k = 8 := by omega
        go_wp2
        go_ret2
        exact RetIC.mk_ hO hE.size (by rw [idsM, if_pos Hbb.out, ← Hl.out]) (by rw [idsC, if_pos Hbb.out]) (hE.trans hEk)
  · rw [hb]
    go_wp2
    go_ret2
    exact RetIC.nil_ (by rw [idsM, hb]; rfl) (by rw [idsC, hb]; rfl) hE

set_option maxRecDepth 100000 in
set_option maxHeartbeats 3200000 in
theorem implIds (a : Option Addr) (n c : Nat) (p : List (List Int)) (w : World) (hp : RdR w a n c p) (_ : p.length + tot p ≤ 1048576) :
    Calls Try.prog 45 #[.slice a n c] w (RetIC w (idsM p) (idsC p)) := by
  have hb1 := hp.le
  have hb2 := hp.max
  have Hl := Lib.hid hp.len
  go_enter Try.func45, Try.ntmps45
  go_wp2_with fail
  refine (validSquare_any _ _ _ p _ hp).mono ?_
  rintro e w2 ⟨rfl, hE⟩
  rcases pbc (SqOk p) with ⟨hb, Hp⟩ | ⟨hb, Hp⟩
  · rw [hb]
    have Hg := Lib.hid (Hp.out.rng Hl.out)
    have Hbb := Lib.hid hb
    clear hb
    go_wp2
    go_loopg [4, 5] 8 (fun gh s i wr => ∃ (k m : Nat) (ad : Option Addr) (d : Nat), k ≤ 8 ∧ gh = 8 - k ∧ i = .int .i64 ((k : Int) + 1) ∧ s = .slice ad m d ∧ m ≤ k ∧ OwnI wr w2.heap.size ad m d (idsTo p n k) ∧ Ext w2 wr)
    case atStart => exact ⟨0, 0, none, 0, by omega, rfl, rfl, rfl, by omega, Own.nil_ _ _ _ _, Ext.refl _⟩
    case round =>
      obtain ⟨k, m, ad, d, hk, rfl, rfl, rfl, hm, hO, hEk⟩ := hrel
      by_cases hlt : k < 8
      · have hz : (k : Int) + 1 ≤ 8 := by omega
        have ek : ((k : Int) + 1) = ((k + 1 : Nat) : Int) := by omega
        rw [ek] at hz ⊢
        clear ek
        go_wp2_with fail
        refine (satisfies_any _ _ _ p (k + 1) _ (hp.ext (hE.trans hEk)) Hg.out (by omega) (by omega)).mono ?_
        rintro e w3 ⟨rfl, hE3⟩
        have hE4 := hEk.trans hE3
        have hO2 := hO.ext hE3
        clear hO
        rcases pbc (KindOk p n (k + 1)) with ⟨h3, H3⟩ | ⟨h3, H3⟩
        · rw [h3]
          have e : idsTo p n (k + 1) = idsTo p n k ++ [(k : Int) + 1] := by rw [idsTo, if_pos h3]
          clear h3
          have hsz := hE4.size
          go_wp2_with (at_builtin; refine app_I rfl _ _ rfl hO2 hsz rfl (by omega) rfl rfl ?_; intro ad' d' w3 hrow2 honly hmv)
          have hE5 := hE4.app hO2 honly (Nat.le_refl _)
          rw [← e] at hrow2
          clear hO2 hE4 hE3 hEk honly hmv hsz e
          go_wp2
          go_roundg (8 - (k + 1))
          case measure => go_light; omega
          case rel => go_light; exact ⟨k + 1, m + 1, ad', d', by omega, rfl, by go_num, rfl, by omega, hrow2, hE5⟩
        · rw [h3]
          have e : idsTo p n (k + 1) = idsTo p n k := by rw [idsTo, h3]; rfl
          rw [← e] at hO2
          clear h3 e
          go_wp2
          go_roundg (8 - (k + 1))
          case measure => go_light; omega
          case rel => go_light; exact ⟨k + 1, m, ad, d, by omega, rfl, by go_num, rfl, by omega, hO2, hE4⟩
      · have hz : ¬ (k : Int) + 1 ≤ 8 := by omega
        obtain rfl : k = 8 := by omega
        go_wp2
        go_ret2
        exact RetIC.mk_ hO hE.size (by rw [idsM, if_pos Hbb.out, ← Hl.out]) (by rw [idsC, if_pos Hbb.out]) (hE.trans hEk)
  · rw [hb]
    go_wp2
    go_ret2
    exact RetIC.nil_ (by rw [idsM, hb]; rfl) (by rw [idsC, hb]; rfl) hE
end Go.Proofs.Ytkapkieeafhaoaa
