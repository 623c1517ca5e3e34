/- QuadranglesHold of both. Conditions: none. -/
import Derived.Test.YtkapkieeafhaoaaQuaP
import Derived.Test.YtkapkieeafhaoaaIso
import Derived.Test.YtkapkieeafhaoaaSqS
import Derived.Test.YtkapkieeafhaoaaSqI
import Derived.Test.YtkapkieeafhaoaaSl
import Derived.Test.YtkapkieeafhaoaaApp
namespace Go.Proofs.Ytkapkieeafhaoaa
open Go.RowKit

/-- A row of rows and its cells. -/
theorem row1 {w : World} {a : Option Addr} {n c : Nat} {p : List (List Int)} (h : RdR w a n c p) (hr : Rect p n n) {x : Nat} (hx : x < n) :
    ∃ (b o b1 o1 cx : Nat), a = some ⟨b, o, none⟩ ∧ w.cell? ⟨b, o + x, none⟩ = some (.slice (some ⟨b1, o1, none⟩) n cx) ∧ ∀ z, z < n → w.cell? ⟨b1, o1 + z, none⟩ = some (.int .i64 (at2 p x z)) := by
  obtain ⟨b, o, ax, cx, rfl, k1, g1⟩ := h.row hr hx
  obtain ⟨b1, o1, rfl, _⟩ := g1.cell2 hx
  refine ⟨b, o, b1, o1, cx, rfl, k1, fun z hz => ?_⟩
  obtain ⟨b', o', hh, q⟩ := g1.cell2 hz
  cases hh
  exact q

/-- A cell of owned rows, with its block named as one of theirs. -/
theorem OwnR.cellAtF {w : World} {B : Nat} {a : Option Addr} {n m c : Nat} {p : List (List Int)} {rs : List Row} (h : OwnR w B a n c p rs) (hr : Rect p n m) {x y : Nat} (hx : x < n) (hy : y < m) :
    ∃ g g2 d, a = some ⟨g, 0, none⟩ ∧ w.cell? ⟨g, x, none⟩ = some (.slice (some ⟨g2, 0, none⟩) m d) ∧ B ≤ g2 ∧ w.cell? ⟨g2, y, none⟩ = some (.int .i64 (at2 p x y)) ∧ w.frozen? ⟨g2, y, none⟩ = false ∧
      OwnR.fp a rs g2 ∧ ∀ v, OwnR (w.setCell ⟨g2, y, none⟩ (.int .i64 v)) B a n c (set2 p x y v) rs := by
  obtain ⟨g, r, xs, h1, h2, h3, h4, h5, h6, h7⟩ := h.at_ hx
  have hxs := gr_of h7.out
  have hlen := h5.len
  rw [← hxs, hr.2 x hx] at hlen
  obtain ⟨r1, r2, r3⟩ := r
  dsimp only at h3 h5 hlen
  subst hlen
  obtain ⟨g2, z, k1, k2, k3, k4, k5⟩ := h5.at_ hy
  refine ⟨g, g2, r3, h1, by rw [h3, k1], k2, ?_, k4, .inr ⟨_, List.mem_of_getElem? h6.out, by rw [k1]; rfl⟩, fun v => ?_⟩
  · rw [k3, at2, hxs, gi_of k5.out]
  · have := h.setIn (j := y) h6.out h7.out k1 v
    rw [set2, hxs]; exact this

set_option maxRecDepth 100000 in
set_option maxHeartbeats 1600000 in
theorem l08Back_any (a : Option Addr) (n c : Nat) (p : List (List Int)) (w : World) (hp : RdR w a n c p) (hr : Rect p n n) (hn : n ≤ 10) (hb : ∀ x, x < n → IsPerm (gr p x)) :
    Calls Try.prog 52 #[.slice a n c] w (RetR w (bkM p n)) := by
  have hb1 := hp.le
  have hb2 := hp.max
  have Hr := Lib.hid hr
  have Hb := Lib.hid hb
  clear hr hb
  go_enter Try.func52, Try.ntmps52
  go_wp2
  have H0 := OwnR.empty w
  go_loopg [3, 4] n (fun gh s i wr => ∃ (k : Nat) (ad : Option Addr) (d : Nat) (rs : List Row), k ≤ n ∧ gh = n - k ∧ i = .int .i64 k ∧ s = .slice ad k d ∧ OwnR wr w.heap.size ad k d (bkM p k) rs ∧ Ext w wr)
  case atStart => exact ⟨0, _, 0, [], Nat.zero_le _, rfl, rfl, rfl, H0, (Ext.refl _).alloc _⟩
  case round =>
    obtain ⟨k, ad, d, rs, hk, rfl, rfl, rfl, hO, hEk⟩ := hrel
    clear H0
    by_cases hlt : k < n
    · have hz : (k : Int) < (n : Int) := by omega
      obtain ⟨b, o, ax, cx, rfl, k1, g1⟩ := hp.row Hr.out hlt
      have dk1 := hEk.cell k1
      have hlen : (gr p k).length = n := Hr.out.2 k hlt
      have Hlen := Lib.hid hlen
      clear hlen
      go_wp2_with fail
      refine (l04Back_any _ n _ (gr p k) _ (g1.ext hEk) (by omega) (by have := (Hb.out k hlt).below; rw [Hlen.out] at this; exact this)).mono ?_
      rintro e w5 ⟨a5, n5, c5, rfl, hown, hE7⟩
      have hO2 := hO.ext hE7
      have hE8 := hEk.trans hE7
      have hap : ∀ g, blk a5 = some g → ¬ OwnR.fp ad rs g := fun g hg hf => by have := (hO.lt hf).2; have := (hown.lt hg).1; omega
      have hown2 := hown.base hEk.size
      have hsz := hE8.size
      clear hO hEk hE7 hown dk1
      go_wp2_with (at_builtin; refine app_S rfl _ _ rfl hO2 hsz hown2 hap rfl (by omega) rfl rfl ?_; intro a2 c2 w6 hrows honly hmv)
      have hE9 := hE8.app hO2.top honly (Nat.le_refl _)
      rw [← bkM_succ] at hrows
      clear hO2 hE8 honly hmv hsz hown2 hap
      go_wp2
      go_roundg (n - (k + 1))
      case measure => go_light; omega
      case rel => go_light; exact ⟨k + 1, a2, c2, _, by omega, rfl, by go_num, rfl, hrows, hE9⟩
    · have hz : ¬ (k : Int) < (n : Int) := by omega
      obtain rfl : n = k := by omega
      go_wp2
      go_ret
      exact ⟨_, _, _, _, rfl, hO, hEk⟩

set_option maxRecDepth 100000 in
set_option maxHeartbeats 6400000 in
theorem l08Quadrangle_any (a : Option Addr) (n c : Nat) (p : List (List Int)) (ab : Option Addr) (cb : Nat) (B : List (List Int)) (g : Nat) (r s u v : Nat) (w : World) (hp : RdR w a n c p) (hq : RdR w ab n cb B)
    (hrw : RdI w (some ⟨g, 0, none⟩) 4 4 [(r : Int), (s : Int), (u : Int), (v : Int)]) (hB : RowTab p B n) (hS : SqOk p) (hnl : n = p.length) (hr : r < n) (hs : s < n) (hu : u < n) (hv : v < n) :
    Calls Try.prog 53 #[.slice a n c, .slice ab n cb, .slice (some ⟨g, 0, none⟩) 4 4] w fun e w' => e = .returned (.bool (pb (Q4 p B n r s u v))) ∧ Ext w w' := by
  have hb1 := hp.le
  have hb2 := hp.max
  have hb3 := hq.le
  have hb4 := hq.max
  have hn : n ≤ 10 := hB.1.2.1
  have q0 : w.cell? ⟨g, 0, none⟩ = some (.int .i64 r) := by obtain ⟨_, _, _, h5, h6, h7⟩ := hrw.get 0 _ rfl; cases h5; cases h7; simpa using h6
  have q1 : w.cell? ⟨g, 1, none⟩ = some (.int .i64 s) := by obtain ⟨_, _, _, h5, h6, h7⟩ := hrw.get 1 _ rfl; cases h5; cases h7; simpa using h6
  have q2 : w.cell? ⟨g, 2, none⟩ = some (.int .i64 u) := by obtain ⟨_, _, _, h5, h6, h7⟩ := hrw.get 2 _ rfl; cases h5; cases h7; simpa using h6
  have q3 : w.cell? ⟨g, 3, none⟩ = some (.int .i64 v) := by obtain ⟨_, _, _, h5, h6, h7⟩ := hrw.get 3 _ rfl; cases h5; cases h7; simpa using h6
  have hR := hS.rng hnl
  obtain ⟨b, o, b1, o1, c1, rfl, k1, t1⟩ := row1 hp hR.1 hr
  obtain ⟨b', o', b2, o2, c2, hh, k2, t2⟩ := row1 hp hR.1 hs
  cases hh
  obtain ⟨b', o', b3, o3, c3, hh, k3, t3⟩ := row1 hp hR.1 hv
  cases hh
  obtain ⟨b5, o5, b4, o4, c4, rfl, k4, t4⟩ := row1 hq hB.1.1 hu
  have HB := Lib.hid hB
  have HS := Lib.hid hS
  have Hn := Lib.hid hnl
  have T1 := Lib.hid t1
  have T2 := Lib.hid t2
  have T3 := Lib.hid t3
  have T4 := Lib.hid t4
  have i1 : (r : Int) < (n : Int) := by omega
  have i2 : (s : Int) < (n : Int) := by omega
  have i3 : (u : Int) < (n : Int) := by omega
  have i4 : (v : Int) < (n : Int) := by omega
  clear hp hq hrw hB hS hnl hR t1 t2 t3 t4
  go_enter Try.func53, Try.ntmps53
  go_wp2
  go_loopg [8] n (fun gh i wr => ∃ k : Nat, k ≤ n ∧ gh = n - k ∧ i = .int .i64 k ∧ Q w wr ∧ Hid (∀ c d, c < k → d < n → at2 p s c = at2 p v (qE p B r u c) → at2 p s d = at2 p v (qE p B r u d)))
  case atStart => exact ⟨0, Nat.zero_le _, rfl, rfl, Q.refl _, fun x y h => absurd h (Nat.not_lt_zero _)⟩
  case round =>
    obtain ⟨x, hx, rfl, rfl, hQ1, H1⟩ := hrel
    by_cases hxn : x < n
    · have hz1 : (x : Int) < (n : Int) := by omega
      go_wp2
      go_loopg [9] n (fun gh i wr => ∃ k : Nat, k ≤ n ∧ gh = n - k ∧ i = .int .i64 k ∧ Q w wr ∧ Hid (∀ d, d < k → at2 p s x = at2 p v (qE p B r u x) → at2 p s d = at2 p v (qE p B r u d)))
      case atStart => exact ⟨0, Nat.zero_le _, rfl, rfl, hQ1, fun y h => absurd h (Nat.not_lt_zero _)⟩
      case round =>
        obtain ⟨y, hy, rfl, rfl, hQ, H2⟩ := hrel
        clear hQ1
        by_cases hyn : y < n
        · have hz2 : (y : Int) < (n : Int) := by omega
          obtain ⟨vx, ex, vxn, bx, fx, _⟩ := qE_at HB.out HS.out Hn.out hr hu hxn
          obtain ⟨vy, ey, vyn, by_, fy, _⟩ := qE_at HB.out HS.out Hn.out hr hu hyn
          obtain ⟨E, hE⟩ : ∃ E, qE p B r u x = E := ⟨_, rfl⟩
          obtain ⟨F, hF⟩ : ∃ F, qE p B r u y = F := ⟨_, rfl⟩
          rw [hE] at bx fx
          rw [hF] at by_ fy
          have d1 := hQ.ext.cell k1
          have d2 := hQ.ext.cell k2
          have d3 := hQ.ext.cell k3
          have d4 := hQ.ext.cell k4
          have d5 := hQ.ext.cell q0
          have d6 := hQ.ext.cell q1
          have d7 := hQ.ext.cell q2
          have d8 := hQ.ext.cell q3
          have e1 := hQ.ext.cell (T1.out x hxn)
          have e2 := hQ.ext.cell (T1.out y hyn)
          have e3 := hQ.ext.cell (T4.out vx vxn)
          have e4 := hQ.ext.cell (T4.out vy vyn)
          have e5 := hQ.ext.cell (T2.out x hxn)
          have e6 := hQ.ext.cell (T2.out y hyn)
          have e7 := hQ.ext.cell (T3.out E fx)
          have e8 := hQ.ext.cell (T3.out F fy)
          rw [ex] at e1
          rw [ey] at e2
          rw [bx] at e3
          rw [by_] at e4
          have j1 : (vx : Int) < (n : Int) := by omega
          have j2 : (vy : Int) < (n : Int) := by omega
          have j3 : (E : Int) < (n : Int) := by omega
          have j4 : (F : Int) < (n : Int) := by omega
          obtain ⟨t, ht⟩ : ∃ t, (at2 p s x == at2 p v E) = t := ⟨_, rfl⟩
          obtain ⟨z, hz⟩ : ∃ z, (at2 p s y == at2 p v F) = z := ⟨_, rfl⟩
          have hz' : (at2 p s y != at2 p v F) = !z := by rw [← hz]; rfl
          have Ht : Hid ((at2 p s x == at2 p v (qE p B r u x)) = t) := Lib.hid (by rw [hE]; exact ht)
          have Hz : Hid ((at2 p s y == at2 p v (qE p B r u y)) = z) := Lib.hid (by rw [hF]; exact hz)
          clear hE hF ex ey bx by_ hz
          cases t
          · go_wp2_with fail
            go_quiet (fail)
            go_wp2_with fail
            go_quiet (fail)
            go_wp2_with fail
            go_quiet (fail)
            go_wp2
            go_roundg (n - (y + 1))
            case measure => go_light; omega
            case rel => go_light; exact ⟨y + 1, by omega, rfl, by go_num, hQ.drewN _, fun i hi => by
              by_cases e : i = y
              · subst e; intro h; have := Ht.out; simp [h] at this
              · exact H2.out i (by omega)⟩
          · cases z
            · go_wp2_with fail
              go_quiet (fail)
              go_wp2_with fail
              go_quiet (fail)
              go_wp2_with fail
              go_quiet (fail)
              go_wp2
              go_ret
              exact ⟨ret_npb (fun h => by have h1 := h x y hxn hyn (by simpa using Ht.out); have := Hz.out; simp [h1] at this), (((hQ.drewN _).drewN _).drewN _).ext⟩
            · go_wp2_with fail
              go_quiet (fail)
              go_wp2_with fail
              go_quiet (fail)
              go_wp2_with fail
              go_quiet (fail)
              go_wp2
              go_roundg (n - (y + 1))
              case measure => go_light; omega
              case rel => go_light; exact ⟨y + 1, by omega, rfl, by go_num, hQ.drewN _, fun i hi => by
                by_cases e : i = y
                · subst e; intro _; simpa using Hz.out
                · exact H2.out i (by omega)⟩
        · have hz2 : ¬ (y : Int) < (n : Int) := by omega
          obtain rfl : n = y := by omega
          go_wp2
          go_roundg (n - (x + 1))
          case measure => go_light; omega
          case rel => go_light; exact ⟨x + 1, by omega, rfl, by go_num, hQ, fun i j hi hj => by
            by_cases e : i = x
            · subst e; exact H2.out j hj
            · exact H1.out i j (by omega) hj⟩
    · have hz1 : ¬ (x : Int) < (n : Int) := by omega
      obtain rfl : n = x := by omega
      go_wp2
      go_ret
      exact ⟨ret_pb H1.out, hQ1.ext⟩

set_option maxRecDepth 100000 in
set_option maxHeartbeats 3200000 in
theorem specQua (a : Option Addr) (n c : Nat) (p : List (List Int)) (w : World) (hp : RdR w a n c p) (_ : p.length + tot p ≤ 1048576) :
    Calls Try.prog 15 #[.slice a n c] w fun e w' => e = .returned (.bool (quaB p)) ∧ Ext w w' := by
  have hb1 := hp.le
  have hb2 := hp.max
  have Hl := Lib.hid hp.len
  go_enter Try.func15, Try.ntmps15
  go_wp2_with fail
  refine (l06Ok_any _ _ _ p _ hp).mono ?_
  rintro e w2 ⟨rfl, hE⟩
  rcases pbc (SqOk p) with ⟨hb, Hp⟩ | ⟨hb, Hp⟩
  · rw [hb]
    have hrng := Hp.out.rng Hl.out
    have hn : n ≤ 10 := hrng.2.1
    have Hr := Lib.hid hrng.1
    have HB := Lib.hid (bkM_tab Hp.out Hl.out)
    clear hrng hb
    go_wp2_with fail
    refine (l08Back_any _ n _ p _ (hp.ext hE) Hr.out hn (fun x hx => Hp.out.2.2.2.1 x (by rw [← Hl.out]; exact hx))).mono ?_
    rintro e w5 ⟨ab, nb, cb, rb, rfl, hOB, hE5⟩
    obtain rfl : n = nb := by have := hOB.len; rwa [show (bkM p n).length = n by simp [bkM], eq_comm] at this
    have hB := hOB.rd
    have hE6 := hE.trans hE5
    clear hOB hE5 hE
    go_wp2
    go_loopg [5] n (fun gh i wr => ∃ k : Nat, k ≤ n ∧ gh = n - k ∧ i = .int .i64 k ∧ Ext w5 wr ∧ Hid (∀ r s u v, r < k → s < n → u < n → v < n → Q4 p (bkM p n) n r s u v))
    case atStart => exact ⟨0, Nat.zero_le _, rfl, rfl, Ext.refl _, fun r s u v h => absurd h (Nat.not_lt_zero _)⟩
    case round =>
      obtain ⟨r, hr, rfl, rfl, hE1, H1⟩ := hrel
      by_cases hrn : r < n
      · have hz1 : (r : Int) < (n : Int) := by omega
        go_wp2
        go_loopg [6] n (fun gh i wr => ∃ k : Nat, k ≤ n ∧ gh = n - k ∧ i = .int .i64 k ∧ Ext w5 wr ∧ Hid (∀ s u v, s < k → u < n → v < n → Q4 p (bkM p n) n r s u v))
        case atStart => exact ⟨0, Nat.zero_le _, rfl, rfl, hE1, fun s u v h => absurd h (Nat.not_lt_zero _)⟩
        case round =>
          obtain ⟨s, hs, rfl, rfl, hE2, H2⟩ := hrel
          clear hE1
          by_cases hsn : s < n
          · have hz2 : (s : Int) < (n : Int) := by omega
            go_wp2
            go_loopg [7] n (fun gh i wr => ∃ k : Nat, k ≤ n ∧ gh = n - k ∧ i = .int .i64 k ∧ Ext w5 wr ∧ Hid (∀ u v, u < k → v < n → Q4 p (bkM p n) n r s u v))
            case atStart => exact ⟨0, Nat.zero_le _, rfl, rfl, hE2, fun u v h => absurd h (Nat.not_lt_zero _)⟩
            case round =>
              obtain ⟨u, hu, rfl, rfl, hE3, H3⟩ := hrel
              clear hE2
              by_cases hun : u < n
              · have hz3 : (u : Int) < (n : Int) := by omega
                go_wp2
                go_loopg [8] n (fun gh i wr => ∃ k : Nat, k ≤ n ∧ gh = n - k ∧ i = .int .i64 k ∧ Ext w5 wr ∧ Hid (∀ v, v < k → Q4 p (bkM p n) n r s u v))
                case atStart => exact ⟨0, Nat.zero_le _, rfl, rfl, hE3, fun v h => absurd h (Nat.not_lt_zero _)⟩
                case round =>
                  obtain ⟨v, hv, rfl, rfl, hE4, H4⟩ := hrel
                  clear hE3
                  by_cases hvn : v < n
                  · have hz4 : (v : Int) < (n : Int) := by omega
                    have hEa := hE4.alloc (.cells #[.int .i64 r, .int .i64 s, .int .i64 u, .int .i64 v] 3)
                    have hqa : Own 3 (Value.int .i64) (wr.alloc (.cells #[.int .i64 r, .int .i64 s, .int .i64 u, .int .i64 v] 3)) wr.heap.size (some ⟨wr.heap.size, 0, none⟩) 4 4 [(r : Int), (s : Int), (u : Int), (v : Int)] := Own.lit (n := 4) wr #[.int .i64 r, .int .i64 s, .int .i64 u, .int .i64 v] rfl (by unfold maxLen; omega) rfl
                    go_wp2_with fail
                    refine (l08Quadrangle_any _ n _ p _ _ (bkM p n) _ r s u v _ (hp.ext (hE6.trans hEa)) (hB.ext hEa) hqa.rdI HB.out Hp.out Hl.out hrn hsn hun hvn).mono ?_
                    rintro e wq ⟨rfl, hQ⟩
                    have hE7 := hEa.trans hQ
                    clear hEa hqa hE4 hQ
                    rcases pbc (Q4 p (bkM p n) n r s u v) with ⟨h4, Hq⟩ | ⟨h4, Hq⟩
                    · rw [h4]
                      go_wp2
                      go_roundg (n - (v + 1))
                      case measure => go_light; omega
                      case rel => go_light; exact ⟨v + 1, by omega, rfl, by go_num, hE7, fun i hi => by
                        by_cases e : i = v
                        · subst e; exact Hq.out
                        · exact H4.out i (by omega)⟩
                    · rw [h4]
                      go_wp2
                      go_ret
                      exact ⟨ret_npb (fun h => Hq.out ((qs_iff HB.out Hp.out Hl.out).2 (by have := h.2; rw [← Hl.out] at this; exact this) r s u v hrn hsn hun hvn)), hE6.trans hE7⟩
                  · have hz4 : ¬ (v : Int) < (n : Int) := by omega
                    obtain rfl : n = v := by omega
                    go_wp2
                    go_roundg (n - (u + 1))
                    case measure => go_light; omega
                    case rel => go_light; exact ⟨u + 1, by omega, rfl, by go_num, hE4, fun i j hi hj => by
                      by_cases e : i = u
                      · subst e; exact H4.out j hj
                      · exact H3.out i j (by omega) hj⟩
              · have hz3 : ¬ (u : Int) < (n : Int) := by omega
                obtain rfl : n = u := by omega
                go_wp2
                go_roundg (n - (s + 1))
                case measure => go_light; omega
                case rel => go_light; exact ⟨s + 1, by omega, rfl, by go_num, hE3, fun i j k hi hj hk => by
                  by_cases e : i = s
                  · subst e; exact H3.out j k hj hk
                  · exact H2.out i j k (by omega) hj hk⟩
          · have hz2 : ¬ (s : Int) < (n : Int) := by omega
            obtain rfl : n = s := by omega
            go_wp2
            go_roundg (n - (r + 1))
            case measure => go_light; omega
            case rel => go_light; exact ⟨r + 1, by omega, rfl, by go_num, hE2, fun i j k l hi hj hk hl => by
              by_cases e : i = r
              · subst e; exact H2.out j k l hj hk hl
              · exact H1.out i j k l (by omega) hj hk hl⟩
      · have hz1 : ¬ (r : Int) < (n : Int) := by omega
        obtain rfl : n = r := by omega
        go_wp2
        go_ret
        exact ⟨ret_pb ⟨Hp.out, by have := (qs_iff HB.out Hp.out Hl.out).1 (fun r s u v hr hs hu hv => H1.out r s u v hr hs hu hv); rw [← Hl.out]; exact this⟩, hE6.trans hE1⟩
  · rw [hb]
    go_wp2
    go_ret
    exact ⟨ret_npb (fun h => Hp.out h.1), hE⟩
end Go.Proofs.Ytkapkieeafhaoaa
