/- Conjugate of both. Conditions: none. -/
import Derived.Test.YtkapkieeafhaoaaUnr
import Derived.Test.YtkapkieeafhaoaaIso
import Derived.Test.YtkapkieeafhaoaaUnitP
import Derived.Test.YtkapkieeafhaoaaSqS
import Derived.Test.YtkapkieeafhaoaaSqI
import Derived.Test.YtkapkieeafhaoaaSl
namespace Go.Proofs.Ytkapkieeafhaoaa
open Go.RowKit

/-- Row, column, symbol. -/
def t3 (p : List (List Int)) (x y u : Nat) : Int := gi [(x : Int), (y : Int), at2 p x y] u
def cjIn (p : List (List Int)) (a b c : Nat) (M : List (List Int)) (x : Nat) : Nat → List (List Int)
  | 0 => M
  | y + 1 => set2 (cjIn p a b c M x y) (t3 p x y a).toNat (t3 p x y b).toNat (t3 p x y c)
def cjTo (p : List (List Int)) (a b c n : Nat) : Nat → List (List Int)
  | 0 => mat n n fun _ _ => 0
  | k + 1 => cjIn p a b c (cjTo p a b c n k) k n
theorem t3_lt {p : List (List Int)} {n x y u : Nat} (hp : Rng p n) (hx : x < n) (hy : y < n) (hu : u < 3) : ∃ v : Nat, t3 p x y u = v ∧ v < n := by
  obtain ⟨s, hs⟩ : ∃ s : Nat, at2 p x y = s ∧ s < n := ⟨(at2 p x y).toNat, by have := hp.2.2 x y hx hy; omega, by have := hp.2.2 x y hx hy; omega⟩
  rcases (show u = 0 ∨ u = 1 ∨ u = 2 by omega) with rfl | rfl | rfl
  · exact ⟨x, rfl, hx⟩
  · exact ⟨y, rfl, hy⟩
  · exact ⟨s, hs.1, hs.2⟩
theorem cjIn_rect {p M : List (List Int)} {n a b c x : Nat} (hp : Rng p n) (hM : Rect M n n) (hx : x < n) (ha : a < 3) (y : Nat) (hy : y ≤ n) : Rect (cjIn p a b c M x y) n n := by
  induction y with
  | zero => exact hM
  | succ y ih =>
    obtain ⟨v, hv, hl⟩ := t3_lt hp hx (show y < n by omega) ha
    exact rect_set2 (ih (by omega)) _ _ _ (by rw [hv]; exact hl)
theorem cjTo_rect {p : List (List Int)} {n a b c : Nat} (hp : Rng p n) (ha : a < 3) (k : Nat) (hk : k ≤ n) : Rect (cjTo p a b c n k) n n := by
  induction k with
  | zero => exact mat_rect _ _ _
  | succ k ih => exact cjIn_rect hp (ih (by omega)) (by omega) ha _ (Nat.le_refl _)

def cj (p : List (List Int)) (u : List Int) (n : Nat) : List (List Int) := cjTo p (gi u 0).toNat (gi u 1).toNat (gi u 2).toNat n n
noncomputable def cnjM (p : List (List Int)) (kind : Int) : List (List Int) := if pb (SqOk p) then (if pb (0 ≤ kind ∧ kind ≤ 5) then cj p (unr3 kind.toNat) p.length else []) else []
noncomputable def cnjC (p : List (List Int)) (kind : Int) : Int := if pb (SqOk p) then unrC kind else 1
theorem cnjM_tot (p : List (List Int)) (kind : Int) : tot (cnjM p kind) ≤ 1048576 := by
  rw [cnjM]
  split
  · rename_i h
    have h0 := pb_iff.1 h
    split
    · rename_i h1
      have h2 := pb_iff.1 h1
      obtain ⟨x, y, z, e, hx, _⟩ := unr3_perm (r := kind.toNat) (by omega)
      have : Rect (cj p (unr3 kind.toNat) p.length) p.length p.length := cjTo_rect (h0.rng rfl) (by rw [e]; show (gi [(x : Int), (y : Int), (z : Int)] 0).toNat < 3; exact hx) _ (Nat.le_refl _)
      rw [tot_rect this]
      have := Nat.mul_le_mul h0.2.1 h0.2.1; omega
    · simp [tot]
  · simp [tot]

set_option maxRecDepth 100000 in
set_option maxHeartbeats 3200000 in
theorem l06Conjugate_any (a : Option Addr) (n c : Nat) (p : List (List Int)) (rk : Nat) (w : World) (hp : RdR w a n c p) (hg : Rng p n) (hrk : rk < 6) :
    Calls Try.prog 86 #[.slice a n c, .int .i64 rk] w (RetR w (cj p (unr3 rk) n)) := by
  have hb1 := hp.le
  have hb2 := hp.max
  have hn := hg.2.1
  have Hg := Lib.hid hg
  clear hg
  obtain ⟨u0, u1, u2, hu, h0, h1, h2⟩ := unr3_perm hrk
  have HU := Lib.hid hu
  clear hu
  go_enter Try.func86, Try.ntmps86
  go_wp2_with fail
  refine (l04Unrank3 rk _ hrk).mono ?_
  rintro e w1 ⟨a6, n6, c6, rfl, hU, hE1⟩
  rw [HU.out] at hU
  obtain rfl : 3 = n6 := hU.len.symm
  go_wp2_with fail
  refine (l06Zero_any n n _ (by omega) (by omega)).mono ?_
  rintro e w2 ⟨a7, n7, c7, rs, rfl, hO0, hE2⟩
  obtain rfl : n = n7 := by have := hO0.len; rwa [mat_length, eq_comm] at this
  have hU2 := hU.rdI
  obtain ⟨g, o, rfl, q0⟩ := hU2.gi (k := 0) (by omega)
  obtain ⟨g', o', hh, q1⟩ := hU2.gi (k := 1) (by omega)
  cases hh
  obtain ⟨g', o', hh, q2⟩ := hU2.gi (k := 2) (by omega)
  cases hh
  rw [Nat.add_zero] at q0
  rw [show gi [(u0 : Int), (u1 : Int), (u2 : Int)] 0 = (u0 : Int) from rfl] at q0
  rw [show gi [(u0 : Int), (u1 : Int), (u2 : Int)] 1 = (u1 : Int) from rfl] at q1
  rw [show gi [(u0 : Int), (u1 : Int), (u2 : Int)] 2 = (u2 : Int) from rfl] at q2
  have hcj : Hid (cj p (unr3 rk) n = cjTo p u0 u1 u2 n n) := Lib.hid (by rw [HU.out]; rfl)
  have hbU := hU2.le
  clear hU hU2
  go_wp2
  go_loopg [8] n (fun gh i wr => ∃ k : Nat, k ≤ n ∧ gh = n - k ∧ i = .int .i64 k ∧ OwnR wr w1.heap.size a7 n c7 (cjTo p u0 u1 u2 n k) rs ∧ Ext w1 wr)
  case atStart => exact ⟨0, Nat.zero_le _, rfl, rfl, hO0, hE2⟩
  case round =>
    clear hO0 hE2
    obtain ⟨x, hx, rfl, rfl, hO, hE⟩ := hrel
    by_cases hxn : x < n
    · have hz1 : (x : Int) < (n : Int) := by omega
      obtain ⟨b, ob, ai, ci, rfl, hc, hrow⟩ := hp.row Hg.out.1 hxn
      have hc1 := hE1.cell hc
      clear hc
      go_wp2
      go_loopg [9] n (fun gh i wr => ∃ k : Nat, k ≤ n ∧ gh = n - k ∧ i = .int .i64 k ∧ OwnR wr w1.heap.size a7 n c7 (cjIn p u0 u1 u2 (cjTo p u0 u1 u2 n x) x k) rs ∧ Ext w1 wr)
      case atStart => exact ⟨0, Nat.zero_le _, rfl, rfl, hO, hE⟩
      case round =>
        clear hO hE
        obtain ⟨y, hy, rfl, rfl, hO, hE⟩ := hrel
        by_cases hyn : y < n
        · have hz2 : (y : Int) < (n : Int) := by omega
          obtain ⟨b1, o1, rfl, hv1⟩ := hrow.cell2 hyn
          have hv2 := hE.cell (hE1.cell hv1)
          have hc2 := hE.cell hc1
          obtain ⟨v, hv⟩ : ∃ v, at2 p x y = v := ⟨_, rfl⟩
          rw [hv] at hv2
          have hEa := hE.alloc (.cells #[.int .i64 x, .int .i64 y, .int .i64 v] 2)
          have hOa := hO.ext ((Ext.refl _).alloc (.cells #[.int .i64 x, .int .i64 y, .int .i64 v] 2))
          have hta : OwnI (wr.alloc (.cells #[.int .i64 x, .int .i64 y, .int .i64 v] 2)) wr.heap.size (some ⟨wr.heap.size, 0, none⟩) 3 3 [(x : Int), (y : Int), v] := Own.lit (n := 3) wr #[.int .i64 x, .int .i64 y, .int .i64 v] rfl (by unfold maxLen; omega) rfl
          obtain ⟨ga, hha, _, ta, _⟩ := hta.giI h0
          cases hha
          obtain ⟨ga, hha, _, tb, _⟩ := hta.giI h1
          cases hha
          obtain ⟨ga, hha, _, tc, _⟩ := hta.giI h2
          cases hha
          rw [← hv] at ta tb tc
          obtain ⟨xa, ea, xan⟩ := t3_lt Hg.out hxn hyn h0
          obtain ⟨xb, eb, xbn⟩ := t3_lt Hg.out hxn hyn h1
          obtain ⟨xc, ec, xcn⟩ := t3_lt Hg.out hxn hyn h2
          rw [show gi [(x : Int), (y : Int), at2 p x y] u0 = (xa : Int) from ea, hv] at ta
          rw [show gi [(x : Int), (y : Int), at2 p x y] u1 = (xb : Int) from eb, hv] at tb
          rw [show gi [(x : Int), (y : Int), at2 p x y] u2 = (xc : Int) from ec, hv] at tc
          have est : Hid (cjIn p u0 u1 u2 (cjTo p u0 u1 u2 n x) x (y + 1) = set2 (cjIn p u0 u1 u2 (cjTo p u0 u1 u2 n x) x y) xa xb xc) := Lib.hid (by rw [cjIn, ea, eb, ec]; rfl)
          have hM := cjIn_rect Hg.out (cjTo_rect Hg.out h0 (b := u1) (c := u2) x hx) hxn h0 (b := u1) (c := u2) y hy
          have HM := Lib.hid hM
          clear hM hta ea eb ec hv hv1
          go_wp2_with fail
          obtain ⟨W, hW⟩ : ∃ W, wr.alloc (.cells #[.int .i64 x, .int .i64 y, .int .i64 v] 2) = W := ⟨_, rfl⟩
          rw [hW] at hEa hOa ta tb tc ⊢
          clear hW hO hv2 hc2
          have d0 := hEa.cell q0
          have d1 := hEa.cell q1
          have d2 := hEa.cell q2
          obtain ⟨gt, gg, dd, rfl, a1, hB, a2, a3, hset⟩ := hOa.cellAt HM.out xan xbn
          have hO2 := hset xc
          rw [← est.out] at hO2
          have hE2 := hEa.setCell (p := ⟨gg, xb, none⟩) hB (.int .i64 xc)
          have i1 : (xa : Int) < (n : Int) := by omega
          have i2 : (xb : Int) < (n : Int) := by omega
          have i3 : (u0 : Int) < 3 := by omega
          have i4 : (u1 : Int) < 3 := by omega
          have i5 : (u2 : Int) < 3 := by omega
          clear hset hOa hE hEa est
          go_region
          go_wp2
          go_roundg (n - (y + 1))
          case measure => go_light; omega
          case rel => go_light; exact ⟨y + 1, by omega, rfl, by go_num, hO2.ext ((Ext.refl _).drew), hE2.drew⟩
        · have hz2 : ¬ (y : Int) < (n : Int) := by omega
          obtain rfl : n = y := by omega
          go_wp2
          go_roundg (n - (x + 1))
          case measure => go_light; omega
          case rel => go_light; exact ⟨x + 1, by omega, rfl, by go_num, hO, hE⟩
    · have hz1 : ¬ (x : Int) < (n : Int) := by omega
      obtain rfl : n = x := by omega
      go_wp2
      go_ret
      exact ⟨_, _, _, _, rfl, by rw [hcj.out]; exact hO.base hE1.size, hE1.trans hE⟩

set_option maxRecDepth 100000 in
set_option maxHeartbeats 3200000 in
theorem specCnj (a : Option Addr) (n c : Nat) (p : List (List Int)) (kind : Int) (w : World) (hp : RdR w a n c p) (_ : p.length + tot p ≤ 1048576) (hk1 : -9223372036854775808 ≤ kind) (hk2 : kind ≤ 9223372036854775807) :
    Calls Try.prog 38 #[.slice a n c, .int .i64 kind] w (RetRC w (cnjM p kind) (cnjC p kind)) := by
  have Hl := Lib.hid hp.len
  go_enter Try.func38, Try.ntmps38
  go_wp2_with fail
  refine (l06Ok_any _ _ _ p _ hp).mono ?_
  rintro e w2 ⟨rfl, hE⟩
  rcases pbc (SqOk p) with ⟨hb, Hp⟩ | ⟨hb, Hp⟩
  · rw [hb]
    have Hbb := Lib.hid hb
    clear hb
    go_wp2_with fail
    obtain ⟨b, hb⟩ : ∃ b, decide (0 ≤ kind ∧ kind ≤ 5) = b := ⟨_, rfl⟩
    refine (l00In_any kind 0 5 b hb _).mono ?_
    rintro e w1 ⟨rfl, rfl⟩
    have Hb := Lib.hid hb
    clear hb
    cases b
    · have HP : Hid (pb (0 ≤ kind ∧ kind ≤ 5) = false) := Lib.hid (pb_false (by simpa using Hb.out))
      go_wp2
      go_ret2
      exact RetRC.nil_ (by rw [cnjM, if_pos Hbb.out, HP.out]; rfl) (by rw [cnjC, if_pos Hbb.out, unrC, HP.out]; rfl) hE
    · have hin : 0 ≤ kind ∧ kind ≤ 5 := by simpa using Hb.out
      obtain ⟨rk, rfl⟩ : ∃ rk : Nat, kind = rk := ⟨kind.toNat, by omega⟩
      have hrk : rk < 6 := by omega
      have HP : Hid (pb (0 ≤ (rk : Int) ∧ (rk : Int) ≤ 5) = true) := Lib.hid (pb_true hin)
      clear hin hk1 hk2
      go_wp2_with fail
      refine (l06Conjugate_any _ n _ p rk _ (hp.ext hE) (Hp.out.rng Hl.out) hrk).mono ?_
      rintro e w3 ⟨a3, n3, c3, rs, rfl, hO, hE3⟩
      go_wp2
      go_ret2
      exact RetRC.mk_ hO hE.size (by rw [cnjM, if_pos Hbb.out, if_pos HP.out, Int.toNat_natCast, ← Hl.out]) (by rw [cnjC, if_pos Hbb.out, unrC, if_pos HP.out]) (hE.trans hE3)
  · rw [hb]
    go_wp2
    go_ret2
    exact RetRC.nil_ (by rw [cnjM, hb]; rfl) (by rw [cnjC, hb]; rfl) hE

set_option maxRecDepth 100000 in
set_option maxHeartbeats 3200000 in
theorem implCnj (a : Option Addr) (n c : Nat) (p : List (List Int)) (kind : Int) (w : World) (hp : RdR w a n c p) (_ : p.length + tot p ≤ 1048576) (hk1 : -9223372036854775808 ≤ kind) (hk2 : kind ≤ 9223372036854775807) :
    Calls Try.prog 39 #[.slice a n c, .int .i64 kind] w (RetRC w (cnjM p kind) (cnjC p kind)) := by
  have Hl := Lib.hid hp.len
  have hb1 := hp.le
  have hb2 := hp.max
  go_enter Try.func39, Try.ntmps39
  go_wp2_with fail
  refine (validSquare_any _ _ _ p _ hp).mono ?_
  rintro e w2 ⟨rfl, hE⟩
  rcases pbc (SqOk p) with ⟨hb, Hp⟩ | ⟨hb, Hp⟩
  · rw [hb]
    have Hbb := Lib.hid hb
    clear hb
    go_wp2_with fail
    refine (unrank3_any kind _ hk1 hk2).mono ?_
    rintro e w1 ⟨a6, n6, c6, rfl, hU, hE1⟩
    rcases pbc (0 ≤ kind ∧ kind ≤ 5) with ⟨hb, HK⟩ | ⟨hb, HK⟩
    · rw [show unrC kind = 0 by rw [unrC, if_pos hb]]
      rw [show unrM kind = unr3 kind.toNat by rw [unrM, if_pos hb]] at hU
      have hin := HK.out
      obtain ⟨rk, rfl⟩ : ∃ rk : Nat, kind = rk := ⟨kind.toNat, by omega⟩
      have hrk : rk < 6 := by omega
      have HP : Hid (pb (0 ≤ (rk : Int) ∧ (rk : Int) ≤ 5) = true) := Lib.hid hb
      rw [Int.toNat_natCast] at hU
      obtain ⟨u0, u1, u2, hu, h0, h1, h2⟩ := unr3_perm hrk
      have HU := Lib.hid hu
      clear hu hin hk1 hk2 hb
      rw [HU.out] at hU
      obtain rfl : 3 = n6 := hU.len.symm
      have Hg := Lib.hid (Hp.out.rng Hl.out)
      have hn := Hg.out.2.1
      go_wp2_with fail
      refine (sizeR_any _ _ _ _).mono ?_
      rintro e w2' ⟨rfl, rfl⟩
      go_wp2_with fail
      refine (emptySquare_any n _ (by omega)).mono ?_
      rintro e w3 ⟨a7, n7, c7, rs, rfl, hO0, hE2⟩
      obtain rfl : n = n7 := by have := hO0.len; rwa [mat_length, eq_comm] at this
      have hU2 := hU.rdI
      obtain ⟨g, o, rfl, q0⟩ := hU2.gi (k := 0) (by omega)
      obtain ⟨g', o', hh, q1⟩ := hU2.gi (k := 1) (by omega)
      cases hh
      obtain ⟨g', o', hh, q2⟩ := hU2.gi (k := 2) (by omega)
      cases hh
      rw [Nat.add_zero] at q0
      rw [show gi [(u0 : Int), (u1 : Int), (u2 : Int)] 0 = (u0 : Int) from rfl] at q0
      rw [show gi [(u0 : Int), (u1 : Int), (u2 : Int)] 1 = (u1 : Int) from rfl] at q1
      rw [show gi [(u0 : Int), (u1 : Int), (u2 : Int)] 2 = (u2 : Int) from rfl] at q2
      have hcj : Hid (cj p (unr3 rk) n = cjTo p u0 u1 u2 n n) := Lib.hid (by rw [HU.out]; rfl)
      have hbU := hU2.le
      have hEw := hE.trans hE1
      clear hU hU2
      go_wp2
      go_loopg [29] n (fun gh i wr => ∃ k : Nat, k ≤ n ∧ gh = n - k ∧ i = .int .i64 k ∧ OwnR wr w1.heap.size a7 n c7 (cjTo p u0 u1 u2 n k) rs ∧ Ext w1 wr)
      case atStart => exact ⟨0, Nat.zero_le _, rfl, rfl, hO0, hE2⟩
      case round =>
        clear hO0 hE2
        obtain ⟨x, hx, rfl, rfl, hO, hE⟩ := hrel
        by_cases hxn : x < n
        · have hz1 : (x : Int) < (n : Int) := by omega
          obtain ⟨b, ob, ai, ci, rfl, hc, hrow⟩ := hp.row Hg.out.1 hxn
          have hc1 := hEw.cell hc
          have hc2 := hE.cell hc1
          clear hc
          go_wp2
          clear hc2
          go_loopg [36] n (fun gh i wr => ∃ k : Nat, k ≤ n ∧ gh = n - k ∧ i = .int .i64 k ∧ OwnR wr w1.heap.size a7 n c7 (cjIn p u0 u1 u2 (cjTo p u0 u1 u2 n x) x k) rs ∧ Ext w1 wr)
          case atStart => exact ⟨0, Nat.zero_le _, rfl, rfl, hO, hE⟩
          case round =>
            clear hO hE
            obtain ⟨y, hy, rfl, rfl, hO, hE⟩ := hrel
            by_cases hyn : y < n
            · have hz2 : (y : Int) < (n : Int) := by omega
              obtain ⟨b1, o1, rfl, hv1⟩ := hrow.cell2 hyn
              have hv2 := hE.cell (hEw.cell hv1)
              obtain ⟨v, hv⟩ : ∃ v, at2 p x y = v := ⟨_, rfl⟩
              rw [hv] at hv2
              have hEa := hE.alloc (.cells #[.int .i64 x, .int .i64 y, .int .i64 v] 65)
              have hOa := hO.ext ((Ext.refl _).alloc (.cells #[.int .i64 x, .int .i64 y, .int .i64 v] 65))
              have hta : Own 65 (Value.int .i64) (wr.alloc (.cells #[.int .i64 x, .int .i64 y, .int .i64 v] 65)) wr.heap.size (some ⟨wr.heap.size, 0, none⟩) 3 3 [(x : Int), (y : Int), v] := Own.lit (n := 3) wr #[.int .i64 x, .int .i64 y, .int .i64 v] rfl (by unfold maxLen; omega) rfl
              obtain ⟨ga, hha, _, ta, _⟩ := hta.giI h0
              cases hha
              obtain ⟨ga, hha, _, tb, _⟩ := hta.giI h1
              cases hha
              obtain ⟨ga, hha, _, tc, _⟩ := hta.giI h2
              cases hha
              rw [← hv] at ta tb tc
              obtain ⟨xa, ea, xan⟩ := t3_lt Hg.out hxn hyn h0
              obtain ⟨xb, eb, xbn⟩ := t3_lt Hg.out hxn hyn h1
              obtain ⟨xc, ec, xcn⟩ := t3_lt Hg.out hxn hyn h2
              rw [show gi [(x : Int), (y : Int), at2 p x y] u0 = (xa : Int) from ea, hv] at ta
              rw [show gi [(x : Int), (y : Int), at2 p x y] u1 = (xb : Int) from eb, hv] at tb
              rw [show gi [(x : Int), (y : Int), at2 p x y] u2 = (xc : Int) from ec, hv] at tc
              have est : Hid (cjIn p u0 u1 u2 (cjTo p u0 u1 u2 n x) x (y + 1) = set2 (cjIn p u0 u1 u2 (cjTo p u0 u1 u2 n x) x y) xa xb xc) := Lib.hid (by rw [cjIn, ea, eb, ec]; rfl)
              have hM := cjIn_rect Hg.out (cjTo_rect Hg.out h0 (b := u1) (c := u2) x hx) hxn h0 (b := u1) (c := u2) y hy
              have HM := Lib.hid hM
              clear hM hta ea eb ec hv hv1
              go_wp2_with fail
              obtain ⟨W, hW⟩ : ∃ W, wr.alloc (.cells #[.int .i64 x, .int .i64 y, .int .i64 v] 65) = W := ⟨_, rfl⟩
              rw [hW] at hEa hOa ta tb tc ⊢
              clear hW hO hv2
              have d0 := hEa.cell q0
              have d1 := hEa.cell q1
              have d2 := hEa.cell q2
              obtain ⟨gt, gg, dd, rfl, a1, hB, a2, a3, hset⟩ := hOa.cellAt HM.out xan xbn
              have hO2 := hset xc
              rw [← est.out] at hO2
              have hE2 := hEa.setCell (p := ⟨gg, xb, none⟩) hB (.int .i64 xc)
              have i1 : (xa : Int) < (n : Int) := by omega
              have i2 : (xb : Int) < (n : Int) := by omega
              have i3 : (u0 : Int) < 3 := by omega
              have i4 : (u1 : Int) < 3 := by omega
              have i5 : (u2 : Int) < 3 := by omega
              clear hset hOa hE hEa est
              go_region
              go_wp2
              go_roundg (n - (y + 1))
              case measure => go_light; omega
              case rel => go_light; exact ⟨y + 1, by omega, rfl, by go_num, hO2.ext ((Ext.refl _).drew), hE2.drew⟩
            · have hz2 : ¬ (y : Int) < (n : Int) := by omega
              obtain rfl : n = y := by omega
              go_wp2
              go_roundg (n - (x + 1))
              case measure => go_light; omega
              case rel => go_light; exact ⟨x + 1, by omega, rfl, by go_num, hO, hE⟩
        · have hz1 : ¬ (x : Int) < (n : Int) := by omega
          obtain rfl : n = x := by omega
          go_wp2
          go_ret2
          exact RetRC.mk_ hO hEw.size (by rw [cnjM, if_pos Hbb.out, if_pos HP.out, Int.toNat_natCast, ← Hl.out, hcj.out]) (by rw [cnjC, if_pos Hbb.out, unrC, if_pos HP.out]) (hEw.trans hE)
    · rw [show unrC kind = 2 by rw [unrC, hb]; rfl]
      have HP : Hid (pb (0 ≤ kind ∧ kind ≤ 5) = false) := Lib.hid hb
      clear hb
      go_wp2
      go_ret2
      exact RetRC.nil_ (by rw [cnjM, if_pos Hbb.out, HP.out]; rfl) (by rw [cnjC, if_pos Hbb.out, unrC, HP.out]; rfl) (hE.trans hE1)
  · rw [hb]
    go_wp2
    go_ret2
    exact RetRC.nil_ (by rw [cnjM, hb]; rfl) (by rw [cnjC, hb]; rfl) hE
end Go.Proofs.Ytkapkieeafhaoaa
