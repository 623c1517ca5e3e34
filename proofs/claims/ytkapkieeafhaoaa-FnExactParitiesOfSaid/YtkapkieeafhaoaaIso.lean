/- The isotope of a square, by both. Conditions: none. -/
import Derived.Test.YtkapkieeafhaoaaIsoP
import Derived.Test.YtkapkieeafhaoaaSl
namespace Go.Proofs.Ytkapkieeafhaoaa
open Go.RowKit

set_option maxRecDepth 100000 in
set_option maxHeartbeats 1600000 in
theorem l06Isotope_rng (a : Option Addr) (n c : Nat) (p : List (List Int)) (ar : Option Addr) (cr : Nat) (r : List Int) (ac : Option Addr) (cc : Nat) (q : List Int) (as_ : Option Addr) (cs : Nat) (s : List Int) (w : World)
    (hp : RdR w a n c p) (hr : RdI w ar n cr r) (hq : RdI w ac n cc q) (hs : RdI w as_ n cs s) (hg : Rng p n) (br : Below_ r n) (bq : Below_ q n) :
    Calls Try.prog 63 #[.slice a n c, .slice ar n cr, .slice ac n cc, .slice as_ n cs] w (RetR w (isoTo p r q s n n)) := by
  have hb1 := hp.le
  have hb2 := hp.max
  have hb3 := hr.le
  have hb4 := hr.max
  have hb5 := hq.le
  have hb6 := hq.max
  have hb7 := hs.le
  have hb8 := hs.max
  have Hl := Lib.hid hp.len
  have Hlr := Lib.hid hr.len
  have Hlq := Lib.hid hq.len
  have Hr : Hid (Rect p n n) := Lib.hid hg.1
  have hn : n ≤ 10 := hg.2.1
  have H := Lib.hid hg
  have Br := Lib.hid br
  have Bq := Lib.hid bq
  clear hg br bq
  go_enter Try.func63, Try.ntmps63
  go_wp2_with fail
  refine (l06Zero_any n n _ (by omega) (by omega)).mono ?_
  rintro e w4 ⟨a4, n4, c4, rs, rfl, hO0, hE0⟩
  obtain rfl : n = n4 := by have := hO0.len; rwa [mat_length, eq_comm] at this
  go_wp2
  go_loopg [11] n (fun gh i wr => ∃ (k : Nat), k ≤ n ∧ gh = n - k ∧ i = .int .i64 k ∧ Ext w wr ∧ OwnR wr w.heap.size a4 n c4 (isoTo p r q s n k) rs)
  case atStart => exact ⟨0, Nat.zero_le _, rfl, rfl, hE0, hO0⟩
  case round =>
    obtain ⟨k, hk, rfl, rfl, hE, hO⟩ := hrel
    clear hE0 hO0
    by_cases hlt : k < n
    · have hz : (k : Int) < (n : Int) := by omega
      go_wp2
      go_loopg [12] n (fun gh i wi => ∃ (y : Nat), y ≤ n ∧ gh = n - y ∧ i = .int .i64 y ∧ Ext w wi ∧ OwnR wi w.heap.size a4 n c4 (isoIn p r q s (isoTo p r q s n k) k y) rs)
      case atStart => exact ⟨0, Nat.zero_le _, rfl, rfl, hE, hO⟩
      case round =>
        clear hE hO
        obtain ⟨y, hy, rfl, rfl, hE, hO⟩ := hrel
        by_cases hly : y < n
        · have hz2 : (y : Int) < (n : Int) := by omega
          obtain ⟨b, o, ai, ci, rfl, hc, hrow⟩ := hp.row Hr.out hlt
          obtain ⟨b1, o1, rfl, hc1⟩ := hrow.cell2 hly
          obtain ⟨v, hv, hvn⟩ : ∃ v : Nat, at2 p k y = v ∧ v < n := ⟨(at2 p k y).toNat, by have := H.out.2.2 k y hlt hly; omega, by have := H.out.2.2 k y hlt hly; omega⟩
          obtain ⟨b2, o2, rfl, hc2⟩ := hr.gi hlt
          obtain ⟨b3, o3, rfl, hc3⟩ := hq.gi hly
          obtain ⟨b4, o4, rfl, hc4⟩ := hs.gi hvn
          obtain ⟨x1, hx1, hx1n⟩ := Br.out k (by have := Hlr.out; omega)
          obtain ⟨y1, hy1, hy1n⟩ := Bq.out y (by have := Hlq.out; omega)
          rw [hv] at hc1
          rw [hx1] at hc2
          rw [hy1] at hc3
          replace hc := hE.cell hc
          replace hc1 := hE.cell hc1
          replace hc2 := hE.cell hc2
          replace hc3 := hE.cell hc3
          replace hc4 := hE.cell hc4
          have e : isoIn p r q s (isoTo p r q s n k) k (y + 1) = set2 (isoIn p r q s (isoTo p r q s n k) k y) x1 y1 (gi s v) := by rw [isoIn, hx1, hy1, hv]; rfl
          obtain ⟨g, gg, d, rfl, hd1, hB, hd2, hf2, hset⟩ := hO.cellAt (isoIn_rect (isoTo_rect Br.out Hlr.out.symm k hk) Br.out Hlr.out.symm hlt y) hx1n hy1n
          have hfin := hset (gi s v)
          rw [← e] at hfin
          have hE3 := hE.setCell (p := ⟨gg, y1, none⟩) hB (.int .i64 (gi s v))
          have i1 : (x1 : Int) < (n : Int) := by omega
          have i2 : (y1 : Int) < (n : Int) := by omega
          have i3 : (v : Int) < (n : Int) := by omega
          clear hset hO hE e hrow hv hx1 hy1
          go_wp2_with fail
          go_region
          go_wp2
          go_roundg (n - (y + 1))
          case measure => go_light; omega
          case rel => go_light; exact ⟨y + 1, by omega, rfl, by go_num, hE3.drew, hfin.ext ((Ext.refl _).drew)⟩
        · have hz2 : ¬ (y : Int) < (n : Int) := by omega
          obtain rfl : n = y := by omega
          go_wp2
          go_roundg (n - (k + 1))
          case measure => go_light; omega
          case rel => go_light; exact ⟨k + 1, by omega, rfl, by go_num, hE, hO⟩
    · have hz : ¬ (k : Int) < (n : Int) := by omega
      obtain rfl : n = k := by omega
      go_wp2
      go_ret
      exact ⟨_, _, _, _, rfl, hO, hE⟩

set_option maxHeartbeats 400000 in
theorem emptyF (n : Nat) (w : World) : Gives 103 #[] n (fun _ _ => 0) w := by
  intro x y w1 hx hy hE
  show Calls Try.prog 103 #[.int .i64 x, .int .i64 y] w1 _
  go_enter Try.func103, Try.ntmps103
  go_wp2
  go_ret
  exact ⟨rfl, Q.refl _⟩

set_option maxHeartbeats 400000 in
/-- impl.emptySquare. -/
theorem emptySquare_any (n : Nat) (w : World) (hn : n ≤ 1000000) :
    Calls Try.prog 56 #[.int .i64 n] w (RetR w (mat n n fun _ _ => 0)) := by
  go_enter Try.func56, Try.ntmps56
  go_wp2_with fail
  refine (filled n _ _ _ _ hn (enters_of Try.func103 (by kernel_rfl) (by kernel_rfl)) (emptyF n _)).mono ?_
  rintro e w1 ⟨a, m, c, rs, rfl, hO, hE⟩
  go_wp2
  go_ret
  exact ⟨_, _, _, _, rfl, hO, hE⟩

set_option maxRecDepth 100000 in
set_option maxHeartbeats 1600000 in
theorem isotope_rng (a : Option Addr) (n c : Nat) (p : List (List Int)) (ar : Option Addr) (cr : Nat) (r : List Int) (ac : Option Addr) (cc : Nat) (q : List Int) (as_ : Option Addr) (cs : Nat) (s : List Int) (w : World)
    (hp : RdR w a n c p) (hr : RdI w ar n cr r) (hq : RdI w ac n cc q) (hs : RdI w as_ n cs s) (hg : Rng p n) (br : Below_ r n) (bq : Below_ q n) :
    Calls Try.prog 65 #[.slice a n c, .slice ar n cr, .slice ac n cc, .slice as_ n cs] w (RetR w (isoTo p r q s n n)) := by
  have hb1 := hp.le
  have hb2 := hp.max
  have hb3 := hr.le
  have hb4 := hr.max
  have hb5 := hq.le
  have hb6 := hq.max
  have hb7 := hs.le
  have hb8 := hs.max
  have Hl := Lib.hid hp.len
  have Hlr := Lib.hid hr.len
  have Hlq := Lib.hid hq.len
  have Hr : Hid (Rect p n n) := Lib.hid hg.1
  have hn : n ≤ 10 := hg.2.1
  have H := Lib.hid hg
  have Br := Lib.hid br
  have Bq := Lib.hid bq
  clear hg br bq
  go_enter Try.func65, Try.ntmps65
  go_wp2_with fail
  refine (sizeR_any _ _ _ _).mono ?_
  rintro e w2 ⟨rfl, rfl⟩
  go_wp2_with fail
  refine (emptySquare_any n _ (by omega)).mono ?_
  rintro e w4 ⟨a4, n4, c4, rs, rfl, hO0, hE0⟩
  obtain rfl : n = n4 := by have := hO0.len; rwa [mat_length, eq_comm] at this
  go_wp2
  go_loopg [19] n (fun gh i wr => ∃ (k : Nat), k ≤ n ∧ gh = n - k ∧ i = .int .i64 k ∧ Ext w wr ∧ OwnR wr w.heap.size a4 n c4 (isoTo p r q s n k) rs)
  case atStart => exact ⟨0, Nat.zero_le _, rfl, rfl, hE0, hO0⟩
  case round =>
    obtain ⟨k, hk, rfl, rfl, hE, hO⟩ := hrel
    clear hE0 hO0
    by_cases hlt : k < n
    · have hz : (k : Int) < (n : Int) := by omega
      obtain ⟨b, o, ai, ci, rfl, hc, hrow⟩ := hp.row Hr.out hlt
      have hb9 := hrow.le
      have hb10 := hrow.max
      replace hc := hE.cell hc
      go_wp2
      go_loopg [26] n (fun gh i wi => ∃ (y : Nat), y ≤ n ∧ gh = n - y ∧ i = .int .i64 y ∧ Ext w wi ∧ OwnR wi w.heap.size a4 n c4 (isoIn p r q s (isoTo p r q s n k) k y) rs)
      case atStart => exact ⟨0, Nat.zero_le _, rfl, rfl, hE, hO⟩
      case round =>
        clear hE hO hc
        obtain ⟨y, hy, rfl, rfl, hE, hO⟩ := hrel
        by_cases hly : y < n
        · have hz2 : (y : Int) < (n : Int) := by omega
          obtain ⟨b1, o1, rfl, hc1⟩ := hrow.cell2 hly
          obtain ⟨v, hv, hvn⟩ : ∃ v : Nat, at2 p k y = v ∧ v < n := ⟨(at2 p k y).toNat, by have := H.out.2.2 k y hlt hly; omega, by have := H.out.2.2 k y hlt hly; omega⟩
          obtain ⟨b2, o2, rfl, hc2⟩ := hr.gi hlt
          obtain ⟨b3, o3, rfl, hc3⟩ := hq.gi hly
          obtain ⟨b4, o4, rfl, hc4⟩ := hs.gi hvn
          obtain ⟨x1, hx1, hx1n⟩ := Br.out k (by have := Hlr.out; omega)
          obtain ⟨y1, hy1, hy1n⟩ := Bq.out y (by have := Hlq.out; omega)
          rw [hv] at hc1
          rw [hx1] at hc2
          rw [hy1] at hc3
          replace hc1 := hE.cell hc1
          replace hc2 := hE.cell hc2
          replace hc3 := hE.cell hc3
          replace hc4 := hE.cell hc4
          have e : isoIn p r q s (isoTo p r q s n k) k (y + 1) = set2 (isoIn p r q s (isoTo p r q s n k) k y) x1 y1 (gi s v) := by rw [isoIn, hx1, hy1, hv]; rfl
          obtain ⟨g, gg, d, rfl, hd1, hB, hd2, hf2, hset⟩ := hO.cellAt (isoIn_rect (isoTo_rect Br.out Hlr.out.symm k hk) Br.out Hlr.out.symm hlt y) hx1n hy1n
          have hfin := hset (gi s v)
          rw [← e] at hfin
          have hE3 := hE.setCell (p := ⟨gg, y1, none⟩) hB (.int .i64 (gi s v))
          have i1 : (x1 : Int) < (n : Int) := by omega
          have i2 : (y1 : Int) < (n : Int) := by omega
          have i3 : (v : Int) < (n : Int) := by omega
          clear hset hO hE e hrow hv hx1 hy1
          go_wp2_with fail
          go_region
          go_wp2
          go_roundg (n - (y + 1))
          case measure => go_light; omega
          case rel => go_light; exact ⟨y + 1, by omega, rfl, by go_num, hE3.drew, hfin.ext ((Ext.refl _).drew)⟩
        · have hz2 : ¬ (y : Int) < (n : Int) := by omega
          obtain rfl : n = y := by omega
          go_wp2
          go_roundg (n - (k + 1))
          case measure => go_light; omega
          case rel => go_light; exact ⟨k + 1, by omega, rfl, by go_num, hE, hO⟩
    · have hz : ¬ (k : Int) < (n : Int) := by omega
      obtain rfl : n = k := by omega
      go_wp2
      go_ret
      exact ⟨_, _, _, _, rfl, hO, hE⟩

theorem l06Isotope_any (a : Option Addr) (n c : Nat) (p : List (List Int)) (ar : Option Addr) (cr : Nat) (r : List Int) (ac : Option Addr) (cc : Nat) (q : List Int) (as_ : Option Addr) (cs : Nat) (s : List Int) (w : World)
    (hp : RdR w a n c p) (hr : RdI w ar n cr r) (hq : RdI w ac n cc q) (hs : RdI w as_ n cs s) (hsq : SqOk p) (br : Below_ r n) (bq : Below_ q n) :
    Calls Try.prog 63 #[.slice a n c, .slice ar n cr, .slice ac n cc, .slice as_ n cs] w (RetR w (isoTo p r q s n n)) :=
  l06Isotope_rng a n c p ar cr r ac cc q as_ cs s w hp hr hq hs (hsq.rng hp.len) br bq

theorem isotope_any (a : Option Addr) (n c : Nat) (p : List (List Int)) (ar : Option Addr) (cr : Nat) (r : List Int) (ac : Option Addr) (cc : Nat) (q : List Int) (as_ : Option Addr) (cs : Nat) (s : List Int) (w : World)
    (hp : RdR w a n c p) (hr : RdI w ar n cr r) (hq : RdI w ac n cc q) (hs : RdI w as_ n cs s) (hsq : SqOk p) (br : Below_ r n) (bq : Below_ q n) :
    Calls Try.prog 65 #[.slice a n c, .slice ar n cr, .slice ac n cc, .slice as_ n cs] w (RetR w (isoTo p r q s n n)) :=
  isotope_rng a n c p ar cr r ac cc q as_ cs s w hp hr hq hs (hsq.rng hp.len) br bq

end Go.Proofs.Ytkapkieeafhaoaa
