/- QuadranglesHold of the program. Conditions: none. -/
import Derived.Test.YtkapkieeafhaoaaQua
namespace Go.Proofs.Ytkapkieeafhaoaa
open Go.RowKit

set_option maxRecDepth 100000 in
set_option maxHeartbeats 6400000 in
theorem quaIn (a : Option Addr) (n c : Nat) (p : List (List Int)) (aI : Option Addr) (cI : Nat) (I : List (List Int)) (aJ : Option Addr) (cJ : Nat) (J : List (List Int)) (b0 bI bJ br bs bc bd : Nat) (r s x y : Nat) (w : World)
    (hp0 : RdR w a n c p) (hI0 : RdR w aI n cI I) (hJ0 : RdR w aJ n cJ J) (hI : RowTab p I n) (hJ : ColTab p J n) (hS : SqOk p) (hnl : n = p.length) (hr : r < n) (hs : s < n) (hx : x < n) (hy : y < n)
    (k0 : w.cell? ⟨b0, 0, none⟩ = some (.slice a n c)) (kI : w.cell? ⟨bI, 0, none⟩ = some (.slice aI n cI)) (kJ : w.cell? ⟨bJ, 0, none⟩ = some (.slice aJ n cJ))
    (kr : w.cell? ⟨br, 0, none⟩ = some (.int .i64 r)) (ks : w.cell? ⟨bs, 0, none⟩ = some (.int .i64 s)) (kc : w.cell? ⟨bc, 0, none⟩ = some (.int .i64 x)) (kd : w.cell? ⟨bd, 0, none⟩ = some (.int .i64 y)) :
    AskN 61 #[.pointer (some ⟨bI, 0, none⟩), .pointer (some ⟨b0, 0, none⟩), .pointer (some ⟨br, 0, none⟩), .pointer (some ⟨bc, 0, none⟩), .pointer (some ⟨bd, 0, none⟩), .pointer (some ⟨bJ, 0, none⟩), .pointer (some ⟨bs, 0, none⟩)] n (fun u => qi p I J r s x y u) w := by
  intro u w1 hu hE
  have hp := RdR.ext hp0 hE
  have hq := RdR.ext hI0 hE
  have ht := RdR.ext hJ0 hE
  have hb1 := hp.le
  have hb2 := hp.max
  have hb3 := hq.le
  have hb4 := hq.max
  have hb5 := ht.le
  have hb6 := ht.max
  have hn : n ≤ 10 := hI.1.2.1
  have hR := hS.rng hnl
  replace k0 := hE.cell k0
  replace kI := hE.cell kI
  replace kJ := hE.cell kJ
  replace kr := hE.cell kr
  replace ks := hE.cell ks
  replace kc := hE.cell kc
  replace kd := hE.cell kd
  obtain ⟨vx, ex, vxn, bx, fx, _⟩ := qE_at hI hS hnl hr hu hx
  obtain ⟨vy, ey, vyn, by_, fy, _⟩ := qE_at hI hS hnl hr hu hy
  obtain ⟨vs, es, vsn, gs, gx, _⟩ := qV_at hI hJ hS hnl hr hs hu hx
  obtain ⟨E, hEE⟩ : ∃ E, qE p I r u x = E := ⟨_, rfl⟩
  obtain ⟨F, hF⟩ : ∃ F, qE p I r u y = F := ⟨_, rfl⟩
  obtain ⟨V, hV⟩ : ∃ V, qV p I J r s u x = V := ⟨_, rfl⟩
  rw [hEE] at bx fx gs
  rw [hF] at by_ fy
  rw [hV] at gs gx
  obtain ⟨b, o, b1, o1, c1, rfl, k1, t1⟩ := row1 hp hR.1 hr
  obtain ⟨b', o', b2, o2, c2, hh, k2, t2⟩ := row1 hp hR.1 hs
  cases hh
  obtain ⟨b', o', b3, o3, c3, hh, k3, t3⟩ := row1 hp hR.1 gx
  cases hh
  obtain ⟨b5, o5, b4, o4, c4, rfl, k4, t4⟩ := row1 hq hI.1.1 hu
  obtain ⟨b7, o7, b6, o6, c6, rfl, k5, t5⟩ := row1 ht hJ.1.1 fx
  have e1 := t1 x hx
  have e2 := t1 y hy
  have e3 := t4 vx vxn
  have e4 := t4 vy vyn
  have e5 := t2 x hx
  have e6 := t2 y hy
  have e7 := t5 vs vsn
  have e8 := t3 F fy
  rw [ex] at e1
  rw [ey] at e2
  rw [bx] at e3
  rw [by_] at e4
  rw [es] at e5
  rw [gs] at e7
  have j1 : (vx : Int) < (n : Int) := by omega
  have j2 : (vy : Int) < (n : Int) := by omega
  have j3 : (E : Int) < (n : Int) := by omega
  have j4 : (F : Int) < (n : Int) := by omega
  have j5 : (V : Int) < (n : Int) := by omega
  have j6 : (vs : Int) < (n : Int) := by omega
  have j7 : (r : Int) < (n : Int) := by omega
  have j8 : (s : Int) < (n : Int) := by omega
  have j9 : (x : Int) < (n : Int) := by omega
  have j10 : (y : Int) < (n : Int) := by omega
  have j11 : (u : Int) < (n : Int) := by omega
  obtain ⟨t, ht'⟩ : ∃ t, (at2 p s y == at2 p V F) = t := ⟨_, rfl⟩
  dsimp only
  rw [show qi p I J r s x y u = t by rw [qi, hV, hF]; exact ht']
  clear t1 t2 t3 t4 t5 hEE hF hV ex ey es bx by_ gs hp hq ht hp0 hI0 hJ0 hE hI hJ hS hR hnl
  show Calls Try.prog 61 #[.int .i64 u, .pointer (some ⟨bI, 0, none⟩), .pointer (some ⟨b0, 0, none⟩), .pointer (some ⟨br, 0, none⟩), .pointer (some ⟨bc, 0, none⟩), .pointer (some ⟨bd, 0, none⟩), .pointer (some ⟨bJ, 0, none⟩), .pointer (some ⟨bs, 0, none⟩)] w1 _
  go_enter Try.func61, Try.ntmps61
  go_wp2_with fail
  go_quiet (fail)
  go_wp2_with fail
  go_quiet (fail)
  go_wp2_with fail
  go_quiet (fail)
  go_wp2
  go_ret
  exact ⟨rfl, (((Ext.refl _).drewN _).drewN _).drewN _⟩

set_option maxRecDepth 100000 in
set_option maxHeartbeats 1600000 in
theorem quaMid (a : Option Addr) (n c : Nat) (p : List (List Int)) (aI : Option Addr) (cI : Nat) (I : List (List Int)) (aJ : Option Addr) (cJ : Nat) (J : List (List Int)) (b0 bI bJ br bs : Nat) (r s : Nat) (w : World)
    (hp0 : RdR w a n c p) (hI0 : RdR w aI n cI I) (hJ0 : RdR w aJ n cJ J) (hI : RowTab p I n) (hJ : ColTab p J n) (hS : SqOk p) (hnl : n = p.length) (hr : r < n) (hs : s < n)
    (k0 : w.cell? ⟨b0, 0, none⟩ = some (.slice a n c)) (kI : w.cell? ⟨bI, 0, none⟩ = some (.slice aI n cI)) (kJ : w.cell? ⟨bJ, 0, none⟩ = some (.slice aJ n cJ))
    (kr : w.cell? ⟨br, 0, none⟩ = some (.int .i64 r)) (ks : w.cell? ⟨bs, 0, none⟩ = some (.int .i64 s)) :
    AskP 59 #[.pointer (some ⟨b0, 0, none⟩), .pointer (some ⟨bI, 0, none⟩), .pointer (some ⟨br, 0, none⟩), .pointer (some ⟨bJ, 0, none⟩), .pointer (some ⟨bs, 0, none⟩)] n (fun x y => pb (AllN n fun u => qi p I J r s x y u)) w := by
  intro x y w1 hx hy hE
  have hmf : ∀ (fn : Fn) (first cap : Array Value) (w : World), (Instr.makeFunc fn first cap).run Try.prog w = .ok (.func fn first cap) w := fun _ _ _ _ => rfl
  have Hp := Lib.hid (RdR.ext hp0 hE)
  have HI0 := Lib.hid (RdR.ext hI0 hE)
  have HJ0 := Lib.hid (RdR.ext hJ0 hE)
  have HI := Lib.hid hI
  have HJ := Lib.hid hJ
  have HS := Lib.hid hS
  have Hn := Lib.hid hnl
  have hn := hI.1.2.1
  replace k0 := hE.cell k0
  have KI := Lib.hid (hE.cell kI)
  have KJ := Lib.hid (hE.cell kJ)
  have Kr := Lib.hid (hE.cell kr)
  have Ks := Lib.hid (hE.cell ks)
  have lt1 := World.block_lt_of_cell? _ _ k0
  have lt1n := Nat.ne_of_lt lt1
  clear hp0 hI0 hJ0 hI hJ hS hnl hE kI kJ kr ks
  show Calls Try.prog 59 #[.int .i64 x, .int .i64 y, .pointer (some ⟨b0, 0, none⟩), .pointer (some ⟨bI, 0, none⟩), .pointer (some ⟨br, 0, none⟩), .pointer (some ⟨bJ, 0, none⟩), .pointer (some ⟨bs, 0, none⟩)] w1 _
  go_enter Try.func59, Try.ntmps59
  go_wp2_with fail
  obtain ⟨W, hW⟩ : ∃ W, (w1.alloc (.cells #[.int .i64 x] 2)).alloc (.cells #[.int .i64 y] 2) = W := ⟨_, rfl⟩
  have hEW : Ext w1 W := by rw [← hW]; exact ((Ext.refl _).alloc _).alloc _
  have k2 : W.cell? ⟨w1.heap.size, 0, none⟩ = some (.int .i64 x) := by rw [← hW]; exact (World.cell?_alloc_past _ _ _ (by simp)).trans ((World.cell?_alloc_at _ _ _ _ rfl).trans rfl)
  have k3 : W.cell? ⟨w1.heap.size + 1, 0, none⟩ = some (.int .i64 y) := by rw [← hW]; exact (World.cell?_alloc_at _ _ _ _ (by simp)).trans rfl
  rw [hW]
  clear hW
  refine (forAll_any _ n _ _ _ (fun u => qi p I J r s x y u) _ (by omega) (enters_of Try.func61 (by kernel_rfl) (by kernel_rfl)) (quaIn _ n _ p _ _ I _ _ J _ _ _ _ _ _ _ r s x y W (Hp.out.ext hEW) (HI0.out.ext hEW) (HJ0.out.ext hEW) HI.out HJ.out HS.out Hn.out hr hs hx hy (hEW.cell k0) (hEW.cell KI.out) (hEW.cell KJ.out) (hEW.cell Kr.out) (hEW.cell Ks.out) k2 k3)).mono ?_
  rintro e w2 ⟨rfl, hE2⟩
  go_wp2
  go_ret
  exact ⟨rfl, hEW.trans hE2⟩

set_option maxRecDepth 100000 in
set_option maxHeartbeats 1600000 in
theorem quaOut (a : Option Addr) (n c : Nat) (p : List (List Int)) (aI : Option Addr) (cI : Nat) (I : List (List Int)) (aJ : Option Addr) (cJ : Nat) (J : List (List Int)) (b0 bI bJ : Nat) (w : World)
    (hp0 : RdR w a n c p) (hI0 : RdR w aI n cI I) (hJ0 : RdR w aJ n cJ J) (hI : RowTab p I n) (hJ : ColTab p J n) (hS : SqOk p) (hnl : n = p.length)
    (k0 : w.cell? ⟨b0, 0, none⟩ = some (.slice a n c)) (kI : w.cell? ⟨bI, 0, none⟩ = some (.slice aI n cI)) (kJ : w.cell? ⟨bJ, 0, none⟩ = some (.slice aJ n cJ)) :
    AskP 58 #[.pointer (some ⟨b0, 0, none⟩), .pointer (some ⟨bI, 0, none⟩), .pointer (some ⟨bJ, 0, none⟩)] n (fun r s => pb (All2 n fun x y => pb (AllN n fun u => qi p I J r s x y u))) w := by
  intro x y w1 hx hy hE
  have hmf : ∀ (fn : Fn) (first cap : Array Value) (w : World), (Instr.makeFunc fn first cap).run Try.prog w = .ok (.func fn first cap) w := fun _ _ _ _ => rfl
  have Hp := Lib.hid (RdR.ext hp0 hE)
  have HI0 := Lib.hid (RdR.ext hI0 hE)
  have HJ0 := Lib.hid (RdR.ext hJ0 hE)
  have HI := Lib.hid hI
  have HJ := Lib.hid hJ
  have HS := Lib.hid hS
  have Hn := Lib.hid hnl
  have hn := hI.1.2.1
  replace k0 := hE.cell k0
  have KI := Lib.hid (hE.cell kI)
  have KJ := Lib.hid (hE.cell kJ)
  have lt1 := World.block_lt_of_cell? _ _ k0
  have lt1n := Nat.ne_of_lt lt1
  clear hp0 hI0 hJ0 hI hJ hS hnl hE kI kJ
  show Calls Try.prog 58 #[.int .i64 x, .int .i64 y, .pointer (some ⟨b0, 0, none⟩), .pointer (some ⟨bI, 0, none⟩), .pointer (some ⟨bJ, 0, none⟩)] w1 _
  go_enter Try.func58, Try.ntmps58
  go_wp2_with fail
  obtain ⟨W, hW⟩ : ∃ W, (w1.alloc (.cells #[.int .i64 x] 2)).alloc (.cells #[.int .i64 y] 2) = W := ⟨_, rfl⟩
  have hEW : Ext w1 W := by rw [← hW]; exact ((Ext.refl _).alloc _).alloc _
  have k2 : W.cell? ⟨w1.heap.size, 0, none⟩ = some (.int .i64 x) := by rw [← hW]; exact (World.cell?_alloc_past _ _ _ (by simp)).trans ((World.cell?_alloc_at _ _ _ _ rfl).trans rfl)
  have k3 : W.cell? ⟨w1.heap.size + 1, 0, none⟩ = some (.int .i64 y) := by rw [← hW]; exact (World.cell?_alloc_at _ _ _ _ (by simp)).trans rfl
  rw [hW]
  clear hW
  refine (forPairs_any _ n _ _ _ (fun c d => pb (AllN n fun u => qi p I J x y c d u)) _ (by omega) (enters_of Try.func59 (by kernel_rfl) (by kernel_rfl)) (quaMid _ n _ p _ _ I _ _ J _ _ _ _ _ x y W (Hp.out.ext hEW) (HI0.out.ext hEW) (HJ0.out.ext hEW) HI.out HJ.out HS.out Hn.out hx hy (hEW.cell k0) (hEW.cell KI.out) (hEW.cell KJ.out) k2 k3)).mono ?_
  rintro e w2 ⟨rfl, hE2⟩
  go_wp2
  go_ret
  exact ⟨rfl, hEW.trans hE2⟩

set_option maxRecDepth 100000 in
set_option maxHeartbeats 3200000 in
theorem implQua (a : Option Addr) (n c : Nat) (p : List (List Int)) (w : World) (hp : RdR w a n c p) (_ : p.length + tot p ≤ 1048576) :
    Calls Try.prog 17 #[.slice a n c] w fun e w' => e = .returned (.bool (quaB p)) ∧ Ext w w' := by
  have hmf : ∀ (fn : Fn) (first cap : Array Value) (w : World), (Instr.makeFunc fn first cap).run Try.prog w = .ok (.func fn first cap) w := fun _ _ _ _ => rfl
  have hb1 := hp.le
  have hb2 := hp.max
  have Hl := Lib.hid hp.len
  have hE0 : Ext w (w.alloc (.cells #[.slice a n c] 22)) := (Ext.refl w).alloc _
  have k0 : (w.alloc (.cells #[.slice a n c] 22)).cell? ⟨w.heap.size, 0, none⟩ = some (.slice a n c) := (World.cell?_alloc_at _ _ _ _ rfl).trans rfl
  have K0 := Lib.hid k0
  have HE0 := Lib.hid hE0
  clear k0 hE0
  go_enter Try.func17, Try.ntmps17
  go_wp2_with fail
  refine (validSquare_any _ _ _ p _ (hp.ext HE0.out)).mono ?_
  rintro e w2 ⟨rfl, hE1⟩
  have hE := HE0.out.trans hE1
  rcases pbc (SqOk p) with ⟨hb, Hp⟩ | ⟨hb, Hp⟩
  · rw [hb]
    have hrng := Hp.out.rng Hl.out
    have hn : n ≤ 10 := hrng.2.1
    have Hr := Lib.hid hrng.1
    have k2 := hE1.cell K0.out
    have Hbb := Lib.hid hb
    clear hrng hb
    go_wp2_with fail
    refine (sizeR_any _ _ _ _).mono ?_
    rintro e w2' ⟨rfl, rfl⟩
    go_wp2_with fail
    refine (emptySquare_any n _ (by omega)).mono ?_
    rintro e w4 ⟨aI, nI, cI, rI, rfl, hI0, hE4⟩
    obtain rfl : n = nI := by have := hI0.len; rwa [mat_length, eq_comm] at this
    have fpI : ∀ g, OwnR.fp aI rI g → g < w4.heap.size := fun g hg => (hI0.lt hg).2
    have hbI := hI0.top.le
    go_wp2_with fail
    refine (emptySquare_any n _ (by omega)).mono ?_
    rintro e w5 ⟨aJ, nJ, cJ, rJ, rfl, hJ0, hE5⟩
    obtain rfl : n = nJ := by have := hJ0.len; rwa [mat_length, eq_comm] at this
    have fpJ : ∀ g, OwnR.fp aJ rJ g → w4.heap.size ≤ g ∧ g < w5.heap.size := fun g hg => hJ0.lt hg
    have hbJ := hJ0.top.le
    have hI1 := hI0.ext hE5
    have hs45 := hE5.size
    have hs24 := hE4.size
    have k5 := (hE4.trans hE5).cell k2
    have K2 := Lib.hid k2
    have lt5 := World.block_lt_of_cell? _ _ k5
    have lt5n := Nat.ne_of_lt lt5
    dsimp only at lt5 lt5n
    have HEw : Hid (Ext w2 w5) := Lib.hid (hE4.trans hE5)
    clear hI0 k2
    go_wp2
    go_loopg [21] n (fun gh i wr => ∃ (k : Nat) (I J : List (List Int)), k ≤ n ∧ gh = n - k ∧ i = .int .i64 k ∧ OwnR wr w2.heap.size aI n cI I rI ∧ OwnR wr w4.heap.size aJ n cJ J rJ ∧ Hid (TabTo p I J n k 0) ∧
      wr.cell? ⟨w5.heap.size, 0, none⟩ = some (.slice aI n cI) ∧ wr.cell? ⟨w5.heap.size + 1, 0, none⟩ = some (.slice aJ n cJ) ∧ Ext w2 wr)
    case atStart =>
      exact ⟨0, _, _, Nat.zero_le _, rfl, rfl, (hI1.ext ((Ext.refl _).alloc _)).ext ((Ext.refl _).alloc _), (hJ0.ext ((Ext.refl _).alloc _)).ext ((Ext.refl _).alloc _), tab_start p hn,
        (World.cell?_alloc_past _ _ _ (by simp)).trans ((World.cell?_alloc_at _ _ _ _ rfl).trans rfl), (World.cell?_alloc_at _ _ _ _ (by simp)).trans rfl, (HEw.out.alloc _).alloc _⟩
    case round =>
      obtain ⟨x, I0, J0, hx, rfl, rfl, hI, hJ, HT, kI, kJ, hEx⟩ := hrel
      clear hI1 hJ0 k5 lt5 lt5n
      by_cases hxn : x < n
      · have hz1 : (x : Int) < (n : Int) := by omega
        obtain ⟨b, o, ai, ci, rfl, hc, hrow⟩ := hp.row Hr.out hxn
        have hc1 := hE.cell hc
        have hc2 := hEx.cell hc1
        clear hc hc1
        go_wp2
        clear hc2
        go_loopg [28] n (fun gh i wr => ∃ (k : Nat) (I J : List (List Int)), k ≤ n ∧ gh = n - k ∧ i = .int .i64 k ∧ OwnR wr w2.heap.size aI n cI I rI ∧ OwnR wr w4.heap.size aJ n cJ J rJ ∧ Hid (TabTo p I J n x k) ∧
          wr.cell? ⟨w5.heap.size, 0, none⟩ = some (.slice aI n cI) ∧ wr.cell? ⟨w5.heap.size + 1, 0, none⟩ = some (.slice aJ n cJ) ∧ Ext w2 wr)
        case atStart => exact ⟨0, I0, J0, Nat.zero_le _, rfl, rfl, hI, hJ, HT, kI, kJ, hEx⟩
        case round =>
          clear hI hJ HT kI kJ hEx
          obtain ⟨y, I, J, hy, rfl, rfl, hI, hJ, HT, kI, kJ, hEx⟩ := hrel
          by_cases hyn : y < n
          · have hz2 : (y : Int) < (n : Int) := by omega
            obtain ⟨v, hv, hvn⟩ : ∃ v : Nat, at2 p x y = v ∧ v < n := by
              have := Hp.out.lt (x := x) (y := y) (by rw [← Hl.out]; exact hxn) (by rw [← Hl.out]; exact hyn)
              have := Hl.out
              exact ⟨(at2 p x y).toNat, by omega, by omega⟩
            obtain ⟨b1, o1, rfl, q1⟩ := hrow.cell2 hyn
            rw [hv] at q1
            have q2 := (hE.trans hEx).cell q1
            have hT := tab_step Hp.out Hl.out HT.out hxn hyn
            rw [hv, Int.toNat_natCast] at hT
            obtain ⟨gi_, gg, d, rfl, a1, _, a2, a3, a4, a5⟩ := hI.cellAtF HT.out.1.1 hxn hvn
            have hf1 := fpI _ a4
            obtain ⟨gj, gg', d', rfl, c1, _, _, _, c4, _⟩ := hJ.cellAtF HT.out.2.1.1 hyn hvn
            have hf2 := fpJ _ c4
            have hJ1 := hJ.setOther (p := ⟨gg, v, none⟩) (fun h => by have := (fpJ _ h).1; dsimp only at this; omega) (.int .i64 (y : Int))
            obtain ⟨gj', gg2, d2, hh, c6, _, c2, c3, c7, c5⟩ := hJ1.cellAtF HT.out.2.1.1 hyn hvn
            cases hh
            have hgg : gg2 = gg' := by
              have h1 : (wr.setCell ⟨gg, v, none⟩ (.int .i64 (y : Int))).cell? ⟨gj, y, none⟩ = wr.cell? ⟨gj, y, none⟩ := World.cell?_setCell_far _ _ _ _ (by
                have := (fpJ gj (.inl rfl)).1
                show gg ≠ gj
                omega)
              rw [h1, c1] at c6
              cases c6
              rfl
            subst hgg
            have hI2 := (a5 (y : Int)).setOther (p := ⟨gg2, v, none⟩) (fun h => by have := fpI _ h; dsimp only at this; omega) (.int .i64 (x : Int))
            have hJ2 := c5 (x : Int)
            have kI2 : ((wr.setCell ⟨gg, v, none⟩ (.int .i64 (y : Int))).setCell ⟨gg2, v, none⟩ (.int .i64 (x : Int))).cell? ⟨w5.heap.size, 0, none⟩ = some (.slice (some ⟨gi_, 0, none⟩) n cI) := by
              rw [World.cell?_setCell_far _ _ _ _ (by show gg2 ≠ w5.heap.size; omega), World.cell?_setCell_far _ _ _ _ (by show gg ≠ w5.heap.size; omega)]; exact kI
            have kJ2 : ((wr.setCell ⟨gg, v, none⟩ (.int .i64 (y : Int))).setCell ⟨gg2, v, none⟩ (.int .i64 (x : Int))).cell? ⟨w5.heap.size + 1, 0, none⟩ = some (.slice (some ⟨gj, 0, none⟩) n cJ) := by
              rw [World.cell?_setCell_far _ _ _ _ (by show gg2 ≠ w5.heap.size + 1; omega), World.cell?_setCell_far _ _ _ _ (by show gg ≠ w5.heap.size + 1; omega)]; exact kJ
            have hE2 := (hEx.setCell (p := ⟨gg, v, none⟩) (hI.lt a4).1 (.int .i64 (y : Int))).setCell (p := ⟨gg2, v, none⟩) (by show w2.heap.size ≤ gg2; omega) (.int .i64 (x : Int))
            have i3 : (v : Int) < (n : Int) := by omega
            have HT2 := Lib.hid hT
            have A4 := Lib.hid a4
            have C4 := Lib.hid c4
            clear hI hJ hJ1 a5 c5 hT hv q1 hEx HT a4 c4 c7 c6
            go_wp2_with fail
            go_region
            go_wp2
            go_roundg (n - (y + 1))
            case measure => go_light; omega
            case rel => go_light; exact ⟨y + 1, _, _, by omega, rfl, by go_num, hI2.ext ((Ext.refl _).drew), hJ2.ext ((Ext.refl _).drew), HT2, ((Ext.refl _).drew).cell kI2, ((Ext.refl _).drew).cell kJ2, hE2.drew⟩
          · have hz2 : ¬ (y : Int) < (n : Int) := by omega
            obtain rfl : n = y := by omega
            go_wp2
            go_roundg (n - (x + 1))
            case measure => go_light; omega
            case rel => go_light; exact ⟨x + 1, I, J, by omega, rfl, by go_num, hI, hJ, Lib.hid (tab_row HT.out), kI, kJ, hEx⟩
      · have hz1 : ¬ (x : Int) < (n : Int) := by omega
        obtain rfl : n = x := by omega
        obtain ⟨tI, tJ⟩ := tab_done HT.out
        have TI := Lib.hid tI
        have TJ := Lib.hid tJ
        have k6 := hEx.cell K2.out
        have hRI := hI.rd
        have hRJ := hJ.rd
        clear tI tJ hI hJ
        go_wp2_with fail
        refine (forPairs_any _ n _ _ _ (fun r s => pb (All2 n fun x y => pb (AllN n fun u => qi p I0 J0 r s x y u))) _ (by omega) (enters_of Try.func58 (by kernel_rfl) (by kernel_rfl)) (quaOut _ n _ p _ _ I0 _ _ J0 _ _ _ wr (hp.ext (hE.trans hEx)) hRI hRJ TI.out TJ.out Hp.out Hl.out k6 kI kJ)).mono ?_
        rintro e w6 ⟨rfl, hE7⟩
        go_wp2
        go_ret
        refine ⟨ret_bool ?_, (hE.trans hEx).trans hE7⟩
        show pb (QI p I0 J0 n) = quaB p
        rw [quaB]
        refine pb_congr ((qi_iff TI.out TJ.out Hp.out Hl.out).trans ?_)
        rw [← Hl.out]
        exact ⟨fun h => ⟨Hp.out, h⟩, fun h => h.2⟩
  · rw [hb]
    go_wp2
    go_ret
    exact ⟨ret_npb (fun h => Hp.out h.1), hE⟩
end Go.Proofs.Ytkapkieeafhaoaa
