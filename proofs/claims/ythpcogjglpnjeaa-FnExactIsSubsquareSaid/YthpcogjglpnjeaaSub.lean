/- IsSubsquare of both. Conditions: none. -/
import Derived.Test.YthpcogjglpnjeaaSubP
import Derived.Test.YthpcogjglpnjeaaPut
import Derived.Test.YthpcogjglpnjeaaVSet
import Derived.Test.YthpcogjglpnjeaaRis
import Derived.Test.YthpcogjglpnjeaaSl
import Derived.Test.YthpcogjglpnjeaaSqS
import Derived.Test.YthpcogjglpnjeaaSqI
import Derived.Test.YthpcogjglpnjeaaSz
namespace Go.Proofs.Ythpcogjglpnjeaa
open Go.RowKit

set_option maxRecDepth 100000 in
set_option maxHeartbeats 3200000 in
theorem specSub (a : Option Addr) (n c : Nat) (p : List (List Int)) (ar : Option Addr) (k1 cr : Nat) (rs : List Int) (ac : Option Addr) (k2 cc : Nat) (cs : List Int) (w : World) (hp : RdR w a n c p) (_ : p.length + tot p ≤ 1048576) (hr : RdI w ar k1 cr rs) (_ : k1 ≤ 1048576) (hc : RdI w ac k2 cc cs) (_ : k2 ≤ 1048576) :
    Calls Try.prog 31 #[.slice a n c, .slice ar k1 cr, .slice ac k2 cc] w fun e w' => e = .returned (.bool (pb (SubOk p rs cs))) ∧ Ext w w' := by
  have hb1 := hp.le
  have hb2 := hp.max
  have hb3 := hr.le
  have hb4 := hr.max
  have hb5 := hc.le
  have hb6 := hc.max
  have Hl := Lib.hid hp.len
  have Hk1 := Lib.hid hr.len
  have Hk2 := Lib.hid hc.len
  go_enter Try.func31, Try.ntmps31
  go_wp2_with fail
  refine (l06Ok_any _ _ _ p _ hp).mono ?_
  rintro e w2 ⟨rfl, hE⟩
  rcases pbc (SqOk p) with ⟨hb, Hp⟩ | ⟨hb, Hp⟩
  · rw [hb]
    obtain ⟨hn1, hn, hrc⟩ := Hp.out.dims Hl.out
    have Hrc := Lib.hid hrc
    clear hrc
    go_wp2_with fail
    refine (l00Rises_any _ _ _ rs _ _ _ (hr.ext hE)).mono ?_
    rintro e w3 ⟨rfl, hQ3⟩
    have hE3 := hE.trans hQ3.ext
    rcases pbc (Rises rs 0 ((n : Int) - 1)) with ⟨hb', HR⟩ | ⟨hb', HR⟩
    · rw [hb']
      go_wp2_with fail
      refine (l00Rises_any _ _ _ cs _ _ _ (hc.ext hE3)).mono ?_
      rintro e w4 ⟨rfl, hQ4⟩
      have hE4 := hE3.trans hQ4.ext
      rcases pbc (Rises cs 0 ((n : Int) - 1)) with ⟨hb2', HC⟩ | ⟨hb2', HC⟩
      · rw [hb2']
        have hk1n : k1 ≤ n := by rw [Hk1.out]; exact HR.out.len_le
        have hk2n : k2 ≤ n := by rw [Hk2.out]; exact HC.out.len_le
        by_cases hkk : k1 = k2
        · subst hkk
          have hne : ((k1 : Int) != (k1 : Int)) = false := by simp
          by_cases hz0 : k1 = 0
          · have he0 : ((k1 : Int) == 0) = true := by simp [hz0]
            have Hz0 := Lib.hid hz0
            clear hz0
            go_wp2
            go_ret
            exact ⟨ret_npb (fun h => h.2.2.2.2.1 (by rw [← Hk1.out]; exact Hz0.out)), hE4⟩
          · have he0 : ((k1 : Int) == 0) = false := by simp; omega
            go_wp2
            have H0 := Own.empty 2 (Value.int .i64) w4
            go_loopg [8, 9] k1 (fun gh sy i wr => ∃ (k m : Nat) (ad : Option Addr) (d : Nat), k ≤ k1 ∧ m ≤ 11 * k ∧ gh = k1 - k ∧ i = .int .i64 k ∧ sy = .slice ad m d ∧ OwnI wr w4.heap.size ad m d (puts (vis p rs cs k1 k 0)) ∧ Ext w4 wr)
            case atStart => exact ⟨0, 0, _, 0, Nat.zero_le _, Nat.zero_le _, rfl, rfl, rfl, H0, (Ext.refl _).alloc _⟩
            case round =>
              obtain ⟨k, m, ad, d, hk, hm, rfl, rfl, rfl, hO, hEk⟩ := hrel
              clear H0
              by_cases hlt : k < k1
              · have hz : (k : Int) < (k1 : Int) := by omega
                go_wp2
                go_loopg [8, 10] k1 (fun gh sy i wr => ∃ (y m : Nat) (ad : Option Addr) (d : Nat), y ≤ k1 ∧ m ≤ 11 * k + y ∧ gh = k1 - y ∧ i = .int .i64 y ∧ sy = .slice ad m d ∧ OwnI wr w4.heap.size ad m d (puts (vis p rs cs k1 k y)) ∧ Ext w4 wr)
                case atStart => exact ⟨0, m, ad, d, Nat.zero_le _, by omega, rfl, rfl, rfl, hO, hEk⟩
                case round =>
                  obtain ⟨y, m2, ad2, d2, hy, hm2, rfl, rfl, rfl, hO2, hEy⟩ := hrel
                  clear hO hEk
                  by_cases hly : y < k1
                  · have hz2 : (y : Int) < (k1 : Int) := by omega
                    obtain ⟨x1, e1, hx1⟩ := HR.out.at_ (k := k) (by rw [← Hk1.out]; exact hlt)
                    obtain ⟨y1, e2, hy1⟩ := HC.out.at_ (k := y) (by rw [← Hk2.out]; exact hly)
                    have hEw := hE4.trans hEy
                    obtain ⟨b, o, ai, ci, rfl, q1, hrow⟩ := (hp.ext hEw).row Hrc.out hx1
                    obtain ⟨b1, o1, rfl, q2⟩ := hrow.cell2 hy1
                    obtain ⟨b2, o2, rfl, q3⟩ := (hr.ext hEw).gi hlt
                    obtain ⟨b3, o3, rfl, q4⟩ := (hc.ext hEw).gi hly
                    rw [e1] at q3
                    rw [e2] at q4
                    have i1 : (x1 : Int) < (n : Int) := by omega
                    have i2 : (y1 : Int) < (n : Int) := by omega
                    have i3 : (0 : Int) ≤ (x1 : Int) := by omega
                    have i4 : (0 : Int) ≤ (y1 : Int) := by omega
                    have hv : Hid (puts (vis p rs cs k1 k (y + 1)) = put (puts (vis p rs cs k1 k y)) (at2 p x1 y1)) := Lib.hid (by rw [vis_succ, puts_snoc, e1, e2]; rfl)
                    have hRd := hO2.rdI
                    have hrow_ := hrow.le
                    clear e1 e2 hrow
                    go_wp2_with fail
                    go_region_held3 (fun w' => w'.cell? ⟨b, o + x1, none⟩ = some (.slice (some ⟨b1, o1, none⟩) n ci) ∧ w'.cell? ⟨b1, o1 + y1, none⟩ = some (.int .i64 (at2 p x1 y1)) ∧ w'.cell? ⟨b2, o2 + k, none⟩ = some (.int .i64 (x1 : Int)) ∧ w'.cell? ⟨b3, o3 + y, none⟩ = some (.int .i64 (y1 : Int)))
                      (first | exact ⟨q1, q2, q3, q4⟩ | exact ⟨Ext.cell ((Ext.refl _).drew) q1, Ext.cell ((Ext.refl _).drew) q2, Ext.cell ((Ext.refl _).drew) q3, Ext.cell ((Ext.refl _).drew) q4⟩ | exact ⟨Ext.cell (Ext.trans ((Ext.refl _).drew) hE9) q1, Ext.cell (Ext.trans ((Ext.refl _).drew) hE9) q2, Ext.cell (Ext.trans ((Ext.refl _).drew) hE9) q3, Ext.cell (Ext.trans ((Ext.refl _).drew) hE9) q4⟩)
                      ((go_at_call 59; refine (l00Put_any _ _ _ _ _ _ (RdI.ext hRd ((Ext.refl _).drew)) (by omega)).mono ?_; rintro e w9 ⟨a9, n9, c9, rfl, hO9, hE9⟩))
                    have hl9 := hO9.len
                    have hl8 := put_length (puts (vis p rs cs k1 k y)) (at2 p x1 y1)
                    rw [← hl9, ← hO2.len] at hl8
                    have hEE := hEy.trans (Ext.trans ((Ext.refl _).drew) hE9)
                    have hO3 := hO9.base (show w4.heap.size ≤ _ from (hEy.trans ((Ext.refl _).drew)).size)
                    rw [← hv.out] at hO3
                    clear hO9 hl9 hE9 hEy hO2 hRd q1 q2 q3 q4 hEw
                    go_wp2
                    go_roundg (k1 - (y + 1))
                    case measure => go_light; omega
                    case rel => go_light; exact ⟨y + 1, n9, a9, c9, by omega, by omega, rfl, by go_num, rfl, hO3, hEE⟩
                  · have hz2 : ¬ (y : Int) < (k1 : Int) := by omega
                    obtain rfl : k1 = y := by omega
                    rw [← vis_row] at hO2
                    go_wp2
                    go_roundg (k1 - (k + 1))
                    case measure => go_light; omega
                    case rel => go_light; exact ⟨k + 1, m2, ad2, d2, by omega, by omega, rfl, by go_num, rfl, hO2, hEy⟩
              · have hz : ¬ (k : Int) < (k1 : Int) := by omega
                obtain rfl : k1 = k := by omega
                have hlen := Lib.hid hO.len
                by_cases hmk : m = k1
                · have hme : ((m : Int) == (k1 : Int)) = true := by simp [hmk]
                  have Hmk := Lib.hid hmk
                  clear hmk
                  go_wp2
                  go_ret
                  exact ⟨ret_pb ⟨Hp.out, by rw [← Hl.out]; exact HR.out, by rw [← Hl.out]; exact HC.out, by rw [← Hk1.out, ← Hk2.out], by rw [← Hk1.out]; exact hz0, by rw [← Hk1.out, ← Hk2.out, ← hlen.out]; exact Hmk.out⟩, hE4.trans hEk⟩
                · have hme : ((m : Int) == (k1 : Int)) = false := by simp; omega
                  have Hmk := Lib.hid hmk
                  clear hmk
                  go_wp2
                  go_ret
                  exact ⟨ret_npb (fun h => Hmk.out (by have := h.2.2.2.2.2; rwa [← Hk1.out, ← Hk2.out, ← hlen.out] at this)), hE4.trans hEk⟩
        · have hne : ((k1 : Int) != (k2 : Int)) = true := by simp; omega
          have Hne := Lib.hid hkk
          clear hkk
          go_wp2
          go_ret
          exact ⟨ret_npb (fun h => Hne.out (by rw [Hk1.out, Hk2.out]; exact h.2.2.2.1)), hE4⟩
      · rw [hb2']
        go_wp2
        go_ret
        exact ⟨ret_npb (fun h => HC.out (by rw [Hl.out]; exact h.2.2.1)), hE4⟩
    · rw [hb']
      go_wp2
      go_ret
      exact ⟨ret_npb (fun h => HR.out (by rw [Hl.out]; exact h.2.1)), hE3⟩
  · rw [hb]
    go_wp2
    go_ret
    exact ⟨ret_npb (fun h => Hp.out h.1), hE⟩

theorem setOk_rises {xs : List Int} {n : Nat} (hn : n ≤ 10) : SetOk xs n ↔ Rises xs 0 ((n : Int) - 1) := ⟨fun h => h.2, fun h => ⟨by omega, h⟩⟩

theorem key_int (v : Int) (h1 : -9223372036854775808 ≤ v) (h2 : v ≤ 9223372036854775807) : keyOf Try.prog 2 (.int .i64 v) = some (.int .i64 v) :=
  Go.Maps.keyOf_int_mk Try.underlying2 (WalkArith.wf_i64 ⟨h1, h2⟩)

set_option maxRecDepth 100000 in
set_option maxHeartbeats 3200000 in
theorem implSub (a : Option Addr) (n c : Nat) (p : List (List Int)) (ar : Option Addr) (k1 cr : Nat) (rs : List Int) (ac : Option Addr) (k2 cc : Nat) (cs : List Int) (w : World) (hp : RdR w a n c p) (_ : p.length + tot p ≤ 1048576) (hr : RdI w ar k1 cr rs) (_ : k1 ≤ 1048576) (hc : RdI w ac k2 cc cs) (_ : k2 ≤ 1048576) :
    Calls Try.prog 32 #[.slice a n c, .slice ar k1 cr, .slice ac k2 cc] w fun e w' => e = .returned (.bool (pb (SubOk p rs cs))) ∧ Ext w w' := by
  have hmm := @run_makeMap Try.prog
  have hb1 := hp.le
  have hb2 := hp.max
  have hb3 := hr.le
  have hb4 := hr.max
  have hb5 := hc.le
  have hb6 := hc.max
  have Hl := Lib.hid hp.len
  have Hk1 := Lib.hid hr.len
  have Hk2 := Lib.hid hc.len
  go_enter Try.func32, Try.ntmps32
  go_wp2_with fail
  refine (validSquare_any _ _ _ p _ hp).mono ?_
  rintro e w2 ⟨rfl, hE⟩
  rcases pbc (SqOk p) with ⟨hb, Hp⟩ | ⟨hb, Hp⟩
  · rw [hb]
    obtain ⟨hn1, hn, hrc⟩ := Hp.out.dims Hl.out
    have Hrc := Lib.hid hrc
    clear hrc
    go_wp2_with fail
    refine (sizeR_any _ _ _ _).mono ?_
    rintro e w3 ⟨rfl, rfl⟩
    go_wp2_with fail
    refine (validSet_any _ _ _ rs _ _ (hr.ext hE)).mono ?_
    rintro e w3 ⟨rfl, rfl⟩
    rw [pb_congr (setOk_rises hn)]
    rcases pbc (Rises rs 0 ((n : Int) - 1)) with ⟨hb', HR⟩ | ⟨hb', HR⟩
    · rw [hb']
      go_wp2_with fail
      refine (sizeR_any _ _ _ _).mono ?_
      rintro e w3 ⟨rfl, rfl⟩
      go_wp2_with fail
      refine (validSet_any _ _ _ cs _ _ (hc.ext hE)).mono ?_
      rintro e w3 ⟨rfl, rfl⟩
      rw [pb_congr (setOk_rises hn)]
      rcases pbc (Rises cs 0 ((n : Int) - 1)) with ⟨hb2', HC⟩ | ⟨hb2', HC⟩
      · rw [hb2']
        have hk1n : k1 ≤ n := by rw [Hk1.out]; exact HR.out.len_le
        have hk2n : k2 ≤ n := by rw [Hk2.out]; exact HC.out.len_le
        by_cases hkk : k1 = k2
        · subst hkk
          have hne : ((k1 : Int) != (k1 : Int)) = false := by simp
          by_cases hz0 : k1 = 0
          · have he0 : ((k1 : Int) == 0) = true := by simp [hz0]
            have Hz0 := Lib.hid hz0
            clear hz0
            go_wp2
            go_ret
            exact ⟨ret_npb (fun h => h.2.2.2.2.1 (by rw [← Hk1.out]; exact Hz0.out)), hE⟩
          · have he0 : ((k1 : Int) == 0) = false := by simp; omega
            have H0 := World.ownsMap_made w2 Try.prog 2 (plainElem (H := Unit) Try.prog 4)
            rw [show (DataW.map [] : DataW Unit) = Maps.setOf (.lit (.bool true)) (keysI (vis p rs cs k1 0 0)) from rfl] at H0
            have law : Go.Maps.Keyed Try.prog 2 := Go.Maps.int_keyed Try.underlying2
            go_wp2
            go_loopg [44] k1 (fun gh i wr => ∃ (k cnt : Nat), k ≤ k1 ∧ cnt ≤ 11 * k ∧ gh = k1 - k ∧ i = .int .i64 k ∧ wr.ownsMap Try.prog 2 (plainElem (H := Unit) Try.prog 4) w2.heap.size cnt (Maps.setOf (.lit (.bool true)) (keysI (vis p rs cs k1 k 0))) ∧ Ext w2 wr)
            case atStart => exact ⟨0, 0, Nat.zero_le _, Nat.zero_le _, rfl, rfl, H0, (Ext.refl _).alloc _⟩
            case round =>
              obtain ⟨k, cnt, hk, hcnt, rfl, rfl, hM, hEk⟩ := hrel
              clear H0
              by_cases hlt : k < k1
              · have hz : (k : Int) < (k1 : Int) := by omega
                obtain ⟨x1, e1, hx1⟩ := HR.out.at_ (k := k) (by rw [← Hk1.out]; exact hlt)
                obtain ⟨b2, o2, rfl, q3⟩ := (hr.ext (hE.trans hEk)).gi hlt
                rw [e1] at q3
                have E1 := Lib.hid e1
                clear e1
                go_wp2
                go_loopg [50] k1 (fun gh i wr => ∃ (y cnt : Nat), y ≤ k1 ∧ cnt ≤ 11 * k + y ∧ gh = k1 - y ∧ i = .int .i64 y ∧ wr.ownsMap Try.prog 2 (plainElem (H := Unit) Try.prog 4) w2.heap.size cnt (Maps.setOf (.lit (.bool true)) (keysI (vis p rs cs k1 k y))) ∧ Ext w2 wr)
                case atStart => exact ⟨0, cnt, Nat.zero_le _, by omega, rfl, rfl, hM, hEk⟩
                case round =>
                  obtain ⟨y, cnt2, hy, hcnt2, rfl, rfl, hM2, hEy⟩ := hrel
                  clear hM hEk q3
                  by_cases hly : y < k1
                  · have hz2 : (y : Int) < (k1 : Int) := by omega
                    obtain ⟨y1, e2, hy1⟩ := HC.out.at_ (k := y) (by rw [← Hk2.out]; exact hly)
                    have hEw := hE.trans hEy
                    obtain ⟨b, o, ai, ci, rfl, q1, hrow⟩ := (hp.ext hEw).row Hrc.out hx1
                    obtain ⟨b1, o1, rfl, q2⟩ := hrow.cell2 hy1
                    obtain ⟨b3, o3, rfl, q4⟩ := (hc.ext hEw).gi hly
                    rw [e2] at q4
                    have i1 : (x1 : Int) < (n : Int) := by omega
                    have i2 : (y1 : Int) < (n : Int) := by omega
                    have i3 : (0 : Int) ≤ (x1 : Int) := by omega
                    have i4 : (0 : Int) ≤ (y1 : Int) := by omega
                    have hv : Hid (Maps.setOf (.lit (.bool true)) (keysI (vis p rs cs k1 k (y + 1))) = (Maps.setOf (.lit (.bool true)) (keysI (vis p rs cs k1 k y))).put (.int .i64 (at2 p x1 y1)) (.lit (.bool true) : DataW Unit)) := Lib.hid (by
                      rw [vis_succ, keysI, List.map_append, List.map_singleton, Maps.setOf_snoc, E1.out, e2]; rfl)
                    have hlt2 := Hp.out.lt (x := x1) (y := y1) (by rw [← Hl.out]; exact hx1) (by rw [← Hl.out]; exact hy1)
                    have hkey := key_int (at2 p x1 y1) (by omega) (by have := hlt2.2; have := Hl.out; omega)
                    clear e2 hrow hlt2
                    go_wp2_with (first | (at_mapUpdate; refine wpList_mapUpdate_own _ rfl _ _ _ 53 rfl 2 4 law Try.underlying53 (plainElem (H := Unit) Try.prog 4) w2.heap.size cnt2 _ rfl hM2 (by unfold maxLen; omega) _ _ _ rfl rfl hkey _ [] (plainElem_bool Try.underlying4 true) ?_; intro w1 hown1 hgrow1) | go_in)
                    rw [← hv.out] at hown1
                    have hE3 := hEy.grown hgrow1 (fun j hj => by cases hj; exact Nat.le_refl _)
                    go_roundg (k1 - (y + 1))
                    case measure => go_light; omega
                    case rel => go_light; exact ⟨y + 1, cnt2 + 1, by omega, by omega, rfl, by go_num, hown1, hE3⟩
                  · have hz2 : ¬ (y : Int) < (k1 : Int) := by omega
                    obtain rfl : k1 = y := by omega
                    rw [← vis_row] at hM2
                    go_wp2
                    go_roundg (k1 - (k + 1))
                    case measure => go_light; omega
                    case rel => go_light; exact ⟨k + 1, cnt2, by omega, by omega, rfl, by go_num, hM2, hEy⟩
              · have hz : ¬ (k : Int) < (k1 : Int) := by omega
                obtain rfl : k1 = k := by omega
                obtain ⟨m, hm⟩ : ∃ m, (puts (vis p rs cs k1 k1 0)).length = m := ⟨_, rfl⟩
                have hlen : Hid (Maps.size (Maps.setOf (.lit (.bool true) : DataW Unit) (keysI (vis p rs cs k1 k1 0))) = m) := Lib.hid (by rw [size_keysI, hm])
                have Hm := Lib.hid hm
                clear hm
                by_cases hmk : m = k1
                · have hme : ((m : Int) == (k1 : Int)) = true := by simp [hmk]
                  have Hmk := Lib.hid hmk
                  clear hmk
                  go_wp2_with (first | (at_len; refine wpList_len_own _ rfl _ 53 rfl 2 4 Try.underlying53 _ w2.heap.size cnt _ rfl hM ?_; rw [hlen.out]) | go_in)
                  go_ret
                  exact ⟨ret_pb ⟨Hp.out, by rw [← Hl.out]; exact HR.out, by rw [← Hl.out]; exact HC.out, by rw [← Hk1.out, ← Hk2.out], by rw [← Hk1.out]; exact hz0, by rw [← Hk1.out, ← Hk2.out, Hm.out]; exact Hmk.out⟩, hE.trans hEk⟩
                · have hme : ((m : Int) == (k1 : Int)) = false := by simp; omega
                  have Hmk := Lib.hid hmk
                  clear hmk
                  go_wp2_with (first | (at_len; refine wpList_len_own _ rfl _ 53 rfl 2 4 Try.underlying53 _ w2.heap.size cnt _ rfl hM ?_; rw [hlen.out]) | go_in)
                  go_ret
                  exact ⟨ret_npb (fun h => Hmk.out (by have := h.2.2.2.2.2; rwa [← Hk1.out, ← Hk2.out, Hm.out] at this)), hE.trans hEk⟩
        · have hne : ((k1 : Int) != (k2 : Int)) = true := by simp; omega
          have Hne := Lib.hid hkk
          clear hkk
          go_wp2
          go_ret
          exact ⟨ret_npb (fun h => Hne.out (by rw [Hk1.out, Hk2.out]; exact h.2.2.2.1)), hE⟩
      · rw [hb2']
        go_wp2
        go_ret
        exact ⟨ret_npb (fun h => HC.out (by rw [Hl.out]; exact h.2.2.1)), hE⟩
    · rw [hb']
      go_wp2
      go_ret
      exact ⟨ret_npb (fun h => HR.out (by rw [Hl.out]; exact h.2.1)), hE⟩
  · rw [hb]
    go_wp2
    go_ret
    exact ⟨ret_npb (fun h => Hp.out h.1), hE⟩
end Go.Proofs.Ythpcogjglpnjeaa
