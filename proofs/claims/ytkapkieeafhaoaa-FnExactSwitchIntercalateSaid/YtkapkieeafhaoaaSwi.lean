/- SwitchIntercalate of both. Conditions: none. -/
import Derived.Test.YtkapkieeafhaoaaSwiP
import Derived.Test.YtkapkieeafhaoaaSlEqual
import Derived.Test.YtkapkieeafhaoaaOwnL
namespace Go.Proofs.Ytkapkieeafhaoaa
open Go.RowKit

set_option maxRecDepth 100000 in
set_option maxHeartbeats 3200000 in
theorem l08Ic_any (a : Option Addr) (n c : Nat) (p : List (List Int)) (a' : Option Addr) (n' c' : Nat) (xs : List Int) (w : World) (hp : RdR w a n c p) (hr : Rect p n n) (hn : n ≤ 10) (hq : RdI w a' n' c' xs) :
    Calls Try.prog 80 #[.slice a n c, .slice a' n' c'] w fun e w' => e = .returned (.bool (pb (IcQ p n xs))) ∧ Q w w' := by
  have hb1 := hp.le
  have hb2 := hp.max
  have hb3 := hq.le
  have hb4 := hq.max
  have Hq := Lib.hid hq.len
  by_cases h4 : n' = 4
  · subst h4
    have hr1 := hq.cut (m := 2) (by omega)
    obtain ⟨g, o, rfl, q0⟩ := hq.gi (k := 0) (by omega)
    obtain ⟨g', o', hh, q1⟩ := hq.gi (k := 1) (by omega)
    cases hh
    obtain ⟨g', o', hh, q2⟩ := hq.gi (k := 2) (by omega)
    cases hh
    obtain ⟨g', o', hh, q3⟩ := hq.gi (k := 3) (by omega)
    cases hh
    rw [Nat.add_zero] at q0
    have hr2 := Rd.from_ hq (m := 2) (by omega)
    have Hr := Lib.hid hr
    clear hr hq
    go_enter Try.func80, Try.ntmps80
    go_wp2_with fail
    refine (l00Rises_any _ _ _ _ _ _ _ hr1).mono ?_
    rintro e w2 ⟨rfl, hQ1⟩
    rcases pbc (Rises (xs.take 2) 0 ((n : Int) - 1)) with ⟨e1, E1⟩ | ⟨e1, E1⟩
    · rw [e1]
      go_wp2_with fail
      refine (l00Rises_any _ _ _ _ _ _ _ (hr2.ext lastsI hQ1.ext)).mono ?_
      rintro e w3 ⟨rfl, hQ2⟩
      rcases pbc (Rises (xs.drop 2) 0 ((n : Int) - 1)) with ⟨e2, E2⟩ | ⟨e2, E2⟩
      · rw [e2]
        obtain ⟨r, s, x, y, hxs, g1, g2, g3, g4⟩ := four_of Hq.out.symm E1.out E2.out
        have hQ := hQ1.trans hQ2
        rw [show gi xs 0 = (r : Int) by rw [hxs]; rfl] at q0
        rw [show gi xs 1 = (s : Int) by rw [hxs]; rfl] at q1
        rw [show gi xs 2 = (x : Int) by rw [hxs]; rfl] at q2
        rw [show gi xs 3 = (y : Int) by rw [hxs]; rfl] at q3
        replace q0 := hQ.ext.cell q0
        replace q1 := hQ.ext.cell q1
        replace q2 := hQ.ext.cell q2
        replace q3 := hQ.ext.cell q3
        obtain ⟨b, o2, b1, o1, c1, b2, o3, c2, rfl, k1, k2, d1, d2, d3, d4⟩ := (hp.ext hQ.ext).four Hr.out (r := r) (s := s) (x := x) (y := y) (by omega) g2 (by omega) g4
        have z1 : (r : Int) < (n : Int) := by omega
        have z2 : (s : Int) < (n : Int) := by omega
        have z3 : (x : Int) < (n : Int) := by omega
        have z4 : (y : Int) < (n : Int) := by omega
        obtain ⟨v1, hv1⟩ : ∃ v, (at2 p r x == at2 p s y) = v := ⟨_, rfl⟩
        obtain ⟨v2, hv2⟩ : ∃ v, (at2 p r y == at2 p s x) = v := ⟨_, rfl⟩
        have ev : pb (IcQ p n xs) = (v1 && v2) := by
          have e : icOk p r s x y = (v1 && v2) := by rw [icOk, hv1, hv2]
          rw [← e]
          by_cases hok : icOk p r s x y = true
          · rw [hok]; exact pb_true ⟨Hq.out.symm, E1.out, E2.out, by rw [hxs]; show icOk p ((r : Int)).toNat ((s : Int)).toNat ((x : Int)).toNat ((y : Int)).toNat = true; simpa using hok⟩
          · rw [Bool.not_eq_true] at hok
            rw [hok]
            refine pb_false (fun h => ?_)
            have := h.2.2.2
            rw [hxs] at this
            have h5 : icOk p ((r : Int)).toNat ((s : Int)).toNat ((x : Int)).toNat ((y : Int)).toNat = true := this
            simp [hok] at h5
        have Ev := Lib.hid ev
        clear ev hxs hr1 hr2 hQ1 hQ2 hp
        cases v1
        · go_wp2_with fail
          go_quiet (fail)
          go_wp2
          go_ret
          exact ⟨ret_bool (by rw [Ev.out]; rfl), hQ.drewN _⟩
        · go_wp2_with fail
          go_quiet (fail)
          go_wp2
          go_ret
          exact ⟨ret_bool (by rw [Ev.out]; simp), hQ.drewN _⟩
      · rw [e2]
        go_wp2
        go_ret
        exact ⟨ret_npb (fun h => E2.out h.2.2.1), hQ1.trans hQ2⟩
    · rw [e1]
      go_wp2
      go_ret
      exact ⟨ret_npb (fun h => E1.out h.2.1), hQ1⟩
  · have hne : ((n' : Int) != 4) = true := by simp; omega
    have H4 := Lib.hid h4
    clear h4
    go_enter Try.func80, Try.ntmps80
    go_wp2
    go_ret
    exact ⟨ret_npb (fun h => H4.out (by rw [Hq.out]; exact h.1)), Q.refl _⟩

set_option maxHeartbeats 800000 in
theorem hasListF (a : Option Addr) (n c : Nat) (xs : List Int) (b1 : Nat) (p : List (List Int)) (w : World) (hx : RdI w a n c xs) (hc1 : w.cell? ⟨b1, 0, none⟩ = some (.slice a n c)) :
    Asks 114 #[.pointer (some ⟨b1, 0, none⟩)] p (fun l => decide (l = xs)) w := by
  intro i l a2 n2 c2 w1 hi hE hl
  have hd1 := hE.cell hc1
  show Calls Try.prog 114 #[.slice a2 n2 c2, .pointer (some ⟨b1, 0, none⟩)] w1 _
  obtain ⟨v, hv⟩ : ∃ v, decide (l = xs) = v := ⟨_, rfl⟩
  dsimp only
  rw [hv]
  have Hv := Lib.hid hv
  clear hv hc1
  go_enter Try.func114, Try.ntmps114
  go_wp2_with fail
  refine (slEqual_any _ _ _ _ _ _ l xs v _ hl (hx.ext hE) Hv.out).mono ?_
  rintro e w4 ⟨rfl, hQ⟩
  go_wp2
  go_ret
  exact ⟨rfl, hQ.ext⟩

set_option maxHeartbeats 800000 in
theorem hasList_any (a : Option Addr) (n c : Nat) (p : List (List Int)) (a' : Option Addr) (n' c' : Nat) (xs : List Int) (w : World) (hp : RdR w a n c p) (hx : RdI w a' n' c' xs) :
    Calls Try.prog 82 #[.slice a n c, .slice a' n' c'] w fun e w' => e = .returned (.bool (pb (xs ∈ p))) ∧ Ext w w' := by
  have hmf : ∀ (fn : Fn) (first cap : Array Value) (w : World), (Instr.makeFunc fn first cap).run Try.prog w = .ok (.func fn first cap) w := fun _ _ _ _ => rfl
  have hany : p.any (fun l => decide (l = xs)) = pb (xs ∈ p) := by
    by_cases h : xs ∈ p
    · rw [pb_true h, List.any_eq_true]; exact ⟨xs, h, by simp⟩
    · rw [pb_false h, List.any_eq_false]; intro l hl; simp; intro e; subst e; exact h hl
  go_enter Try.func82, Try.ntmps82
  go_wp2_with fail
  refine (slContainsFunc_any _ _ _ p _ _ _ _ _ (hp.ext ((Ext.refl w).alloc _)) (enters_of Try.func114 (by kernel_rfl) (by kernel_rfl)) (hasListF a' n' c' xs _ p _ (hx.ext ((Ext.refl w).alloc _)) (by simp)) hany).mono ?_
  rintro e w2 ⟨rfl, hE⟩
  go_wp2
  go_ret
  exact ⟨rfl, Ext.trans ((Ext.refl _).alloc _) hE⟩

set_option maxRecDepth 100000 in
set_option maxHeartbeats 3200000 in
theorem specSwi (a : Option Addr) (n c : Nat) (p : List (List Int)) (a' : Option Addr) (n' c' : Nat) (xs : List Int) (w : World) (hp : RdR w a n c p) (hs : p.length + tot p ≤ 1048576) (hq : RdI w a' n' c' xs) (_ : n' ≤ 1048576) :
    Calls Try.prog 36 #[.slice a n c, .slice a' n' c'] w (RetRC w (swiM p xs) (swiC p xs)) := by
  have hb1 := hp.le
  have hb2 := hp.max
  have hb3 := hq.le
  have hb4 := hq.max
  have Hl := Lib.hid hp.len
  have Hq := Lib.hid hq.len
  go_enter Try.func36, Try.ntmps36
  go_wp2_with fail
  refine (l06Ok_any _ _ _ p _ hp).mono ?_
  rintro e w2 ⟨rfl, hE⟩
  rcases pbc (SqOk p) with ⟨hb, Hp⟩ | ⟨hb, Hp⟩
  · rw [hb]
    obtain ⟨hn1, hn, hrc⟩ := Hp.out.dims Hl.out
    have Hr := Lib.hid hrc
    clear hrc
    go_wp2_with fail
    refine (l08Ic_any _ n _ p _ _ _ xs _ (hp.ext hE) Hr.out hn (hq.ext hE)).mono ?_
    rintro e w3 ⟨rfl, hQ⟩
    have hE3 := hE.trans hQ.ext
    rcases pbc (IcQ p n xs) with ⟨hi, Hi⟩ | ⟨hi, Hi⟩
    · rw [hi]
      have HI : Hid (pb (IcQ p p.length xs) = true) := Lib.hid (by rw [← Hl.out]; exact hi)
      obtain ⟨r, s, x, y, hxs, g1, g2, g3, g4⟩ := four_of Hi.out.1 Hi.out.2.1 Hi.out.2.2.1
      have h4 : n' = 4 := by rw [Hq.out]; exact Hi.out.1
      subst h4
      obtain ⟨g, o, rfl, q0⟩ := hq.gi (k := 0) (by omega)
      obtain ⟨g', o', hh, q1⟩ := hq.gi (k := 1) (by omega)
      cases hh
      rw [Nat.add_zero] at q0
      rw [show gi xs 0 = (r : Int) by rw [hxs]; rfl] at q0
      rw [show gi xs 1 = (s : Int) by rw [hxs]; rfl] at q1
      go_wp2_with fail
      refine (l06Own_any _ _ _ p _ (hp.ext hE3) (by omega)).mono ?_
      rintro e w4 ⟨a4, n4, c4, rs, rfl, hO0, hE4⟩
      obtain rfl : n = n4 := by rw [Hl.out]; exact hO0.len.symm
      have hE5 := hE3.trans hE4
      have d0 := hE5.cell q0
      have d1 := hE5.cell q1
      go_wp2
      clear d0 d1
      go_loopg [9] 2 (fun gh i wr => ∃ (k : Nat) (M : List (List Int)), 2 ≤ k ∧ k ≤ 4 ∧ gh = 4 - k ∧ i = .int .i64 k ∧ OwnR wr w3.heap.size a4 n c4 M rs ∧ Hid (M = (if k = 2 then p else if k = 3 then swStep p p r s x else swM p r s x y)) ∧ Ext w wr)
      case atStart => exact ⟨2, p, Nat.le_refl _, by omega, rfl, rfl, hO0, rfl, hE5⟩
      case round =>
        obtain ⟨k, M, hk2, hk4, rfl, rfl, hO, HM, hEk⟩ := hrel
        clear hO0
        by_cases hlt : k < 4
        · have hz : (k : Int) < 4 := by omega
          have hz0 : (0 : Int) ≤ (k : Int) := by omega
          obtain ⟨v, hv, hvn⟩ : ∃ v : Nat, gi xs k = v ∧ v < n := by
            rcases (show k = 2 ∨ k = 3 by omega) with rfl | rfl
            · exact ⟨x, by rw [hxs]; rfl, by omega⟩
            · exact ⟨y, by rw [hxs]; rfl, g4⟩
          have Hv : Hid (v = if k = 2 then x else y) := Lib.hid (by
            rcases (show k = 2 ∨ k = 3 by omega) with rfl | rfl
            · have : gi xs 2 = (x : Int) := by rw [hxs]; rfl
              simp; omega
            · have : gi xs 3 = (y : Int) := by rw [hxs]; rfl
              simp; omega)
          have hMr : Rect M n n := by
            rcases (show k = 2 ∨ k = 3 by omega) with rfl | rfl
            · have := HM.out; simp at this; rw [this]; exact Hr.out
            · have := HM.out; simp at this; rw [this]; exact swStep_rect Hr.out (by omega) g2
          have hnew : Hid (swStep p M r s v = (if k + 1 = 2 then p else if k + 1 = 3 then swStep p p r s x else swM p r s x y)) := Lib.hid (by
            rcases (show k = 2 ∨ k = 3 by omega) with rfl | rfl
            · have h1 := HM.out; have h2 := Hv.out; simp at h1 h2; subst h2; rw [h1]; simp
            · have h1 := HM.out; have h2 := Hv.out; simp at h1 h2; subst h2; rw [h1]; simp [swM])
          obtain ⟨g', o', hh, q2⟩ := hq.gi (k := k) (by omega)
          cases hh
          rw [hv] at q2
          have HRM := Lib.hid hMr
          clear hMr HM hv hE5
          obtain ⟨b, o2, b1, o1, c1, b2, o3, c2, rfl, k1, k2, e1, _, e3, _⟩ := hp.four Hr.out (r := r) (s := s) (x := v) (y := v) (by omega) g2 hvn hvn
          have dk1 := hEk.cell k1
          have dk2 := hEk.cell k2
          have de1 := hEk.cell e1
          have de3 := hEk.cell e3
          have dq := hEk.cell q2
          have i1 : (r : Int) < (n : Int) := by omega
          have i2 : (s : Int) < (n : Int) := by omega
          have i3 : (v : Int) < (n : Int) := by omega
          obtain ⟨gt, gg, dd, rfl, hd1, hB, hd2, hf2, hset⟩ := hO.cellAt HRM.out (x := r) (y := v) (by omega) hvn
          have hO1 := hset (at2 p s v)
          have hE1 := hEk.setCell (p := ⟨gg, v, none⟩) (Nat.le_trans hE3.size hB) (.int .i64 (at2 p s v))
          clear hset hO hEk
          go_wp2_with fail
          go_region
          obtain ⟨W1, hW1⟩ : ∃ W1, (wr.setCell ⟨gg, v, none⟩ (.int .i64 (at2 p s v))).drew = W1 := ⟨_, rfl⟩
          have hE2 := hE1.drew
          have hO2 := hO1.ext ((Ext.refl _).drew)
          rw [hW1] at hE2 hO2 ⊢
          clear hW1 hE1 hO1 dk1 dk2 de1 de3 dq hd1 hd2 hf2
          have dk1 := hE2.cell k1
          have dk2 := hE2.cell k2
          have de1 := hE2.cell e1
          have de3 := hE2.cell e3
          have dq := hE2.cell q2
          have hr2 := rect_set2 HRM.out r v (at2 p s v) (by omega)
          obtain ⟨gt', gg', dd', hh, hd1, hB', hd2, hf2, hset⟩ := hO2.cellAt hr2 (x := s) (y := v) g2 hvn
          cases hh
          have hO3 := hset (at2 p r v)
          have hE3' := hE2.setCell (p := ⟨gg', v, none⟩) (Nat.le_trans hE3.size hB') (.int .i64 (at2 p r v))
          have hO4 := hO3.ext ((Ext.refl _).drew)
          rw [show set2 (set2 M r v (at2 p s v)) s v (at2 p r v) = swStep p M r s v from rfl, hnew.out] at hO4
          clear hset hO2 hE2 hO3 hr2
          go_wp2_with fail
          go_region
          go_wp2
          go_roundg (4 - (k + 1))
          case measure => go_light; omega
          case rel => go_light; exact ⟨k + 1, _, by omega, by omega, rfl, by go_num, hO4, rfl, hE3'.drew⟩
        · have hz : ¬ (k : Int) < 4 := by omega
          obtain rfl : k = 4 := by omega
          go_wp2
          go_ret2
          have hM : M = swiM p xs := by
            have := HM.out
            simp at this
            rw [swiM, if_pos hb, if_pos HI.out, this, hxs]
            rfl
          exact RetRC.mk_ hO hE3.size (by first | exact hM | (rw [← hxs]; exact hM)) (by have h := HI.out; rw [swiC, if_pos hb]; first | rw [if_pos h] | (rw [hxs] at h; rw [if_pos h])) hEk
    · rw [hi]
      have HI : Hid (pb (IcQ p p.length xs) = false) := Lib.hid (by rw [← Hl.out]; exact hi)
      go_wp2
      go_ret2
      exact RetRC.nil_ (by rw [swiM, if_pos hb, HI.out]; rfl) (by rw [swiC, if_pos hb, HI.out]; rfl) hE3
  · rw [hb]
    go_wp2
    go_ret2
    exact RetRC.nil_ (by rw [swiM, hb]; rfl) (by rw [swiC, hb]; rfl) hE

theorem swM_cell {p M : List (List Int)} {n k r s x y v i : Nat} (hM : M = (if k = 0 then p else if k = 1 then swStep p p r s x else swM p r s x y)) (hr : Rect p n n) (hk : k < 2) (hv : v = if k = 0 then x else y) (h1 : r < n) (h2 : s < n) (h3 : x < n) (hxy : x < y) : at2 M i v = at2 p i v := by
  rcases (show k = 0 ∨ k = 1 by omega) with rfl | rfl
  · simp at hM; rw [hM]
  · simp at hM hv
    rw [hM, swStep_at hr h1 h2 h3 _ _ (by omega)]

set_option maxRecDepth 100000 in
set_option maxHeartbeats 3200000 in
theorem implSwi (a : Option Addr) (n c : Nat) (p : List (List Int)) (a' : Option Addr) (n' c' : Nat) (xs : List Int) (w : World) (hp : RdR w a n c p) (hs : p.length + tot p ≤ 1048576) (hq : RdI w a' n' c' xs) (_ : n' ≤ 1048576) :
    Calls Try.prog 37 #[.slice a n c, .slice a' n' c'] w (RetRC w (swiM p xs) (swiC p xs)) := by
  have hb1 := hp.le
  have hb2 := hp.max
  have hb3 := hq.le
  have hb4 := hq.max
  have Hl := Lib.hid hp.len
  have Hq := Lib.hid hq.len
  go_enter Try.func37, Try.ntmps37
  go_wp2_with fail
  refine (validSquare_any _ _ _ p _ hp).mono ?_
  rintro e w2 ⟨rfl, hE⟩
  rcases pbc (SqOk p) with ⟨hb, Hp⟩ | ⟨hb, Hp⟩
  · rw [hb]
    obtain ⟨hn1, hn, hrc⟩ := Hp.out.dims Hl.out
    have Hr := Lib.hid hrc
    clear hrc
    go_wp2_with fail
    refine (intercalatesOf_any _ n _ p _ (hp.ext hE) Hr.out hn).mono ?_
    rintro e wi ⟨ai, ni, ci, rsi, rfl, hOi, hEi⟩
    go_wp2_with fail
    refine (hasList_any _ _ _ _ _ _ _ xs _ hOi.rd (hq.ext (hE.trans hEi))).mono ?_
    rintro e w3 ⟨rfl, hEh⟩
    have hE3 := (hE.trans hEi).trans hEh
    rw [pb_congr mem_icR]
    clear hOi hEi hEh
    rcases pbc (IcQ p n xs) with ⟨hi, Hi⟩ | ⟨hi, Hi⟩
    · rw [hi]
      have HI : Hid (pb (IcQ p p.length xs) = true) := Lib.hid (by rw [← Hl.out]; exact hi)
      obtain ⟨r, s, x, y, hxs, g1, g2, g3, g4⟩ := four_of Hi.out.1 Hi.out.2.1 Hi.out.2.2.1
      have h4 : n' = 4 := by rw [Hq.out]; exact Hi.out.1
      subst h4
      obtain ⟨g, o, rfl, q0⟩ := hq.gi (k := 0) (by omega)
      obtain ⟨g', o', hh, q1⟩ := hq.gi (k := 1) (by omega)
      cases hh
      rw [Nat.add_zero] at q0
      rw [show gi xs 0 = (r : Int) by rw [hxs]; rfl] at q0
      rw [show gi xs 1 = (s : Int) by rw [hxs]; rfl] at q1
      have HX := Lib.hid hxs
      clear hxs
      go_wp2_with fail
      refine (copyLists_any _ _ _ p _ (hp.ext hE3) (by omega)).mono ?_
      rintro e w4 ⟨a4, n4, c4, rs, rfl, hO0, hE4⟩
      obtain rfl : n = n4 := by rw [Hl.out]; exact hO0.len.symm
      have hE5 := hE3.trans hE4
      have d0 := hE5.cell q0
      have d1 := hE5.cell q1
      obtain ⟨gt, rr, _, rfl, _, hcr, _, _, Hrr, _⟩ := hO0.at_ (k := r) (by omega)
      obtain ⟨gt', sr, _, hh, _, hcs, _, _, Hsr, _⟩ := hO0.at_ (k := s) g2
      cases hh
      obtain ⟨gr2, err, ern, hBr, _⟩ := hO0.cellRow Hr.out (x := r) (y := r) (by omega) (by omega) Hrr.out
      obtain ⟨gs2, esr, esn, hBs, _⟩ := hO0.cellRow Hr.out (x := s) (y := s) g2 g2 Hsr.out
      obtain ⟨ra, rn, rc⟩ := rr
      obtain ⟨sa, sn, sc⟩ := sr
      dsimp only at err ern esr esn hcr hcs
      subst err
      subst esr
      obtain rfl : n = rn := ern.symm
      obtain rfl : n = sn := esn.symm
      have i1 : (r : Int) < (n : Int) := by omega
      have i2 : (s : Int) < (n : Int) := by omega
      have hlr := hO0.top.le
      have hr2 : RdI w (some ⟨g, o + 2, none⟩) 2 (c' - 2) (xs.drop 2) := Rd.from_ hq (m := 2) (by omega)
      go_wp2_with fail
      go_quiet (fail)
      clear d0 d1 hcr hcs
      go_wp2
      go_loopg [36] 2 (fun gh i wr => ∃ (k : Nat) (M : List (List Int)), k ≤ 2 ∧ gh = 2 - k ∧ i = .int .i64 k ∧ OwnR wr w3.heap.size (some ⟨gt, 0, none⟩) n c4 M rs ∧ Hid (M = (if k = 0 then p else if k = 1 then swStep p p r s x else swM p r s x y)) ∧ Ext w wr)
      case atStart => exact ⟨0, p, by omega, by omega, rfl, hO0.ext ((Ext.refl _).drewN _), rfl, hE5.drewN _⟩
      case round =>
        obtain ⟨k, M, hk, rfl, rfl, hO, HM, hEk⟩ := hrel
        clear hO0
        by_cases hlt : k < 2
        · have hz : (k : Int) < 2 := by omega
          have hz0 : (0 : Int) ≤ (k : Int) := by omega
          obtain ⟨v, hv, hvn⟩ : ∃ v : Nat, gi (xs.drop 2) k = v ∧ v < n := by
            rcases (show k = 0 ∨ k = 1 by omega) with rfl | rfl
            · exact ⟨x, by rw [HX.out]; rfl, by omega⟩
            · exact ⟨y, by rw [HX.out]; rfl, g4⟩
          have Hv : Hid (v = if k = 0 then x else y) := Lib.hid (by
            rcases (show k = 0 ∨ k = 1 by omega) with rfl | rfl
            · have : gi (xs.drop 2) 0 = (x : Int) := by rw [HX.out]; rfl
              simp; omega
            · have : gi (xs.drop 2) 1 = (y : Int) := by rw [HX.out]; rfl
              simp; omega)
          have hMr : Rect M n n := by
            rcases (show k = 0 ∨ k = 1 by omega) with rfl | rfl
            · have := HM.out; simp at this; rw [this]; exact Hr.out
            · have := HM.out; simp at this; rw [this]; exact swStep_rect Hr.out (by omega) g2
          have hnew : Hid (swStep p M r s v = (if k + 1 = 0 then p else if k + 1 = 1 then swStep p p r s x else swM p r s x y)) := Lib.hid (by
            rcases (show k = 0 ∨ k = 1 by omega) with rfl | rfl
            · have h1 := HM.out; have h2 := Hv.out; simp at h1 h2; subst h2; rw [h1]; simp
            · have h1 := HM.out; have h2 := Hv.out; simp at h1 h2; subst h2; rw [h1]; simp [swM])
          have m1 := swM_cell (i := r) HM.out Hr.out hlt Hv.out (by omega) g2 (by omega) g3
          have m2 := swM_cell (i := s) HM.out Hr.out hlt Hv.out (by omega) g2 (by omega) g3
          obtain ⟨g', o', hh, q2⟩ := hr2.gi (k := k) (by omega)
          cases hh
          rw [hv] at q2
          have dq := hEk.cell q2
          have HRM := Lib.hid hMr
          clear hMr HM hv hE5
          have i3 : (v : Int) < (n : Int) := by omega
          obtain ⟨g3', e1, _, _, dr, fr, hset⟩ := hO.cellRow HRM.out (x := r) (y := v) (by omega) hvn Hrr.out
          obtain ⟨g4', e2, _, _, ds, _, _⟩ := hO.cellRow HRM.out (x := s) (y := v) g2 hvn Hsr.out
          cases e1
          cases e2
          rw [m1] at dr
          rw [m2] at ds
          have hO1 := hset (at2 p s v)
          have hr3 := rect_set2 HRM.out r v (at2 p s v) (by omega)
          obtain ⟨g5', e3, _, _, ds1, fs1, hset1⟩ := hO1.cellRow hr3 (x := s) (y := v) g2 hvn Hsr.out
          cases e3
          have hO2 := hset1 (at2 p r v)
          rw [show set2 (set2 M r v (at2 p s v)) s v (at2 p r v) = swStep p M r s v from rfl, hnew.out] at hO2
          have hE1 := hEk.setCell (p := ⟨gr2, v, none⟩) (Nat.le_trans hE3.size hBr) (.int .i64 (at2 p s v))
          have hE2 := hE1.setCell (p := ⟨gs2, v, none⟩) (Nat.le_trans hE3.size hBs) (.int .i64 (at2 p r v))
          clear hset hset1 hO hEk hO1 hE1 hr3 m1 m2
          go_wp2_with fail
          go_region
          trace_state
          go_wp2
          go_roundg (2 - (k + 1))
          case measure => go_light; omega
          case rel => go_light; exact ⟨k + 1, _, by omega, rfl, by go_num, hO2.ext (Ext.refl _).drew, rfl, hE2.drew⟩
        · have hz : ¬ (k : Int) < 2 := by omega
          obtain rfl : k = 2 := by omega
          go_wp2
          go_ret2
          have hM : M = swiM p xs := by
            have := HM.out
            simp at this
            rw [swiM, if_pos hb, if_pos HI.out, this, HX.out]
            rfl
          exact RetRC.mk_ hO hE3.size hM (by have h := HI.out; rw [swiC, if_pos hb]; rw [if_pos h]) hEk
    · rw [hi]
      have HI : Hid (pb (IcQ p p.length xs) = false) := Lib.hid (by rw [← Hl.out]; exact hi)
      go_wp2
      go_ret2
      exact RetRC.nil_ (by rw [swiM, if_pos hb, HI.out]; rfl) (by rw [swiC, if_pos hb, HI.out]; rfl) hE3
  · rw [hb]
    go_wp2
    go_ret2
    exact RetRC.nil_ (by rw [swiM, hb]; rfl) (by rw [swiC, hb]; rfl) hE
end Go.Proofs.Ytkapkieeafhaoaa
