/- ProductMols of both. Conditions: none. -/
import Derived.Test.YtkapkieeafhaoaaMls
import Derived.Test.YtkapkieeafhaoaaProdI
namespace Go.Proofs.Ytkapkieeafhaoaa
open Go.RowKit

/-- An append of rows inside a region that draws its order. -/
theorem step_app_M {ops : Array Oper} {o : Oper} {a : Act} {W : World} {K : Act → World → Prop} {Q : Exit → Act → World → Prop} {E : Prop} (hgd : o.guard = none) (s x : Operand)
    (ho : o.op = .call { callee := .builtin .append, args := #[s, x], argTypes := #[36, 36] })
    {B : Nat} {ad : Option Addr} {n c : Nat} {y : List (List (List Int))} {rs : List RowM} (hown : OwnM W B ad n c y rs) (hB : B ≤ W.heap.size)
    {ra : Option Addr} {rn rc : Nat} {p : List (List Int)} {rr : List Row} (hr : OwnR W B ra rn rc p rr) (hd : ∀ g, OwnR.fp ra rr g → ¬ OwnM.fp ad rs g) {b : Nat} (hv : W.cell? ⟨b, 0, none⟩ = some (.slice ra rn rc))
    (hn : n + 1 ≤ 1099511627776) (hs : a.eval s = .slice ad n c) (hx : a.eval x = .slice (some ⟨b, 0, none⟩) 1 1)
    (h : ∀ ad' c' w', OwnM w' B ad' (n + 1) c' (y ++ [p]) (rs ++ [((ra, rn, rc), rr)]) → Only (onlyA ad) W w' → Moved W ad ad' → K (a.put o.dst (.slice ad' (n + 1) c')) w') :
    if Region.wanted o (yielded ops a.tmps) = true then Oper.wp Try.prog o a W K Q else E := by
  have hw : Region.wanted o (yielded ops a.tmps) = true := by simp [Region.wanted, hgd]
  rw [if_pos hw]
  have hnews : ∀ j u, ([(((ra, rn, rc), rr) : RowM)].map RowM.val)[j]? = some u → W.cell? ((⟨b, 0, none⟩ : Addr).add j) = some u := by
    intro j u hu
    cases j with
    | zero => simp at hu; subst hu; exact hv
    | succ j => simp at hu
  obtain ⟨ad', c', w', hrun, h2, h3, h4⟩ := run_app Try.underlying36 Try.info_SS rfl W B ad n c rs hown.top hB ⟨b, 0, none⟩ 1 1 [((ra, rn, rc), rr)] rfl hnews (by intro u hu; simp at hu; subst hu; rfl) hn (by decide) o.type
  unfold Oper.wp execOp
  simp only [ho, resolve, invoke, builtin, Sem.run_bind, Sem.run_pure, Result.andThen_ok, List.map_toArray, List.map_cons, List.map_nil, hs, hx, hrun]
  exact h ad' c' w' (OwnM.push (r := ((ra, rn, rc), rr)) hown hr hd h2 h3 h4) h3 h4

/-- The order of the first square. -/
def o1 (x : List (List (List Int))) : Nat := (gm x 0).length
def prAt (x y : List (List (List Int))) (k : Nat) : List (List Int) := mat (o1 x * o1 y) (o1 x * o1 y) (prodF (gm x k) (gm y k) (o1 y))
def prTo (x y : List (List (List Int))) (k : Nat) : List (List (List Int)) := (List.range k).map (prAt x y)
theorem prTo_succ (x y : List (List (List Int))) (k : Nat) : prTo x y (k + 1) = prTo x y k ++ [prAt x y k] := by rw [prTo, List.range_succ, List.map_append]; rfl
noncomputable def pmlC (x y : List (List (List Int))) : Int := if pb (MolsOk x ∧ MolsOk y) then (if 10 < o1 x * o1 y then 2 else 0) else 1
noncomputable def pmlM (x y : List (List (List Int))) : List (List (List Int)) := if pb (MolsOk x ∧ MolsOk y) then (if 10 < o1 x * o1 y then [] else prTo x y (min x.length y.length)) else []
theorem pmlM_tt (x y : List (List (List Int))) : tt (pmlM x y) ≤ 1048576 := by
  rw [pmlM]
  split
  · rename_i h
    have h0 := pb_iff.1 h
    split
    · simp [tt]
    · rename_i hk
      have key : ∀ k, k ≤ 10 → tt (prTo x y k) ≤ 100 * k := by
        intro k
        induction k with
        | zero => intro _; simp [prTo, tt]
        | succ k ih =>
          intro hk2
          rw [prTo_succ, tt_append]
          have := ih (by omega)
          have e : tot (prAt x y k) ≤ 100 := by
            rw [prAt, tot_rect (mat_rect _ _ _)]
            exact Nat.mul_le_mul (show _ ≤ 10 by omega) (show _ ≤ 10 by omega)
          simp only [tt]
          omega
      have := h0.1.1.2
      have := key (min x.length y.length) (by omega)
      omega
  · simp [tt]

theorem MolsOk.twoP {x y : List (List (List Int))} {k K : Nat} (hx : MolsOk x) (hy : MolsOk y) (h1 : k < x.length) (h2 : k < y.length) (hK : o1 x * o1 y = K) (hK2 : K ≤ 10) : TwoP (gm x k) (gm y k) (o1 x) (o1 y) K :=
  ⟨(hx.2 k h1).1, (hy.2 k h2).1, hx.2.len h1, hy.2.len h2, hK, hK2⟩

set_option maxRecDepth 100000 in
set_option maxHeartbeats 3200000 in
theorem specPml (a : Option Addr) (n c : Nat) (x : List (List (List Int))) (a' : Option Addr) (m c' : Nat) (y : List (List (List Int))) (w : World) (hx : RdM w a n c x) (_ : x.length + s3 x ≤ 1048576) (hy : RdM w a' m c' y) (_ : y.length + s3 y ≤ 1048576) :
    Calls Try.prog 46 #[.slice a n c, .slice a' m c'] w (RetMC w (pmlM x y) (pmlC x y)) := by
  have hb1 := hx.le
  have hb2 := hx.max
  have hb3 := hy.le
  have hb4 := hy.max
  have Hx := Lib.hid hx.len
  have Hy := Lib.hid hy.len
  go_enter Try.func46, Try.ntmps46
  go_wp2_with fail
  refine (l07Ok_any _ _ _ x _ hx).mono ?_
  rintro e w2 ⟨rfl, hE⟩
  rcases pbc (MolsOk x) with ⟨hb, Hb⟩ | ⟨hb, Hb⟩
  · rw [hb]
    go_wp2_with fail
    refine (l07Ok_any _ _ _ y _ (RdM.ext hy hE)).mono ?_
    rintro e w3 ⟨rfl, hE3⟩
    rcases pbc (MolsOk y) with ⟨hb', Hb'⟩ | ⟨hb', Hb'⟩
    · rw [hb']
      have hbb : Hid (pb (MolsOk x ∧ MolsOk y) = true) := Lib.hid (pb_true ⟨Hb.out, Hb'.out⟩)
      have hE4 := hE.trans hE3
      have hn1 : 1 ≤ n ∧ n ≤ 10 := by rw [Hx.out]; exact Hb.out.1
      have hm1 : 1 ≤ m ∧ m ≤ 10 := by rw [Hy.out]; exact Hb'.out.1
      obtain ⟨b0, o0, a0, n0, c0, rfl, q0, r0⟩ := RdM.gm hx (k := 0) (by omega)
      obtain ⟨b1, o1', a1, m0, c1, rfl, q1, r1⟩ := RdM.gm hy (k := 0) (by omega)
      have e0 : n0 = o1 x := r0.len
      have e1 : m0 = o1 y := r1.len
      rw [Nat.add_zero] at q0 q1
      have z0 : (0 : Int) < (n : Int) := by omega
      have z1 : (0 : Int) < (m : Int) := by omega
      have d0 := hE4.cell q0
      have d1 := hE4.cell q1
      have l0 := r0.le
      have l1 := r1.le
      have l2 := r0.max
      have l3 := r1.max
      obtain ⟨K, hK0⟩ : ∃ K : Nat, n0 * m0 = K := ⟨_, rfl⟩
      have hn10 : n0 ≤ 10 := by rw [e0]; exact (Hb.out.2 0 (by have := Hx.out; omega)).1.2.1
      have hm10 : m0 ≤ 10 := by rw [e1]; exact (Hb'.out.2 0 (by have := Hy.out; omega)).1.2.1
      have hK100 : K ≤ 100 := by have := Nat.mul_le_mul hn10 hm10; omega
      have hK : (n0 : Int) * (m0 : Int) = (K : Int) := by exact_mod_cast hK0
      have hwK : IntKind.i64.wrap (K : Int) = (K : Int) := IntWalk.i64_in _ (by omega)
      have hKo : Hid (o1 x * o1 y = K) := Lib.hid (by rw [← e0, ← e1]; exact hK0)
      have E0 := Lib.hid e0
      have E1 := Lib.hid e1
      clear e0 e1 hK0 r0 r1
      by_cases hbig : 10 < K
      · have hz : (10 : Int) < (K : Int) := by omega
        have hzd : decide ((10 : Int) < (K : Int)) = true := decide_eq_true hz
        go_wp2_with fail
        go_quiet (fail)
        go_wp2
        go_ret2
        exact RetMC.nil_ (by rw [pmlM, if_pos hbb.out, if_pos (by rw [hKo.out]; exact hbig)]) (by rw [pmlC, if_pos hbb.out, if_pos (by rw [hKo.out]; exact hbig)]) (hE4.drewN _)
      · have hz : ¬ (10 : Int) < (K : Int) := by omega
        have hzd : decide ((10 : Int) < (K : Int)) = false := decide_eq_false hz
        go_wp2_with fail
        go_quiet (fail)
        rename_i nq
        clear d0 d1 hwK hK
        obtain ⟨w4, hw4⟩ : ∃ w4, w3.drewN nq = w4 := ⟨_, rfl⟩
        have hE5 : Ext (w : World) w4 := by rw [← hw4]; exact hE4.drewN _
        rw [hw4]
        clear hw4 hE4 hE hE3
        go_wp2
        have H0 := OwnM.empty w4
        go_loopg [6, 7] n (fun gh s i wr => ∃ (k : Nat) (ad : Option Addr) (d : Nat) (rs : List RowM), k ≤ n ∧ k ≤ m ∧ gh = n - k ∧ i = .int .i64 k ∧ s = .slice ad k d ∧ OwnM wr w4.heap.size ad k d (prTo x y k) rs ∧ Ext w4 wr)
        case atStart => exact ⟨0, _, 0, [], Nat.zero_le _, Nat.zero_le _, rfl, rfl, rfl, H0, (Ext.refl _).alloc _⟩
        case round =>
          obtain ⟨k, ad, d, rs, hk, hk', rfl, rfl, rfl, hO, hEk⟩ := hrel
          clear H0
          by_cases hlt : k < n ∧ k < m
          · have hz1 : (k : Int) < (n : Int) := by omega
            have hz2 : (k : Int) < (m : Int) := by omega
            have hEw := hE5.trans hEk
            obtain ⟨b', o', ax, nx, cx, hh, qx, rx⟩ := RdM.gm hx hlt.1
            cases hh
            obtain ⟨b', o', ay, ny, cy, hh, qy, ry⟩ := RdM.gm hy hlt.2
            cases hh
            have ht := MolsOk.twoP (k := k) Hb.out Hb'.out (by rw [← Hx.out]; exact hlt.1) (by rw [← Hy.out]; exact hlt.2) hKo.out (by omega)
            obtain rfl : n0 = nx := by rw [E0.out, ← ht.2.2.1]; exact rx.len.symm
            obtain rfl : m0 = ny := by rw [E1.out, ← ht.2.2.2.1]; exact ry.len.symm
            rw [← E0.out, ← E1.out] at ht
            have Ht := Lib.hid ht
            have dx := hEw.cell qx
            have dy := hEw.cell qy
            have hrx := rx.ext hEw
            have hry := ry.ext hEw
            have hnk : k + 1 ≤ 1099511627776 := by omega
            clear ht rx ry
            go_wp2_with fail
            go_region_held3 (fun w' => w'.cell? ⟨b0, o0 + k, none⟩ = some (.slice ax n0 cx) ∧ w'.cell? ⟨b1, o1' + k, none⟩ = some (.slice ay m0 cy))
              (first | exact ⟨dx, dy⟩ | exact ⟨Ext.cell ((Ext.refl _).drew) dx, Ext.cell ((Ext.refl _).drew) dy⟩ | exact ⟨Ext.cell (Ext.trans ((Ext.refl _).drew) hE9) dx, Ext.cell (Ext.trans ((Ext.refl _).drew) hE9) dy⟩ | exact ⟨Ext.cell ((Ext.trans ((Ext.refl _).drew) hE9).alloc _) dx, Ext.cell ((Ext.trans ((Ext.refl _).drew) hE9).alloc _) dy⟩ | (have hEz : Ext w w10 := Ext.only ((hEw.trans (Ext.trans ((Ext.refl _).drew) hE9)).alloc _) honly (fun b hb => Nat.le_trans hE5.size (hO.top.lt hb).1); exact ⟨hEz.cell qx, hEz.cell qy⟩))
              (first
                | (go_at_call 98; refine (l06Product_any _ n0 _ (gm x k) _ m0 _ (gm y k) K _ (RdR.ext hrx ((Ext.refl _).drew)) (RdR.ext hry ((Ext.refl _).drew)) Ht.out).mono ?_; rintro e w9 ⟨a9, n9, c9, rs9, rfl, hO9, hE9⟩)
                | (refine step_app_M (by rfl) _ _ (by rfl) (OwnM.ext hO ((Ext.trans ((Ext.refl _).drew) hE9).alloc (.cells #[.slice a9 n9 c9] 22))) (Nat.le_trans hEk.size (Ext.size ((Ext.trans ((Ext.refl _).drew) hE9).alloc _)))
                    (OwnR.base (OwnR.ext hO9 ((Ext.refl _).alloc (.cells #[.slice a9 n9 c9] 22))) (Nat.le_trans hEk.size (Ext.size ((Ext.refl _).drew)))) (fun g hg hf => absurd (hO.lt hf).2 (Nat.not_lt.2 (Nat.le_trans (Ext.size ((Ext.refl _).drew)) (hO9.lt hg).1)))
                    ((World.cell?_alloc_at _ _ _ _ rfl).trans rfl) hnk (by rfl) (by rfl) ?_; intro ad' d' w10 hM honly hmv))
            have hE10 : Ext w4 w10 := Ext.only ((hEk.trans (Ext.trans ((Ext.refl _).drew) hE9)).alloc _) honly (fun b hb => (hO.top.lt hb).1)
            rw [show prTo x y k ++ [mat K K (prodF (gm x k) (gm y k) m0)] = prTo x y (k + 1) by rw [prTo_succ, prAt, hKo.out, E1.out]] at hM
            clear hO hEk hO9 hE9 honly hmv dx dy hrx hry hEw
            go_wp2
            go_roundg (n - (k + 1))
            case measure => go_light; omega
            case rel => go_light; exact ⟨k + 1, ad', d', _, by omega, by omega, rfl, by go_num, rfl, hM, hE10⟩
          · have hmin : Hid (k = min x.length y.length) := Lib.hid (by have := Hx.out; have := Hy.out; omega)
            by_cases hkn : k < n
            · have hz1 : (k : Int) < (n : Int) := by omega
              have hz2 : ¬ (k : Int) < (m : Int) := by omega
              go_wp2
              go_ret2
              exact RetMC.mk_ hO hE5.size (by rw [pmlM, if_pos hbb.out, if_neg (by rw [hKo.out]; exact hbig), ← hmin.out]) (by rw [pmlC, if_pos hbb.out, if_neg (by rw [hKo.out]; exact hbig)]) (hE5.trans hEk)
            · have hz1 : ¬ (k : Int) < (n : Int) := by omega
              go_wp2
              go_ret2
              exact RetMC.mk_ hO hE5.size (by rw [pmlM, if_pos hbb.out, if_neg (by rw [hKo.out]; exact hbig), ← hmin.out]) (by rw [pmlC, if_pos hbb.out, if_neg (by rw [hKo.out]; exact hbig)]) (hE5.trans hEk)
    · rw [hb']
      have hbb : Hid (pb (MolsOk x ∧ MolsOk y) = false) := Lib.hid (pb_false (fun h => Hb'.out h.2))
      go_wp2
      go_ret2
      exact RetMC.nil_ (by rw [pmlM, hbb.out]; rfl) (by rw [pmlC, hbb.out]; rfl) (hE.trans hE3)
  · rw [hb]
    have hbb : Hid (pb (MolsOk x ∧ MolsOk y) = false) := Lib.hid (pb_false (fun h => Hb.out h.1))
    go_wp2
    go_ret2
    exact RetMC.nil_ (by rw [pmlM, hbb.out]; rfl) (by rw [pmlC, hbb.out]; rfl) hE

set_option maxRecDepth 100000 in
set_option maxHeartbeats 3200000 in
theorem implPml (a : Option Addr) (n c : Nat) (x : List (List (List Int))) (a' : Option Addr) (m c' : Nat) (y : List (List (List Int))) (w : World) (hx : RdM w a n c x) (_ : x.length + s3 x ≤ 1048576) (hy : RdM w a' m c' y) (_ : y.length + s3 y ≤ 1048576) :
    Calls Try.prog 47 #[.slice a n c, .slice a' m c'] w (RetMC w (pmlM x y) (pmlC x y)) := by
  have hb1 := hx.le
  have hb2 := hx.max
  have hb3 := hy.le
  have hb4 := hy.max
  have Hx := Lib.hid hx.len
  have Hy := Lib.hid hy.len
  go_enter Try.func47, Try.ntmps47
  go_wp2_with fail
  refine (validMols_any _ _ _ x _ hx).mono ?_
  rintro e w2 ⟨rfl, hE⟩
  rcases pbc (MolsOk x) with ⟨hb, Hb⟩ | ⟨hb, Hb⟩
  · rw [hb]
    go_wp2_with fail
    refine (validMols_any _ _ _ y _ (RdM.ext hy hE)).mono ?_
    rintro e w3 ⟨rfl, hE3⟩
    rcases pbc (MolsOk y) with ⟨hb', Hb'⟩ | ⟨hb', Hb'⟩
    · rw [hb']
      have hbb : Hid (pb (MolsOk x ∧ MolsOk y) = true) := Lib.hid (pb_true ⟨Hb.out, Hb'.out⟩)
      have hE4 := hE.trans hE3
      have hn1 : 1 ≤ n ∧ n ≤ 10 := by rw [Hx.out]; exact Hb.out.1
      have hm1 : 1 ≤ m ∧ m ≤ 10 := by rw [Hy.out]; exact Hb'.out.1
      obtain ⟨b0, o0, a0, n0, c0, rfl, q0, r0⟩ := RdM.gm hx (k := 0) (by omega)
      obtain ⟨b1, o1', a1, m0, c1, rfl, q1, r1⟩ := RdM.gm hy (k := 0) (by omega)
      have e0 : n0 = o1 x := r0.len
      have e1 : m0 = o1 y := r1.len
      rw [Nat.add_zero] at q0 q1
      have z0 : (0 : Int) < (n : Int) := by omega
      have z1 : (0 : Int) < (m : Int) := by omega
      have d0 := hE4.cell q0
      have d1 := hE4.cell q1
      have l0 := r0.le
      have l1 := r1.le
      have l2 := r0.max
      have l3 := r1.max
      obtain ⟨K, hK0⟩ : ∃ K : Nat, n0 * m0 = K := ⟨_, rfl⟩
      have hn10 : n0 ≤ 10 := by rw [e0]; exact (Hb.out.2 0 (by have := Hx.out; omega)).1.2.1
      have hm10 : m0 ≤ 10 := by rw [e1]; exact (Hb'.out.2 0 (by have := Hy.out; omega)).1.2.1
      have hK100 : K ≤ 100 := by have := Nat.mul_le_mul hn10 hm10; omega
      have hK : (n0 : Int) * (m0 : Int) = (K : Int) := by exact_mod_cast hK0
      have hwK : IntKind.i64.wrap (K : Int) = (K : Int) := IntWalk.i64_in _ (by omega)
      have hKo : Hid (o1 x * o1 y = K) := Lib.hid (by rw [← e0, ← e1]; exact hK0)
      have E0 := Lib.hid e0
      have E1 := Lib.hid e1
      clear e0 e1 hK0 r0 r1
      by_cases hbig : 10 < K
      · have hz : (10 : Int) < (K : Int) := by omega
        have hzd : decide ((10 : Int) < (K : Int)) = true := decide_eq_true hz
        go_wp2_with fail
        go_quiet ((go_at_call 55; exact quiet_same (sizeR_any _ _ _ _)))
        go_wp2
        go_ret2
        exact RetMC.nil_ (by rw [pmlM, if_pos hbb.out, if_pos (by rw [hKo.out]; exact hbig)]) (by rw [pmlC, if_pos hbb.out, if_pos (by rw [hKo.out]; exact hbig)]) (hE4.drewN _)
      · have hz : ¬ (10 : Int) < (K : Int) := by omega
        have hzd : decide ((10 : Int) < (K : Int)) = false := decide_eq_false hz
        go_wp2_with fail
        go_quiet ((go_at_call 55; exact quiet_same (sizeR_any _ _ _ _)))
        rename_i nq
        clear d0 d1 hwK hK
        obtain ⟨w4, hw4⟩ : ∃ w4, w3.drewN nq = w4 := ⟨_, rfl⟩
        have hE5 : Ext (w : World) w4 := by rw [← hw4]; exact hE4.drewN _
        rw [hw4]
        clear hw4 hE4 hE hE3
        go_wp2
        go_loopg [6, 31] (min n m) (fun gh s i wr => ∃ (k : Nat) (ad : Option Addr) (d : Nat) (rs : List RowM), k ≤ n ∧ k ≤ m ∧ gh = (min n m) - k ∧ i = .int .i64 k ∧ s = .slice ad k d ∧ OwnM wr w4.heap.size ad k d (prTo x y k) rs ∧ Ext w4 wr)
        case atStart => exact ⟨0, _, 0, [], Nat.zero_le _, Nat.zero_le _, rfl, rfl, rfl, OwnM.nil_ _ _, Ext.refl _⟩
        case round =>
          obtain ⟨k, ad, d, rs, hk, hk', rfl, rfl, rfl, hO, hEk⟩ := hrel
          by_cases hlt : k < n ∧ k < m
          · have hz1 : (k : Int) < (n : Int) := by omega
            have hz2 : (k : Int) < (m : Int) := by omega
            have hEw := hE5.trans hEk
            obtain ⟨b', o', ax, nx, cx, hh, qx, rx⟩ := RdM.gm hx hlt.1
            cases hh
            obtain ⟨b', o', ay, ny, cy, hh, qy, ry⟩ := RdM.gm hy hlt.2
            cases hh
            have ht := MolsOk.twoP (k := k) Hb.out Hb'.out (by rw [← Hx.out]; exact hlt.1) (by rw [← Hy.out]; exact hlt.2) hKo.out (by omega)
            obtain rfl : n0 = nx := by rw [E0.out, ← ht.2.2.1]; exact rx.len.symm
            obtain rfl : m0 = ny := by rw [E1.out, ← ht.2.2.2.1]; exact ry.len.symm
            rw [← E0.out, ← E1.out] at ht
            have Ht := Lib.hid ht
            have dx := hEw.cell qx
            have dy := hEw.cell qy
            have hrx := rx.ext hEw
            have hry := ry.ext hEw
            have hnk : k + 1 ≤ 1099511627776 := by omega
            clear ht rx ry
            go_wp2_with fail
            go_region_held3 (fun w' => w'.cell? ⟨b0, o0 + k, none⟩ = some (.slice ax n0 cx) ∧ w'.cell? ⟨b1, o1' + k, none⟩ = some (.slice ay m0 cy))
              (first | exact ⟨dx, dy⟩ | exact ⟨Ext.cell ((Ext.refl _).drew) dx, Ext.cell ((Ext.refl _).drew) dy⟩ | exact ⟨Ext.cell (Ext.trans ((Ext.refl _).drew) hE9) dx, Ext.cell (Ext.trans ((Ext.refl _).drew) hE9) dy⟩ | exact ⟨Ext.cell ((Ext.trans ((Ext.refl _).drew) hE9).alloc _) dx, Ext.cell ((Ext.trans ((Ext.refl _).drew) hE9).alloc _) dy⟩ | (have hEz : Ext w w10 := Ext.only ((hEw.trans (Ext.trans ((Ext.refl _).drew) hE9)).alloc _) honly (fun b hb => Nat.le_trans hE5.size (hO.top.lt hb).1); exact ⟨hEz.cell qx, hEz.cell qy⟩))
              (first
                | (go_at_call 99; refine (product_any _ n0 _ (gm x k) _ m0 _ (gm y k) K _ (RdR.ext hrx ((Ext.refl _).drew)) (RdR.ext hry ((Ext.refl _).drew)) Ht.out).mono ?_; rintro e w9 ⟨a9, n9, c9, rs9, rfl, hO9, hE9⟩)
                | (refine step_app_M (by rfl) _ _ (by rfl) (OwnM.ext hO ((Ext.trans ((Ext.refl _).drew) hE9).alloc (.cells #[.slice a9 n9 c9] 22))) (Nat.le_trans hEk.size (Ext.size ((Ext.trans ((Ext.refl _).drew) hE9).alloc _)))
                    (OwnR.base (OwnR.ext hO9 ((Ext.refl _).alloc (.cells #[.slice a9 n9 c9] 22))) (Nat.le_trans hEk.size (Ext.size ((Ext.refl _).drew)))) (fun g hg hf => absurd (hO.lt hf).2 (Nat.not_lt.2 (Nat.le_trans (Ext.size ((Ext.refl _).drew)) (hO9.lt hg).1)))
                    ((World.cell?_alloc_at _ _ _ _ rfl).trans rfl) hnk (by rfl) (by rfl) ?_; intro ad' d' w10 hM honly hmv))
            have hE10 : Ext w4 w10 := Ext.only ((hEk.trans (Ext.trans ((Ext.refl _).drew) hE9)).alloc _) honly (fun b hb => (hO.top.lt hb).1)
            rw [show prTo x y k ++ [mat K K (prodF (gm x k) (gm y k) m0)] = prTo x y (k + 1) by rw [prTo_succ, prAt, hKo.out, E1.out]] at hM
            clear hO hEk hO9 hE9 honly hmv dx dy hrx hry hEw
            go_wp2
            go_roundg ((min n m) - (k + 1))
            case measure => go_light; omega
            case rel => go_light; exact ⟨k + 1, ad', d', _, by omega, by omega, rfl, by go_num, rfl, hM, hE10⟩
          · have hmin : Hid (k = min x.length y.length) := Lib.hid (by have := Hx.out; have := Hy.out; omega)
            have hz1 : ¬ ((k : Int) < (n : Int) ∧ (k : Int) < (m : Int)) := by omega
            go_wp2
            go_ret2
            exact RetMC.mk_ hO hE5.size (by rw [pmlM, if_pos hbb.out, if_neg (by rw [hKo.out]; exact hbig), ← hmin.out]) (by rw [pmlC, if_pos hbb.out, if_neg (by rw [hKo.out]; exact hbig)]) (hE5.trans hEk)
    · rw [hb']
      have hbb : Hid (pb (MolsOk x ∧ MolsOk y) = false) := Lib.hid (pb_false (fun h => Hb'.out h.2))
      go_wp2
      go_ret2
      exact RetMC.nil_ (by rw [pmlM, hbb.out]; rfl) (by rw [pmlC, hbb.out]; rfl) (hE.trans hE3)
  · rw [hb]
    have hbb : Hid (pb (MolsOk x ∧ MolsOk y) = false) := Lib.hid (pb_false (fun h => Hb.out h.1))
    go_wp2
    go_ret2
    exact RetMC.nil_ (by rw [pmlM, hbb.out]; rfl) (by rw [pmlC, hbb.out]; rfl) hE

end Go.Proofs.Ytkapkieeafhaoaa
