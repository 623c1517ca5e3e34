/- ParitiesOf of both. Conditions: none. -/
import Derived.Test.YtkapkieeafhaoaaParP
import Derived.Test.YtkapkieeafhaoaaFill
import Derived.Test.YtkapkieeafhaoaaTwo
import Derived.Test.YtkapkieeafhaoaaQua
namespace Go.Proofs.Ytkapkieeafhaoaa
open Go.RowKit

set_option maxRecDepth 100000 in
set_option maxHeartbeats 1600000 in
theorem parF (a : Option Addr) (n c : Nat) (p : List (List Int)) (b1 : Nat) (w : World) (hp0 : RdR w a n c p) (hg : Rng p n) (k1 : w.cell? ⟨b1, 0, none⟩ = some (.slice a n c)) :
    Gives 91 #[.pointer (some ⟨b1, 0, none⟩)] n (fun y x => at2 p x y) w := by
  intro y x w1 hy hx hE
  have hp := RdR.ext hp0 hE
  have hb1 := hp.le
  have hb2 := hp.max
  replace k1 := hE.cell k1
  obtain ⟨b, o, ai, ci, rfl, hc, hrow⟩ := hp.row hg.1 hx
  obtain ⟨b5, o5, rfl, hc1⟩ := hrow.cell2 hy
  have i1 : (x : Int) < (n : Int) := by omega
  have i2 : (y : Int) < (n : Int) := by omega
  clear hp hp0 hE hrow hg
  show Calls Try.prog 91 #[.int .i64 y, .int .i64 x, .pointer (some ⟨b1, 0, none⟩)] w1 _
  go_enter Try.func91, Try.ntmps91
  go_wp2
  go_ret
  exact ⟨rfl, Q.refl _⟩

theorem symM_col {p : List (List Int)} {n s : Nat} (h : SqOk p) (hn : n = p.length) (hs : s < n) : symM p (s : Int) = col (bkM p n) n s := by
  rw [symM, if_pos (pb_true h), if_pos (pb_true (by omega)), ← hn, symTo_col h hn hs n (Nat.le_refl _)]

set_option maxRecDepth 100000 in
set_option maxHeartbeats 3200000 in
theorem implPar (a : Option Addr) (n c : Nat) (p : List (List Int)) (w : World) (hp : RdR w a n c p) (hs : p.length + tot p ≤ 1048576) :
    Calls Try.prog 41 #[.slice a n c] w (RetIC w (parM p) (parC p)) := by
  have hmf : ∀ (fn : Fn) (first cap : Array Value) (w : World), (Instr.makeFunc fn first cap).run Try.prog w = .ok (.func fn first cap) w := fun _ _ _ _ => rfl
  have hb1 := hp.le
  have hb2 := hp.max
  have Hl := Lib.hid hp.len
  have hE0 : Ext w (w.alloc (.cells #[.slice a n c] 22)) := (Ext.refl w).alloc _
  have k0 : (w.alloc (.cells #[.slice a n c] 22)).cell? ⟨w.heap.size, 0, none⟩ = some (.slice a n c) := (World.cell?_alloc_at _ _ _ _ rfl).trans rfl
  have K0 := Lib.hid k0
  have HE0 := Lib.hid hE0
  clear k0 hE0
  go_enter Try.func41, Try.ntmps41
  go_wp2_with fail
  refine (validSquare_any _ _ _ p _ (hp.ext HE0.out)).mono ?_
  rintro e w2 ⟨rfl, hE1⟩
  have hE := HE0.out.trans hE1
  rcases pbc (SqOk p) with ⟨hb, Hp⟩ | ⟨hb, Hp⟩
  · rw [hb]
    have Hg := Lib.hid (Hp.out.rng Hl.out)
    have hn : n ≤ 10 := Hg.out.2.1
    have k2 := hE1.cell K0.out
    have Hbb := Lib.hid hb
    clear hb
    go_wp2_with fail
    refine (sizeR_any _ _ _ _).mono ?_
    rintro e w2' ⟨rfl, rfl⟩
    go_wp2_with fail
    refine (filled n _ _ _ _ (by omega) (enters_of Try.func91 (by kernel_rfl) (by kernel_rfl)) (parF a n c p _ _ (hp.ext hE) Hg.out k2)).mono ?_
    rintro e w3 ⟨aC, nC, cC, rsC, rfl, hC0, hE3⟩
    have hC : OwnR w3 w2.heap.size aC nC cC (colsM p n n) rsC := hC0
    obtain rfl : n = nC := by have := hC.len; rwa [show (colsM p n n).length = n by simp [colsM], eq_comm] at this
    have hRC := hC.rd
    have hEw := hE.trans hE3
    have k3 := hE3.cell k2
    clear hC0 hC k2
    go_wp2
    go_loopg [5, 18] n (fun gh s i wr => ∃ (k : Nat) (ad : Option Addr) (d : Nat) (rs : List Row), k ≤ n ∧ gh = n - k ∧ i = .int .i64 k ∧ s = .slice ad k d ∧ OwnR wr w3.heap.size ad k d (colsM (bkM p n) n k) rs ∧ Ext w3 wr)
    case atStart => exact ⟨0, none, 0, [], Nat.zero_le _, rfl, rfl, rfl, OwnR.nil_ _ _, Ext.refl _⟩
    case round =>
      obtain ⟨k, ad, d, rs, hk, rfl, rfl, rfl, hO, hEk⟩ := hrel
      have k4 := hEk.cell k3
      by_cases hlt : k < n
      · have hz : (k : Int) < (n : Int) := by omega
        go_wp2_with fail
        refine (implSym _ _ _ p (k : Nat) _ (hp.ext (hEw.trans hEk)) hs (by omega) (by omega)).mono ?_
        rintro e w5 ⟨a5, n5, c5, rfl, hown, hE7⟩
        rw [symM_col Hp.out Hl.out hlt] at hown
        have hO2 := hO.ext hE7
        have hE8 := hEk.trans hE7
        have hap : ∀ g, blk a5 = some g → ¬ OwnR.fp ad rs g := fun g hg hf => by have := (hO.lt hf).2; have := (hown.lt hg).1; omega
        have hown2 := hown.base hEk.size
        have hsz := hE8.size
        clear hO hEk hE7 hown k4
        go_wp2_with (at_builtin; refine app_S rfl _ _ rfl hO2 hsz hown2 hap rfl (by omega) rfl rfl ?_; intro a2 c2 w6 hrows honly hmv)
        have hE9 := hE8.app hO2.top honly (Nat.le_refl _)
        rw [← colsM_succ] at hrows
        clear hO2 hE8 honly hmv hsz hown2 hap
        go_wp2
        go_roundg (n - (k + 1))
        case measure => go_light; omega
        case rel => go_light; exact ⟨k + 1, a2, c2, _, by omega, rfl, by go_num, rfl, hrows, hE9⟩
      · have hz : ¬ (k : Int) < (n : Int) := by omega
        obtain rfl : n = k := by omega
        have hRO := hO.rd
        have HRC := Lib.hid (hRC.ext hEk)
        clear hO hRC
        go_wp2_with fail
        refine (oddCount_any _ _ _ p _ (hp.ext (hEw.trans hEk)) (perms_rows Hp.out Hl.out)).mono ?_
        rintro e w7 ⟨rfl, hE7⟩
        obtain ⟨o1, ho1⟩ : ∃ o : Nat, odds p % 2 = o := ⟨_, rfl⟩
        rw [ho1]
        have Ho1 := Lib.hid ho1
        clear ho1
        go_wp2_with fail
        refine (oddCount_any _ _ _ (colsM p n n) _ (HRC.out.ext hE7) (perms_cols Hp.out Hl.out)).mono ?_
        rintro e w8 ⟨rfl, hE8⟩
        obtain ⟨o2, ho2⟩ : ∃ o : Nat, odds (colsM p n n) % 2 = o := ⟨_, rfl⟩
        rw [ho2]
        have Ho2 := Lib.hid ho2
        clear ho2
        go_wp2_with fail
        refine (oddCount_any _ _ _ (colsM (bkM p n) n n) _ (hRO.ext (hE7.trans hE8)) (perms_syms Hp.out Hl.out)).mono ?_
        rintro e w9 ⟨rfl, hE9⟩
        obtain ⟨o3, ho3⟩ : ∃ o : Nat, odds (colsM (bkM p n) n n) % 2 = o := ⟨_, rfl⟩
        rw [ho3]
        have Ho3 := Lib.hid ho3
        clear ho3
        have hEz := (hEw.trans hEk).trans ((hE7.trans hE8).trans hE9)
        have HP : Hid (parL p n = [(o1 : Int), (o2 : Int), (o3 : Int)]) := Lib.hid (by rw [parL, Ho1.out, Ho2.out, Ho3.out])
        go_wp2
        go_ret2
        exact RetIC.mk_ (Own.lit w9 #[.int .i64 o1, .int .i64 o2, .int .i64 o3] (xs := [(o1 : Int), (o2 : Int), (o3 : Int)]) rfl (by unfold maxLen; omega) rfl) hEz.size (by rw [parM, if_pos Hbb.out, ← Hl.out, HP.out]) (by rw [parC, if_pos Hbb.out]) (hEz.alloc _)
  · rw [hb]
    go_wp2
    go_ret2
    exact RetIC.nil_ (by rw [parM, hb]; rfl) (by rw [parC, hb]; rfl) hE

set_option maxRecDepth 100000 in
set_option maxHeartbeats 6400000 in
theorem specPar (a : Option Addr) (n c : Nat) (p : List (List Int)) (w : World) (hp : RdR w a n c p) (_ : p.length + tot p ≤ 1048576) :
    Calls Try.prog 40 #[.slice a n c] w (RetIC w (parM p) (parC p)) := by
  have hb1 := hp.le
  have hb2 := hp.max
  have Hl := Lib.hid hp.len
  go_enter Try.func40, Try.ntmps40
  go_wp2_with fail
  refine (l06Ok_any _ _ _ p _ hp).mono ?_
  rintro e w2 ⟨rfl, hE⟩
  rcases pbc (SqOk p) with ⟨hb, Hp⟩ | ⟨hb, Hp⟩
  · rw [hb]
    have Hg := Lib.hid (Hp.out.rng Hl.out)
    have hn : n ≤ 10 := Hg.out.2.1
    have Hbb := Lib.hid hb
    have hw := hE.size
    have hEa := (hE.alloc (.cells #[] 29)).alloc (.cells #[] 29)
    have HBel : Hid (∀ x, x < n → Below_ (gr p x) n) := Lib.hid (fun x hx => by have h1 := (Hp.out.2.2.2.1 x (by have := Hl.out; omega)).below; rwa [Hg.out.1.2 x hx] at h1)
    clear hb
    have T0 := two_start w2
    go_wp2
    go_loopg [4, 5, 6] n (fun gh s t i wr => ∃ (k : Nat) (a4 : Option Addr) (c4 : Nat) (rs4 : List Row) (a5 : Option Addr) (c5 : Nat) (rs5 : List Row), k ≤ n ∧ gh = n - k ∧ s = .slice a4 k c4 ∧ t = .slice a5 k c5 ∧ i = .int .i64 k ∧ Two wr w2.heap.size a4 k c4 (colsM p n k) rs4 a5 k c5 (colsM (bkM p n) n k) rs5 ∧ Ext w2 wr)
    case atStart => exact ⟨0, _, 0, [], _, 0, [], Nat.zero_le _, rfl, rfl, rfl, rfl, T0, ((Ext.refl _).alloc _).alloc _⟩
    case round =>
      obtain ⟨k, a4, c4, rs4, a5, c5, rs5, hk, rfl, rfl, rfl, rfl, hT, hEk⟩ := hrel
      clear T0 hEa
      by_cases hlt : k < n
      · have hz : (k : Int) < (n : Int) := by omega
        have hF0 := Four.start hT hEk.size
        have hE0 := (hEk.alloc (.cells #[] 2)).alloc (.cells #[] 2)
        clear hT hEk
        go_wp2
        go_loopg [7, 8, 9] n (fun gh s t i wi => ∃ (x : Nat) (a7 : Option Addr) (d7 : Nat) (a8 : Option Addr) (d8 : Nat), x ≤ n ∧ gh = n - x ∧ s = .slice a7 x d7 ∧ t = .slice a8 x d8 ∧ i = .int .i64 x ∧ Four wi w2.heap.size a4 k c4 (colsM p n k) rs4 a5 k c5 (colsM (bkM p n) n k) rs5 a7 x d7 (col p x k) a8 x d8 (col (bkM p n) x k) ∧ Ext w2 wi)
        case atStart => exact ⟨0, _, 0, _, 0, Nat.zero_le _, rfl, rfl, rfl, rfl, hF0, hE0⟩
        case round =>
          obtain ⟨x, a7, d7, a8, d8, hx, rfl, rfl, rfl, rfl, hF, hEi⟩ := hrel
          clear hF0 hE0
          by_cases hlx : x < n
          · have hz2 : (x : Int) < (n : Int) := by omega
            obtain ⟨b, o, ai, ci, rfl, hc0, hrow⟩ := hp.row Hg.out.1 hlx
            obtain ⟨b5, o5, rfl, hc1⟩ := hrow.cell2 hlt
            have hc := (hE.trans hEi).cell hc0
            have hd := (hE.trans hEi).cell hc1
            have hsz := hEi.size
            go_wp2_with (at_builtin; refine app_I rfl _ _ rfl hF.row hsz rfl (by omega) rfl rfl ?_; intro a7' d7' w3 hrow3 honly hmv; have hcB := ((hE.trans hEi).app hF.row honly (Nat.le_trans hw (Nat.le_refl _))).cell hc0)
            have hF2 := hF.appX hrow3 honly hmv
            have hE3 := hEi.app hF.row honly (Nat.le_refl _)
            rw [← col_succ] at hF2
            clear hF hEi hrow3 honly hmv hc hd hsz hcB
            refine (l04Back_any _ n _ (gr p x) _ (hrow.ext (hE.trans hE3)) (by omega) (HBel.out x hlx)).mono ?_
            rintro e w5 ⟨a9, n9, c9, rfl, hB9, hE5⟩
            obtain rfl : n = n9 := by have := hB9.len; rw [inv_length, Hg.out.1.2 x hlx] at this; omega
            have hg9 := hB9.rdI.gi hlt
            rw [show gi (inv (gr p x)) k = at2 (bkM p n) x k by rw [at2, gr_bkM hlx]] at hg9
            obtain ⟨b9, o9, rfl, hc9⟩ := hg9
            have hF3 := hF2.ext hE5
            have hE6 := hE3.trans hE5
            have hsz := hE6.size
            clear hF2 hE3 hE5 hB9
            go_wp2_with (at_builtin; refine app_I rfl _ _ rfl hF3.t.row hsz rfl (by omega) rfl rfl ?_; intro a8' d8' w7 hrow7 honly hmv)
            have hF4 := hF3.appY hrow7 honly hmv
            have hE7 := hE6.app hF3.t.row honly (Nat.le_refl _)
            rw [← col_succ] at hF4
            clear hF3 hE6 hrow7 honly hmv hsz hc9
            go_wp2
            go_roundg (n - (x + 1))
            case measure => go_light; omega
            case rel => go_light; exact ⟨x + 1, a7', d7', a8', d8', by omega, rfl, rfl, rfl, by go_num, hF4, hE7⟩
          · have hz2 : ¬ (x : Int) < (n : Int) := by omega
            obtain rfl : n = x := by omega
            have hsz := hEi.size
            go_wp2_with (first | (at_builtin; refine app_S rfl _ _ rfl h3.t.two hsz3 h3.row (fun g hg => (h3.ap g hg).2) rfl (by omega) rfl rfl ?_; intro a5' c5' w5 hrows5 honly5 hmv5) | (at_builtin; refine app_S rfl _ _ rfl hF.t.t.one hsz hF.row (fun g hg => (hF.ap g hg).1) rfl (by omega) rfl rfl ?_; intro a4' c4' w4 hrows4 honly4 hmv4; have h3 := hF.push hrows4 honly4 hmv4; have hE4 := hEi.app hF.t.t.one.top honly4 (Nat.le_refl _); have hsz3 := hE4.size))
            have hT2 := h3.push hrows5 honly5 hmv5
            have hE5 := hE4.app h3.t.two.top honly5 (Nat.le_refl _)
            rw [← colsM_succ, ← colsM_succ] at hT2
            clear hF hEi h3 hE4 hrows4 honly4 hmv4 hrows5 honly5 hmv5 hsz hsz3
            go_wp2
            go_roundg (n - (k + 1))
            case measure => go_light; omega
            case rel => go_light; exact ⟨k + 1, a4', c4', _, a5', c5', _, by omega, rfl, rfl, rfl, by go_num, hT2, hE5⟩
      · have hz : ¬ (k : Int) < (n : Int) := by omega
        obtain rfl : n = k := by omega
        have hEw := hE.trans hEk
        have hRC := Lib.hid hT.one.rd
        have hRO := Lib.hid hT.two.rd
        clear hT hEk
        go_wp2_with fail
        refine (l08Odd_any _ _ _ p _ (hp.ext hEw) (perms_rows Hp.out Hl.out)).mono ?_
        rintro e w7 ⟨rfl, hE7⟩
        obtain ⟨o1, ho1⟩ : ∃ o : Nat, odds p % 2 = o := ⟨_, rfl⟩
        rw [ho1]
        have Ho1 := Lib.hid ho1
        clear ho1
        go_wp2_with fail
        refine (l08Odd_any _ _ _ (colsM p n n) _ (hRC.out.ext hE7) (perms_cols Hp.out Hl.out)).mono ?_
        rintro e w8 ⟨rfl, hE8⟩
        obtain ⟨o2, ho2⟩ : ∃ o : Nat, odds (colsM p n n) % 2 = o := ⟨_, rfl⟩
        rw [ho2]
        have Ho2 := Lib.hid ho2
        clear ho2
        go_wp2_with fail
        refine (l08Odd_any _ _ _ (colsM (bkM p n) n n) _ (hRO.out.ext (hE7.trans hE8)) (perms_syms Hp.out Hl.out)).mono ?_
        rintro e w9 ⟨rfl, hE9⟩
        obtain ⟨o3, ho3⟩ : ∃ o : Nat, odds (colsM (bkM p n) n n) % 2 = o := ⟨_, rfl⟩
        rw [ho3]
        have Ho3 := Lib.hid ho3
        clear ho3
        have hEz := hEw.trans ((hE7.trans hE8).trans hE9)
        have HP : Hid (parL p n = [(o1 : Int), (o2 : Int), (o3 : Int)]) := Lib.hid (by rw [parL, Ho1.out, Ho2.out, Ho3.out])
        go_wp2
        go_ret2
        exact RetIC.mk_ (Own.lit w9 #[.int .i64 o1, .int .i64 o2, .int .i64 o3] (xs := [(o1 : Int), (o2 : Int), (o3 : Int)]) rfl (by unfold maxLen; omega) rfl) hEz.size (by rw [parM, if_pos Hbb.out, ← Hl.out, HP.out]) (by rw [parC, if_pos Hbb.out]) (hEz.alloc _)
  · rw [hb]
    go_wp2
    go_ret2
    exact RetIC.nil_ (by rw [parM, hb]; rfl) (by rw [parC, hb]; rfl) hE
end Go.Proofs.Ytkapkieeafhaoaa
