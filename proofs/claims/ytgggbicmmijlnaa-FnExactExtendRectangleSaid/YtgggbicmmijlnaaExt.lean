/- ExtendRectangle of both. Conditions: none. -/
import Derived.Test.YtgggbicmmijlnaaHalE
import Derived.Test.YtgggbicmmijlnaaLro
import Derived.Test.YtgggbicmmijlnaaCand
import Derived.Test.YtgggbicmmijlnaaPartS
import Derived.Test.YtgggbicmmijlnaaOwnL
import Derived.Test.YtgggbicmmijlnaaRst
namespace Go.Proofs.Ytgggbicmmijlnaa
open Go.RowKit

def RecAns (p : List (List Int)) (n f : Nat) (b : Bool) : Prop := (b = true → RecAt p n f n) ∧ (b = false → ¬ ∃ f, RecAt p n f n)

def RecRet (p : List (List Int)) (n : Nat) (w : World) (e : Ending) (w' : World) : Prop := ∃ (f : Nat) (b : Bool), e = .returned (.tuple #[.int .i64 f, .bool b]) ∧ Hid (RecAns p n f b) ∧ Ext w w'

set_option maxRecDepth 100000 in
set_option maxHeartbeats 1600000 in
theorem fullRows_any (a : Option Addr) (n c : Nat) (p : List (List Int)) (w : World) (hx : RdR w a n c p) (hr : Rect p n n) (hn0 : 0 < n) (hn : n ≤ 100) :
    Calls Try.prog 39 #[.slice a n c] w (RecRet p n w) := by
  have hb1 := hx.le
  have hb2 := hx.max
  have Hr := Lib.hid hr
  clear hr
  go_enter Try.func39, Try.ntmps39
  go_wp2
  go_loopg [4, 12] n (fun gh fv ix wr => ∃ (k f : Nat), k ≤ n ∧ gh = n - k ∧ f ≤ k ∧ fv = .int .i64 f ∧ ix = .int .i64 k ∧ Hid (RecAt p n f k) ∧ Ext w wr)
  case atStart => exact ⟨0, 0, Nat.zero_le _, rfl, Nat.le_refl _, rfl, rfl, Lib.hid (RecAt.start p n), Ext.refl _⟩
  case round =>
    obtain ⟨k, f, hk, rfl, hf, rfl, rfl, HR, hE⟩ := hrel
    by_cases hlt : k < n
    · have hzk : (k : Int) < (n : Int) := by omega
      obtain ⟨b, o, ai, ci, rfl, hc, hrow⟩ := (hx.ext hE).row Hr.out hlt
      have hrow0 := hrow
      have hbi1 := hrow.le
      have hbi2 := hrow.max
      go_wp2
      go_loopg [7, 19] n (fun gh ev ix wi => ∃ (j e : Nat), j ≤ n ∧ gh = n - j ∧ e ≤ j ∧ ev = .int .i64 e ∧ ix = .int .i64 j ∧ Hid (e = emp p k j) ∧ Ext w wi ∧ RdI wi ai n ci (gr p k))
      case atStart => exact ⟨0, 0, Nat.zero_le _, rfl, Nat.le_refl _, rfl, rfl, Lib.hid rfl, hE, hrow0⟩
      case round =>
        clear hrow hrow0 hE hc
        obtain ⟨j, e, hj, rfl, he, rfl, rfl, HE, hEi, hrow⟩ := hrel
        by_cases hlj : j < n
        · have hzj : (j : Int) < (n : Int) := by omega
          obtain ⟨b1, o1, rfl, hc1⟩ := hrow.cell2 hlj
          by_cases h1 : at2 p k j = -1
          · have h1b : (at2 p k j == -1) = true := by simp [h1]
            have H1 : Hid (e + 1 = emp p k (j + 1)) := Lib.hid (by rw [emp_yes h1, HE.out])
            clear h1
            go_wp2
            go_roundg (n - (j + 1))
            case measure => go_light; omega
            case rel => go_light; exact ⟨j + 1, e + 1, by omega, rfl, by omega, by go_num, by go_num, H1, hEi, hrow⟩
          · have h1b : (at2 p k j == -1) = false := by simp [h1]
            have H1 : Hid (e = emp p k (j + 1)) := Lib.hid (by rw [emp_no h1, HE.out])
            clear h1
            go_wp2
            go_roundg (n - (j + 1))
            case measure => go_light; omega
            case rel => go_light; exact ⟨j + 1, e, by omega, rfl, by omega, rfl, by go_num, H1, hEi, hrow⟩
        · have hzj : ¬ (j : Int) < (n : Int) := by omega
          obtain rfl : n = j := by omega
          by_cases e0 : e = 0
          · have e0b : ((e : Int) == 0) = true := by simp [e0]
            by_cases ef : f = k
            · have efb : ((f : Int) == (k : Int)) = true := by simp [ef]
              have HR2 : Hid (RecAt p n (f + 1) (k + 1)) := Lib.hid (by
                subst ef
                exact HR.out.full (by rw [← HE.out]; exact e0))
              clear e0 ef
              go_wp2
              go_roundg (n - (k + 1))
              case measure => go_light; omega
              case rel => go_light; exact ⟨k + 1, f + 1, by omega, rfl, by omega, by go_num, by go_num, HR2, hEi⟩
            · have efb : ((f : Int) == (k : Int)) = false := by simp; omega
              have enb : ((e : Int) != (n : Int)) = true := by simp; omega
              have HR2 : Hid (RecAns p n 0 false) := Lib.hid ⟨(fun h => by cases h), fun _ => HR.out.bad hn0 hlt (fun h => ef h.2) (by rw [← HE.out]; omega)⟩
              clear e0 ef
              go_wp2
              go_ret2
              exact ⟨0, false, rfl, HR2, hEi⟩
          · have e0b : ((e : Int) == 0) = false := by simp; omega
            by_cases en : e = n
            · have enb : ((e : Int) != (n : Int)) = false := by simp [en]
              have HR2 : Hid (RecAt p n f (k + 1)) := Lib.hid (HR.out.free (by rw [← HE.out]; exact en))
              clear e0 en
              go_wp2
              go_roundg (n - (k + 1))
              case measure => go_light; omega
              case rel => go_light; exact ⟨k + 1, f, by omega, rfl, by omega, rfl, by go_num, HR2, hEi⟩
            · have enb : ((e : Int) != (n : Int)) = true := by simp; omega
              have HR2 : Hid (RecAns p n 0 false) := Lib.hid ⟨(fun h => by cases h), fun _ => HR.out.bad hn0 hlt (fun h => e0 (by rw [HE.out]; exact h.1)) (by rw [← HE.out]; exact en)⟩
              clear e0 en
              go_wp2
              go_ret2
              exact ⟨0, false, rfl, HR2, hEi⟩
    · have hzk : ¬ (k : Int) < (n : Int) := by omega
      obtain rfl : n = k := by omega
      go_wp2
      go_ret2
      exact ⟨f, true, rfl, Lib.hid ⟨fun _ => HR.out, fun h => by cases h⟩, hE⟩

def RctAns (p : List (List Int)) (n : Nat) (z : Int) : Prop := (0 ≤ z → RecAt p n z.toNat n) ∧ (z < 0 → ¬ ∃ f, RecAt p n f n)
def RctRet (p : List (List Int)) (n : Nat) (w : World) (e : Ending) (w' : World) : Prop := ∃ z : Int, e = .returned (.int .i64 z) ∧ (-1 ≤ z ∧ z ≤ 100) ∧ Hid (RctAns p n z) ∧ Ext w w'
def Endd (d : Bool) (f k : Nat) : Prop := d = true ↔ f < k
theorem OwnR.some_g {w : World} {B n c : Nat} {a : Option Addr} {p : List (List Int)} {rs : List Row} (h : OwnR w B a n c p rs) (hn : 0 < n) : ∃ b, a = some ⟨b, 0, none⟩ := by
  obtain ⟨g, r, xs, h1, _⟩ := h.at_ (k := 0) hn
  exact ⟨g, h1⟩

set_option maxRecDepth 100000 in
set_option maxHeartbeats 1600000 in
theorem l09Rectangle_any (a : Option Addr) (n c : Nat) (p : List (List Int)) (w : World) (hx : RdR w a n c p) (hr : Rect p n n) (hlow : ∀ x y, x < n → y < n → -1 ≤ at2 p x y) (hn0 : 0 < n) (hn : n ≤ 100) :
    Calls Try.prog 33 #[.slice a n c] w (RctRet p n w) := by
  have hb1 := hx.le
  have hb2 := hx.max
  have Hr := Lib.hid hr
  have Hlow := Lib.hid hlow
  clear hr hlow
  go_enter Try.func33, Try.ntmps33
  go_wp2
  go_loopg [4, 5, 6] n (fun gh fv dv ix wr => ∃ (k f : Nat) (d : Bool), k ≤ n ∧ gh = n - k ∧ f ≤ k ∧ fv = .int .i64 f ∧ dv = .bool d ∧ ix = .int .i64 k ∧ Hid (Endd d f k) ∧ Hid (RecAt p n f k) ∧ Ext w wr)
  case atStart => exact ⟨0, 0, false, Nat.zero_le _, rfl, Nat.le_refl _, rfl, rfl, rfl, Lib.hid ⟨(fun h => by cases h), fun h => absurd h (Nat.not_lt_zero _)⟩, Lib.hid (RecAt.start p n), Ext.refl _⟩
  case round =>
    obtain ⟨k, f, d, hk, rfl, hf, rfl, rfl, rfl, HD, HR, hE⟩ := hrel
    by_cases hlt : k < n
    · have hzk : (k : Int) < (n : Int) := by omega
      go_wp2
      go_loopg [7, 8] n (fun gh ev ix wi => ∃ (j e : Nat), j ≤ n ∧ gh = n - j ∧ e ≤ j ∧ ev = .int .i64 e ∧ ix = .int .i64 j ∧ Hid (e + emp p k j = j) ∧ Ext w wi)
      case atStart => exact ⟨0, 0, Nat.zero_le _, rfl, Nat.le_refl _, rfl, rfl, Lib.hid rfl, hE⟩
      case round =>
        clear hE
        obtain ⟨j, e, hj, rfl, he, rfl, rfl, HE, hEi⟩ := hrel
        by_cases hlj : j < n
        · have hzj : (j : Int) < (n : Int) := by omega
          obtain ⟨b, o, ai, ci, rfl, hc, hrow⟩ := (hx.ext hEi).row Hr.out hlt
          obtain ⟨b1, o1, rfl, hc1⟩ := hrow.cell2 hlj
          have hbi1 := hrow.le
          have hbi2 := hrow.max
          clear hrow
          by_cases h1 : at2 p k j = -1
          · have h1b : decide (0 ≤ at2 p k j) = false := by simp [h1]
            have h1c : ¬ (0 ≤ at2 p k j) := by omega
            have H1 : Hid (e + emp p k (j + 1) = j + 1) := Lib.hid (by rw [emp_yes h1]; have := HE.out; omega)
            clear h1
            go_wp2
            go_roundg (n - (j + 1))
            case measure => go_light; omega
            case rel => go_light; exact ⟨j + 1, e, by omega, rfl, by omega, rfl, by go_num, H1, hEi⟩
          · have h1c : (0 ≤ at2 p k j) := by have := Hlow.out k j hlt hlj; omega
            have h1b : decide (0 ≤ at2 p k j) = true := by simp [h1c]
            have H1 : Hid (e + 1 + emp p k (j + 1) = j + 1) := Lib.hid (by rw [emp_no h1]; have := HE.out; omega)
            clear h1
            go_wp2
            go_roundg (n - (j + 1))
            case measure => go_light; omega
            case rel => go_light; exact ⟨j + 1, e + 1, by omega, rfl, by omega, by go_num, by go_num, H1, hEi⟩
        · have hzj : ¬ (j : Int) < (n : Int) := by omega
          obtain rfl : n = j := by omega
          by_cases en : e = n
          · have enb : ((e : Int) == (n : Int)) = true := by simp [en]
            have e0b : ((e : Int) == 0) = false := by simp; omega
            cases d
            · have ef : f = k := by
                apply Classical.byContradiction
                intro h
                have := HD.out.2 (by omega)
                cases this
              have HR2 : Hid (RecAt p n (f + 1) (k + 1)) := Lib.hid (by
                subst ef
                exact HR.out.full (by have := HE.out; omega))
              have HD2 : Hid (Endd false (f + 1) (k + 1)) := Lib.hid ⟨(fun h => by cases h), fun h => by omega⟩
              clear en ef
              go_wp2
              go_roundg (n - (k + 1))
              case measure => go_light; omega
              case rel => go_light; exact ⟨k + 1, f + 1, false, by omega, rfl, by omega, by go_num, rfl, by go_num, HD2, HR2, hEi⟩
            · have HR2 : Hid (RctAns p n (-1)) := Lib.hid ⟨fun h => by omega, fun _ => HR.out.bad hn0 hlt (fun h => by have := HD.out.1 rfl; have := h.2; omega) (by have := HE.out; omega)⟩
              clear en
              go_wp2
              go_ret
              exact ⟨-1, rfl, by omega, HR2, hEi⟩
          · have enb : ((e : Int) == (n : Int)) = false := by simp; omega
            by_cases e0 : e = 0
            · have e0b : ((e : Int) == 0) = true := by simp [e0]
              have HR2 : Hid (RecAt p n f (k + 1)) := Lib.hid (HR.out.free (by have := HE.out; omega))
              have HD2 : Hid (Endd true f (k + 1)) := Lib.hid ⟨fun h => by omega, fun h => rfl⟩
              clear en e0
              go_wp2
              go_roundg (n - (k + 1))
              case measure => go_light; omega
              case rel => go_light; exact ⟨k + 1, f, true, by omega, rfl, by omega, rfl, rfl, by go_num, HD2, HR2, hEi⟩
            · have e0b : ((e : Int) == 0) = false := by simp; omega
              have HR2 : Hid (RctAns p n (-1)) := Lib.hid ⟨fun h => by omega, fun _ => HR.out.bad hn0 hlt (fun h => by have := HE.out; have := h.1; omega) (by have := HE.out; omega)⟩
              clear en e0
              go_wp2
              go_ret
              exact ⟨-1, rfl, by omega, HR2, hEi⟩
    · have hzk : ¬ (k : Int) < (n : Int) := by omega
      obtain rfl : n = k := by omega
      go_wp2
      go_ret
      exact ⟨f, rfl, by omega, Lib.hid ⟨fun _ => by rw [Int.toNat_natCast]; exact HR.out, fun h => by omega⟩, hE⟩

theorem ext_next {p : List (List Int)} {n f x : Nat} (h : f ≤ x) : ext_ p n f (x + 1 - f) = (ext_ p n f (x - f)).set x (lrow (cls (ext_ p n f (x - f)) n x) n n) := by
  rw [show x + 1 - f = (x - f) + 1 by omega, ext_, show f + (x - f) = x by omega]
theorem ext_at {p : List (List Int)} {n f : Nat} (h : RecOk p n f) {x : Nat} (hx : f ≤ x) (hn : x ≤ n) : RecOk (ext_ p n f (x - f)) n x := by
  have := ext_ok h (x - f) (by omega)
  rwa [show f + (x - f) = x by omega] at this
theorem cls_snoc (M : List (List Int)) (x j : Nat) : ((List.range j).map fun y => cands M x y) ++ [cands M x j] = (List.range (j + 1)).map fun y => cands M x y := by rw [List.range_succ, List.map_append]; rfl
theorem cands_len {M : List (List Int)} {n x y : Nat} (h : M.length = n) : (cands M x y).length ≤ n := by rw [cands, h]; exact candsTo_len _ _ _ _ _

set_option maxRecDepth 100000 in
set_option maxHeartbeats 3200000 in
theorem implExt (a : Option Addr) (n c : Nat) (p : List (List Int)) (w : World) (hx : RdR w a n c p) (hs : p.length + tot p ≤ 1048576) :
    Calls Try.prog 16 #[.slice a n c] w (RetRC w (exM p) (exC p)) := by
  have hb1 := hx.le
  have hb2 := hx.max
  have Hl := Lib.hid hx.len
  go_enter Try.func16, Try.ntmps16
  go_wp2_with fail
  refine (validPartial_any a n c p _ hx).mono ?_
  rintro e w2 ⟨rfl, hE⟩
  rcases pbc (POk p) with ⟨hb, Hb⟩ | ⟨hb, Hb⟩
  · rw [hb]
    clear hb
    have hn0 : 0 < n := by rw [Hl.out]; exact Hb.out.1
    have hn10 : n ≤ 10 := by rw [Hl.out]; exact Hb.out.2.1
    have HRc : Hid (Rect p n n) := Lib.hid (by rw [Hl.out]; exact Hb.out.2.2.1)
    go_wp2_with fail
    refine (fullRows_any a n c p _ (hx.ext hE) HRc.out hn0 (by omega)).mono ?_
    rintro e w3 ⟨f, b, rfl, HA, hE3⟩
    have hE4 := hE.trans hE3
    clear hE hE3
    cases b
    · have hC := Lib.hid (ex_6 Hb.out (show ¬ IsRec p by have := HA.out.2 rfl; rw [Hl.out] at this; exact this))
      go_wp2
      go_ret2
      exact RetRC.mk_ (OwnR.nil_ _ _) (Nat.le_refl _) hC.out.1 hC.out.2 hE4
    · have HAt := Lib.hid (HA.out.1 rfl)
      have hfn : f ≤ n := HAt.out.1
      have HC := Lib.hid (ex_0 Hl.out Hb.out HAt.out)
      have HK := Lib.hid (Hb.out.rec Hl.out HAt.out)
      clear HA
      go_wp2_with fail
      refine (copyLists_any _ _ _ p _ (hx.ext hE4) (by omega)).mono ?_
      rintro e w5 ⟨a6, n6, c6, rs, rfl, hO, hE5⟩
      obtain rfl : n6 = n := by rw [hO.len, Hl.out]
      have hO0 := hO.base (B' := w.heap.size) hE4.size
      have hE6 := hE4.trans hE5
      clear hO hE4 hE5
      obtain ⟨g, rfl⟩ := hO0.some_g hn0
      go_wp2
      go_loopg [7] (1 * (n6 - f)) (fun gh ix wr => ∃ (x : Nat) (rs : List Row), f ≤ x ∧ x ≤ n6 ∧ gh = 1 * (n6 - x) ∧ ix = .int .i64 x ∧ OwnR wr w.heap.size (some ⟨g, 0, none⟩) n6 c6 (ext_ p n6 f (x - f)) rs ∧ Ext w wr)
      case atStart => exact ⟨f, rs, Nat.le_refl _, hfn, rfl, rfl, by rw [Nat.sub_self]; exact hO0, hE6⟩
      case round =>
        clear hO0 hE6
        obtain ⟨x, rs, hfx, hxn, rfl, rfl, hO, hE⟩ := hrel
        have hbo := hO.top.le
        by_cases hlt : x < n6
        · have hzx : (x : Int) < (n6 : Int) := by omega
          have HKx := Lib.hid (ext_at HK.out hfx hxn)
          obtain ⟨M, hM⟩ : ∃ M, ext_ p n6 f (x - f) = M := ⟨_, rfl⟩
          have HM := Lib.hid hM
          rw [hM] at hO
          clear hM
          have HKm : Hid (RecOk M n6 x) := Lib.hid (by rw [← HM.out]; exact HKx.out)
          go_wp2
          obtain ⟨wo, rfl⟩ : ∃ wo : World, wo = wr := ⟨_, rfl⟩
          go_loopg [8, 31] n6 (fun gh lv ix wi => ∃ (j : Nat) (ad : Option Addr) (d : Nat) (rl : List Row), j ≤ n6 ∧ gh = n6 - j ∧ lv = .slice ad j d ∧ ix = .int .i64 j ∧ OwnR wi wo.heap.size ad j d ((List.range j).map fun y => cands M x y) rl ∧ Ext wo wi)
          case atStart => exact ⟨0, none, 0, [], Nat.zero_le _, rfl, rfl, rfl, OwnR.nil_ _ _, Ext.refl _⟩
          case round =>
            obtain ⟨j, ad, d, rl, hj, rfl, rfl, rfl, hL, hEi⟩ := hrel
            by_cases hlj : j < n6
            · have hzj : (j : Int) < (n6 : Int) := by omega
              go_wp2_with fail
              refine (candidates_any _ n6 c6 M x j _ (hO.ext hEi).rd HKm.out.rect (by omega) hlt hlj).mono ?_
              rintro e w7 ⟨a7, n7, c7, rfl, hI, hE7⟩
              have hL7 := hL.ext hE7
              have hE8 := hEi.trans hE7
              have hsz := hE8.size
              have hI7 := hI.base (B' := wo.heap.size) hEi.size
              have hap : ∀ g, blk a7 = some g → ¬ OwnR.fp ad rl g := fun g hg hf => by have h1 := (hL.lt hf).2; have h2 := (hI.lt hg).1; omega
              go_wp2_with (at_builtin; refine app_S rfl _ _ rfl hL7 hsz hI7 hap rfl (by omega) rfl rfl ?_; intro ad2 d2 w8 hrows honly hmv)
              rw [cls_snoc] at hrows
              have hE9 := hE8.app hL7.top honly (Nat.le_refl _)
              clear hL hL7 hEi hE7 hE8 hsz hI hI7 hap honly hmv
              go_wp2
              go_roundg (n6 - (j + 1))
              case measure => go_light; omega
              case rel => go_light; exact ⟨j + 1, ad2, d2, _, by omega, rfl, rfl, by go_num, hrows, hE9⟩
            · have hzj : ¬ (j : Int) < (n6 : Int) := by omega
              obtain rfl : n6 = j := by omega
              have hB := cls_bel (x := x) HKm.out.rect.1
              have HBl := Lib.hid hB
              clear hB
              go_wp2_with fail
              refine (leastRow_any ad n6 d (cls M n6 x) _ hL.rd HBl.out (by omega) (rec_sdr HKm.out hlt)).mono ?_
              rintro e w7 ⟨a7, n7, c7, rfl, hI, hE7⟩
              have hE8 := hEi.trans hE7
              have hO8 := hO.ext hE8
              have hEw := hE.trans hE8
              obtain ⟨g', r9, xs9, hh, hB9, hc9, hf9, -⟩ := hO8.at_ (k := x) hlt
              cases hh
              have hI7 := hI.base (B' := w.heap.size) (by have := hE.size; have := hEi.size; omega)
              have hO9 := hO8.setRow (k := x) rfl (a7, n7, c7) (lrow (cls M n6 x) n6 n6) hI7 (fun g' hg' hf => by have h1 := (hO.lt hf).2; have h2 := (hI.lt hg').1; have := hEi.size; omega)
              have hE9 := hEw.setCell (p := ⟨g, x, none⟩) hB9 (.slice a7 n7 c7)
              have HN : Hid (M.set x (lrow (cls M n6 x) n6 n6) = ext_ p n6 f (x + 1 - f)) := Lib.hid (by rw [ext_next hfx, HM.out])
              rw [HN.out] at hO9
              clear hO hE hL hEi hI hE7 hE8 hO8 hEw hI7
              go_wp2
              go_roundg (1 * (n6 - (x + 1)))
              case measure => go_light; omega
              case rel => go_light; exact ⟨x + 1, _, by omega, by omega, rfl, by go_num, hO9, hE9⟩
        · have hzx : ¬ (x : Int) < (n6 : Int) := by omega
          obtain rfl : n6 = x := by omega
          go_wp2
          go_ret2
          exact RetRC.mk_ hO (Nat.le_refl _) HC.out.1 HC.out.2 hE
  · rw [hb]
    have hC := Lib.hid (ex_1 Hb.out)
    clear hb
    go_wp2
    go_ret2
    exact RetRC.mk_ (OwnR.nil_ _ _) (Nat.le_refl _) hC.out.1 hC.out.2 hE

set_option maxRecDepth 100000 in
set_option maxHeartbeats 3200000 in
theorem specExt (a : Option Addr) (n c : Nat) (p : List (List Int)) (w : World) (hx : RdR w a n c p) (hs : p.length + tot p ≤ 1048576) :
    Calls Try.prog 14 #[.slice a n c] w (RetRC w (exM p) (exC p)) := by
  have hb1 := hx.le
  have hb2 := hx.max
  have Hl := Lib.hid hx.len
  go_enter Try.func14, Try.ntmps14
  go_wp2_with fail
  refine (l09Ok_any a n c p _ hx).mono ?_
  rintro e w2 ⟨rfl, hE⟩
  rcases pbc (POk p) with ⟨hb, Hb⟩ | ⟨hb, Hb⟩
  · rw [hb]
    clear hb
    have hn0 : 0 < n := by rw [Hl.out]; exact Hb.out.1
    have hn10 : n ≤ 10 := by rw [Hl.out]; exact Hb.out.2.1
    have HRc : Hid (Rect p n n) := Lib.hid (by rw [Hl.out]; exact Hb.out.2.2.1)
    have HLow : Hid (∀ x y, x < n → y < n → -1 ≤ at2 p x y) := Lib.hid (fun x y h1 h2 => (Hb.out.2.2.2 x y (by rw [← Hl.out]; exact h1) (by rw [← Hl.out]; exact h2)).1)
    go_wp2_with fail
    refine (l09Rectangle_any a n c p _ (hx.ext hE) HRc.out HLow.out hn0 (by omega)).mono ?_
    rintro e w3 ⟨z, rfl, ⟨hz1, hz2⟩, HA, hE3⟩
    have hE4 := hE.trans hE3
    clear hE hE3
    by_cases hz : z < 0
    · have hC := Lib.hid (ex_6 Hb.out (show ¬ IsRec p by have := HA.out.2 hz; rw [Hl.out] at this; exact this))
      have hzb : decide (z < 0) = true := decide_eq_true hz
      go_wp2
      go_ret2
      exact RetRC.mk_ (OwnR.nil_ _ _) (Nat.le_refl _) hC.out.1 hC.out.2 hE4
    · obtain ⟨f, rfl⟩ := Int.eq_ofNat_of_zero_le (show 0 ≤ z by omega)
      have hzb : decide ((f : Int) < 0) = false := decide_eq_false hz
      have HAt : Hid (RecAt p n f n) := Lib.hid (by have := HA.out.1 (by omega); rwa [Int.toNat_natCast] at this)
      have hfn : f ≤ n := HAt.out.1
      have HC := Lib.hid (ex_0 Hl.out Hb.out HAt.out)
      have HK := Lib.hid (Hb.out.rec Hl.out HAt.out)
      clear HA
      go_wp2_with fail
      refine (l06Own_any _ _ _ p _ (hx.ext hE4) (by omega)).mono ?_
      rintro e w5 ⟨a6, n6, c6, rs, rfl, hO, hE5⟩
      obtain rfl : n6 = n := by rw [hO.len, Hl.out]
      have hO0 := hO.base (B' := w.heap.size) hE4.size
      have hE6 := hE4.trans hE5
      clear hO hE4 hE5
      obtain ⟨g, rfl⟩ := hO0.some_g hn0
      go_wp2
      go_loopg [7] (1 * (n6 - f)) (fun gh ix wr => ∃ (x : Nat) (rs : List Row), f ≤ x ∧ x ≤ n6 ∧ gh = 1 * (n6 - x) ∧ ix = .int .i64 x ∧ OwnR wr w.heap.size (some ⟨g, 0, none⟩) n6 c6 (ext_ p n6 f (x - f)) rs ∧ Ext w wr)
      case atStart => exact ⟨f, rs, Nat.le_refl _, hfn, rfl, rfl, by rw [Nat.sub_self]; exact hO0, hE6⟩
      case round =>
        clear hO0 hE6
        obtain ⟨x, rs, hfx, hxn, rfl, rfl, hO, hE⟩ := hrel
        have hbo := hO.top.le
        by_cases hlt : x < n6
        · have hzx : (x : Int) < (n6 : Int) := by omega
          have HKx := Lib.hid (ext_at HK.out hfx hxn)
          obtain ⟨M, hM⟩ : ∃ M, ext_ p n6 f (x - f) = M := ⟨_, rfl⟩
          have HM := Lib.hid hM
          rw [hM] at hO
          clear hM
          have HKm : Hid (RecOk M n6 x) := Lib.hid (by rw [← HM.out]; exact HKx.out)
          go_wp2
          obtain ⟨wo, rfl⟩ : ∃ wo : World, wo = wr := ⟨_, rfl⟩
          have HL0 := OwnR.empty wo
          have HE0 := (Ext.refl wo).alloc (.cells #[] 56)
          go_loopg [8, 9] n6 (fun gh lv ix wi => ∃ (j : Nat) (ad : Option Addr) (d : Nat) (rl : List Row), j ≤ n6 ∧ gh = n6 - j ∧ lv = .slice ad j d ∧ ix = .int .i64 j ∧ OwnR wi wo.heap.size ad j d ((List.range j).map fun y => cands M x y) rl ∧ Ext wo wi)
          case atStart => exact ⟨0, _, 0, [], Nat.zero_le _, rfl, rfl, rfl, HL0, HE0⟩
          case round =>
            clear HL0 HE0
            obtain ⟨j, ad, d, rl, hj, rfl, rfl, rfl, hL, hEi⟩ := hrel
            by_cases hlj : j < n6
            · have hzj : (j : Int) < (n6 : Int) := by omega
              go_wp2_with fail
              refine (l09Candidates_any _ n6 c6 M x j _ (hO.ext hEi).rd HKm.out.rect (by omega) hlt hlj).mono ?_
              rintro e w7 ⟨a7, n7, c7, rfl, hI, hE7⟩
              have hL7 := hL.ext hE7
              have hE8 := hEi.trans hE7
              have hsz := hE8.size
              have hI7 := hI.base (B' := wo.heap.size) hEi.size
              have hap : ∀ g, blk a7 = some g → ¬ OwnR.fp ad rl g := fun g hg hf => by have h1 := (hL.lt hf).2; have h2 := (hI.lt hg).1; omega
              go_wp2_with (at_builtin; refine app_S rfl _ _ rfl hL7 hsz hI7 hap rfl (by omega) rfl rfl ?_; intro ad2 d2 w8 hrows honly hmv)
              rw [cls_snoc] at hrows
              have hE9 := hE8.app hL7.top honly (Nat.le_refl _)
              clear hL hL7 hEi hE7 hE8 hsz hI hI7 hap honly hmv
              go_wp2
              go_roundg (n6 - (j + 1))
              case measure => go_light; omega
              case rel => go_light; exact ⟨j + 1, ad2, d2, _, by omega, rfl, rfl, by go_num, hrows, hE9⟩
            · have hzj : ¬ (j : Int) < (n6 : Int) := by omega
              obtain rfl : n6 = j := by omega
              have hB := cls_bel (x := x) HKm.out.rect.1
              have HBl := Lib.hid hB
              clear hB
              go_wp2_with fail
              refine (l09Row_any ad n6 d (cls M n6 x) _ hL.rd HBl.out (by omega) (rec_sdr HKm.out hlt)).mono ?_
              rintro e w7 ⟨a7, n7, c7, rfl, hI, hE7⟩
              have hE8 := hEi.trans hE7
              have hO8 := hO.ext hE8
              have hEw := hE.trans hE8
              obtain ⟨g', r9, xs9, hh, hB9, hc9, hf9, -⟩ := hO8.at_ (k := x) hlt
              cases hh
              have hI7 := hI.base (B' := w.heap.size) (by have := hE.size; have := hEi.size; omega)
              have hO9 := hO8.setRow (k := x) rfl (a7, n7, c7) (lrow (cls M n6 x) n6 n6) hI7 (fun g' hg' hf => by have h1 := (hO.lt hf).2; have h2 := (hI.lt hg').1; have := hEi.size; omega)
              have hE9 := hEw.setCell (p := ⟨g, x, none⟩) hB9 (.slice a7 n7 c7)
              have HN : Hid (M.set x (lrow (cls M n6 x) n6 n6) = ext_ p n6 f (x + 1 - f)) := Lib.hid (by rw [ext_next hfx, HM.out])
              rw [HN.out] at hO9
              clear hO hE hL hEi hI hE7 hE8 hO8 hEw hI7
              go_wp2
              go_roundg (1 * (n6 - (x + 1)))
              case measure => go_light; omega
              case rel => go_light; exact ⟨x + 1, _, by omega, by omega, rfl, by go_num, hO9, hE9⟩
        · have hzx : ¬ (x : Int) < (n6 : Int) := by omega
          obtain rfl : n6 = x := by omega
          go_wp2
          go_ret2
          exact RetRC.mk_ hO (Nat.le_refl _) HC.out.1 HC.out.2 hE
  · rw [hb]
    have hC := Lib.hid (ex_1 Hb.out)
    clear hb
    go_wp2
    go_ret2
    exact RetRC.mk_ (OwnR.nil_ _ _) (Nat.le_refl _) hC.out.1 hC.out.2 hE
end Go.Proofs.Ytgggbicmmijlnaa
