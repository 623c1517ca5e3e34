/- PropagatePartial of both. Conditions: none. -/
import Derived.Test.YtjifkgnbiahekaaPrpP
import Derived.Test.YtjifkgnbiahekaaCand
import Derived.Test.YtjifkgnbiahekaaFil
import Derived.Test.YtjifkgnbiahekaaPartS
import Derived.Test.YtjifkgnbiahekaaOwnL
import Derived.Test.YtjifkgnbiahekaaUnitP
namespace Go.Proofs.Ytjifkgnbiahekaa
open Go.RowKit

/-- What the walks want of a cell's number. -/
theorem cell_dec {n d : Nat} (hd : d < n * n) (hn : n ≤ 10) : ∃ x y : Nat, x = d / n ∧ y = d % n ∧ x < n ∧ y < n ∧ (d : Int) / (n : Int) = (x : Int) ∧ (d : Int) % (n : Int) = (y : Int) ∧ 0 < n ∧ d ≤ 100 ∧
    ¬ n = 0 ∧ ((n : Int) == 0) = false ∧ (d : Int).tdiv (n : Int) = (x : Int) ∧ (d : Int).tmod (n : Int) = (y : Int) ∧ IntKind.i64.wrap (x : Int) = (x : Int) ∧ IntKind.i64.wrap (y : Int) = (y : Int) := by
  obtain ⟨h1, h2⟩ := cell_lt hd
  have := Nat.mul_le_mul hn hn
  have e1 : (d : Int) / (n : Int) = ((d / n : Nat) : Int) := rfl
  have e2 : (d : Int) % (n : Int) = ((d % n : Nat) : Int) := rfl
  obtain ⟨x, hx⟩ : ∃ x, x = d / n := ⟨_, rfl⟩
  obtain ⟨y, hy⟩ : ∃ y, y = d % n := ⟨_, rfl⟩
  rw [← hx] at h1 e1
  rw [← hy] at h2 e2
  refine ⟨x, y, hx, hy, h1, h2, e1, e2, by omega, by omega, by omega, by simp; omega, ?_, ?_, IntWalk.i64_in _ (by omega), IntWalk.i64_in _ (by omega)⟩
  · rw [Int.tdiv_eq_ediv_of_nonneg (by omega)]; exact e1
  · rw [Int.tmod_eq_emod_of_nonneg (by omega)]; exact e2

noncomputable def nxt (p : List (List Int)) (n : Nat) : List (List Int) := match frs p n (n * n) with
  | none => p
  | some c => fil1 p n c

set_option maxRecDepth 100000 in
set_option maxHeartbeats 3200000 in
theorem fillSingle_any (w0 : World) (B : Nat) (a : Option Addr) (n c : Nat) (p : List (List Int)) (rs : List Row) (w : World) (b : Bool) (hO0 : OwnR w B a n c p rs) (hE0 : Ext w0 w) (hB0 : w0.heap.size ≤ B) (hk : Kept p n) (hn : n ≤ 10) (hb : (frs p n (n * n)).isSome = b) :
    Calls Try.prog 58 #[.slice a n c] w fun e w' => e = .returned (.bool b) ∧ OwnR w' B a n c (nxt p n) rs ∧ Ext w0 w' := by
  have hb1 := hO0.rd.le
  have hb2 := hO0.rd.max
  have HK := Lib.hid hk
  have Hb := Lib.hid hb
  clear hk hb
  go_enter Try.func58, Try.ntmps58
  go_wp2_with fail
  refine (sizeR_any _ _ _ _).mono ?_
  rintro e w1 ⟨rfl, rfl⟩
  go_wp2_with fail
  refine (emptyCells_any _ _ _ p _ hO0.rd HK.out.1 hn).mono ?_
  rintro e w2 ⟨aL, m, cL, rfl, hL0, hE2⟩
  have hL : RdI w2 aL m cL (fltr p n (n * n)) := by have := hL0.rdI; rwa [empt_fltr HK.out.1.1.symm] at this
  have Hm := Lib.hid hL.len
  have hb3 := hL.le
  have hb4 := hL.max
  have hO2 := hO0.ext hE2
  have hE02 := hE0.trans hE2
  clear hO0 hE0 hE2 hL0
  go_wp2
  go_loopg [12] m (fun gh i wr => ∃ k : Nat, k ≤ m ∧ gh = m - k ∧ i = .int .i64 k ∧ Ext w2 wr ∧ Hid (∀ j, j < k → ¬ Sgl p n (gi (fltr p n (n * n)) j).toNat))
  case atStart => exact ⟨0, Nat.zero_le _, rfl, rfl, Ext.refl _, Lib.hid (fun j h => absurd h (Nat.not_lt_zero _))⟩
  case round =>
    obtain ⟨k, hk, rfl, rfl, hE, Hs⟩ := hrel
    by_cases hlt : k < m
    · have hz : (k : Int) < (m : Int) := by omega
      obtain ⟨b1, o1, rfl, hc⟩ := (hL.ext hE).gi hlt
      obtain ⟨v, hv, hvn, hve, hvp⟩ := fltr_at (p := p) (n := n) (k := n * n) (j := k) (by rw [← Hm.out]; exact hlt)
      rw [hv] at hc
      have Hv := Lib.hid hv
      have Hvp := Lib.hid hvp
      have Hve := Lib.hid hve
      have Hvn := Lib.hid hvn
      obtain ⟨q, r, hq, hr, d1, d2, hqz, hrz, hn0, hvz, z1, z2, z3, z4, z5, z6⟩ := cell_dec hvn hn
      have hq1 : (q : Int) < (n : Int) := by omega
      have hr1 : (r : Int) < (n : Int) := by omega
      have Hqr := Lib.hid (And.intro hq hr)
      clear hv hvp hve hvn hq hr
      go_wp2_with fail
      have hcall : ∀ wz, Ext wr wz → Calls Try.prog 60 #[.slice a n c, .int .i64 q, .int .i64 r] wz (RetI wz (cands p q r)) := fun wz h => candidates_any _ _ _ p q r _ ((hO2.rd.ext hE).ext h) HK.out.1 (by omega) d1 d2
      go_region_held3 (fun _ => True) (trivial) ((go_at_call 60; refine (hcall _ ((Ext.refl _).drew)).mono ?_; rintro e w4 ⟨a4, m4, c4, rfl, hX, hE4'⟩))
      have hE4 : Ext wr w4 := Ext.trans ((Ext.refl _).drew) hE4'
      clear z3 z4 z5 z6 hcall hE4'
      have hXl := hX.len
      have HXc : Hid (candc p n v = cands p q r) := Lib.hid (by rw [candc, Hqr.out.1, Hqr.out.2])
      by_cases h1 : m4 = 1
      · subst h1
        have hS : Sgl p n v := ⟨Hve.out, by rw [HXc.out]; omega⟩
        obtain ⟨u, hu⟩ := cand0 hS
        have hfs : frs p n (n * n) = some v := frs_some (fun d hd hd2 => by
          obtain ⟨i, hi, he⟩ := Hvp.out d hd hd2.1
          exact Hs.out i hi (by rw [he]; exact hd2)) hS Hvn.out
        obtain ⟨b4, o4, rfl, hc4⟩ := hX.rdI.gi (k := 0) (by omega)
        rw [← HXc.out, hu, show gi [(u : Int)] 0 = (u : Int) from rfl, Nat.add_zero] at hc4
        have hO4 := hO2.ext (hE.trans hE4)
        have hE5 := hE02.trans (hE.trans hE4)
        have hcv := hE4.cell hc
        obtain ⟨g, gg, d, rfl, hd1, hB, hd2, hf2, hset⟩ := hO4.cellAt HK.out.1 d1 d2
        have hfin := hset (u : Int)
        rw [show set2 p q r (u : Int) = nxt p n by rw [nxt, hfs]; dsimp only; rw [fil1_eq hu, Hqr.out.1, Hqr.out.2]] at hfin
        have hE6 := hE5.setCell (p := ⟨gg, r, none⟩) (Nat.le_trans hB0 hB) (.int .i64 (u : Int))
        have Hbt : Hid (b = true) := Lib.hid (by rw [← Hb.out, hfs]; rfl)
        clear hset hO2 hO4 hE hE02 hE4 hE5 hX hXl hu hfs hS hc
        go_wp2_with fail
        go_region
        go_wp2
        go_ret
        exact ⟨by rw [Hbt.out]; rfl, hfin.ext ((Ext.refl _).drew), hE6.drew⟩
      · have h1z : ¬ (m4 : Int) = 1 := by omega
        have h1b : ((m4 : Int) == 1) = false := by simp [h1z]
        have hE5 := hE.trans hE4
        have Hs2 : Hid (∀ j, j < k + 1 → ¬ Sgl p n (gi (fltr p n (n * n)) j).toNat) := Lib.hid (fun j hj => by
          by_cases e : j = k
          · subst e
            rw [Hv.out, Int.toNat_natCast]
            intro hS
            have := hS.2
            rw [HXc.out] at this
            omega
          · exact Hs.out j (by omega))
        clear hE hE4 hX hXl
        go_wp2
        go_roundg (m - (k + 1))
        case measure => go_light; omega
        case rel => go_light; exact ⟨k + 1, by omega, rfl, by go_num, hE5, Hs2⟩
    · have hz : ¬ (k : Int) < (m : Int) := by omega
      obtain rfl : m = k := by omega
      have hfs : frs p n (n * n) = none := frs_none.2 (fun c hc hS => by
        obtain ⟨i, hi, he⟩ := fltr_all hc hS.1
        exact Hs.out i (by rw [Hm.out]; exact hi) (by rw [he]; exact hS))
      have Hbf : Hid (b = false) := Lib.hid (by rw [← Hb.out, hfs]; rfl)
      have hO3 := hO2.ext hE
      have hn3 : nxt p n = p := by rw [nxt, hfs]
      rw [← hn3] at hO3
      have hE3 := hE02.trans hE
      clear hO2 hE02 hE hfs hn3
      go_wp2
      go_ret
      exact ⟨by rw [Hbf.out]; rfl, hO3, hE3⟩

set_option maxRecDepth 100000 in
set_option maxHeartbeats 3200000 in
theorem implPrp (a : Option Addr) (n c : Nat) (p : List (List Int)) (w : World) (hp : RdR w a n c p) (hs : p.length + tot p ≤ 1048576) :
    Calls Try.prog 24 #[.slice a n c] w (RetRC w (prpM p) (prpC p)) := by
  have hb1 := hp.le
  have hb2 := hp.max
  have Hl := Lib.hid hp.len
  go_enter Try.func24, Try.ntmps24
  go_wp2_with fail
  refine (validPartial_any _ _ _ p _ hp).mono ?_
  rintro e w2 ⟨rfl, hE⟩
  rcases pbc (POk p) with ⟨hb, Hp⟩ | ⟨hb, Hp⟩
  · rw [hb]
    have Hbb := Lib.hid hb
    have HK := Lib.hid (Hp.out.kept Hl.out)
    have hn : n ≤ 10 := by have := Hp.out.2.1; have := Hl.out; omega
    clear hb
    go_wp2_with fail
    refine (sizeR_any _ _ _ _).mono ?_
    rintro e w3 ⟨rfl, rfl⟩
    go_wp2_with fail
    refine (copyLists_any _ _ _ p _ (hp.ext hE) (by omega)).mono ?_
    rintro e w4 ⟨a4, n4, c4, rs, rfl, hO0, hE4⟩
    obtain rfl : n = n4 := by rw [Hl.out, hO0.len]
    have hO1 := hO0.base hE.size
    have hE1 := hE.trans hE4
    clear hO0 hE hE4
    go_wp2
    go_loopg [] (nEmp p n (n * n)) (fun gh wr => ∃ q : List (List Int), gh = 1 * nEmp q n (n * n) ∧ OwnR wr w.heap.size a4 n c4 q rs ∧ Hid (Kept q n ∧ prpF q = prpF p) ∧ Ext w wr)
    case atStart => exact ⟨p, (Nat.one_mul _).symm, hO1, Lib.hid ⟨HK.out, rfl⟩, hE1⟩
    case round =>
      obtain ⟨q, rfl, hO, HQ, hE⟩ := hrel
      clear hO1 hE1
      rcases hfr : frs q n (n * n) with _ | c0
      · have hlast := prp_stop HQ.out.1.1.1.symm hfr
        have Hfin : Hid (q = prpF p) := Lib.hid (by rw [← HQ.out.2, hlast])
        have hnx : nxt q n = q := by rw [nxt, hfr]
        go_wp2_with fail
        refine (fillSingle_any w w.heap.size _ n _ q rs _ false hO hE (Nat.le_refl _) HQ.out.1 hn (by rw [hfr]; rfl)).mono ?_
        rintro e w5 ⟨rfl, hO5, hE5⟩
        rw [hnx] at hO5
        clear hO hE hfr hlast hnx
        go_wp2_with fail
        refine (emptyCells_any _ _ _ q _ hO5.rd HQ.out.1.1 hn).mono ?_
        rintro e w6 ⟨aL, m, cL, rfl, hL0, hE6⟩
        have hL : RdI w6 aL m cL (fltr q n (n * n)) := by have := hL0.rdI; rwa [empt_fltr HQ.out.1.1.1.symm] at this
        have Hm := Lib.hid hL.len
        have hb3 := hL.le
        have hb4 := hL.max
        have hO6 := hO5.ext hE6
        have hEw := hE5.trans hE6
        clear hO5 hE5 hE6 hL0
        go_wp2
        go_loopg [20] m (fun gh i wr => ∃ k : Nat, k ≤ m ∧ gh = m - k ∧ i = .int .i64 k ∧ Ext w6 wr ∧ Hid (∀ j, j < k → ¬ (candc q n (gi (fltr q n (n * n)) j).toNat).length = 0))
        case atStart => exact ⟨0, Nat.zero_le _, rfl, rfl, Ext.refl _, Lib.hid (fun j h => absurd h (Nat.not_lt_zero _))⟩
        case round =>
          obtain ⟨k, hk, rfl, rfl, hE, Hs⟩ := hrel
          by_cases hlt : k < m
          · have hz : (k : Int) < (m : Int) := by omega
            obtain ⟨b1, o1, rfl, hc⟩ := (hL.ext hE).gi hlt
            obtain ⟨v, hv, hvn, hve, hvp⟩ := fltr_at (p := q) (n := n) (k := n * n) (j := k) (by rw [← Hm.out]; exact hlt)
            rw [hv] at hc
            have Hv := Lib.hid hv
            have Hve := Lib.hid hve
            have Hvn := Lib.hid hvn
            obtain ⟨x, y, hx, hy, d1, d2, hqz, hrz, hn0, hvz, z1, z2, z3, z4, z5, z6⟩ := cell_dec hvn hn
            have hq1 : (x : Int) < (n : Int) := by omega
            have hr1 : (y : Int) < (n : Int) := by omega
            have HXc : Hid (candc q n v = cands q x y) := Lib.hid (by rw [candc, hx, hy])
            clear hv hvp hve hvn hx hy
            have hcall : ∀ wz, Ext wr wz → Calls Try.prog 60 #[.slice a4 n c4, .int .i64 x, .int .i64 y] wz (RetI wz (cands q x y)) := fun wz h => candidates_any _ _ _ q x y _ ((hO6.rd.ext hE).ext h) HQ.out.1.1 (by omega) d1 d2
            go_wp2_with fail
            go_region_held3 (fun _ => True) (trivial) ((go_at_call 60; refine (hcall _ ((Ext.refl _).drew)).mono ?_; rintro e w7 ⟨a7, m7, c7, rfl, hX, hE7'⟩))
            have hE7 : Ext wr w7 := Ext.trans ((Ext.refl _).drew) hE7'
            have hXl := hX.len
            have hEk := hE.trans hE7
            clear z3 z4 z5 z6 hcall hE7' hE7 hE hX
            by_cases h1 : m7 = 0
            · have h1b : ((m7 : Int) == 0) = true := by simp [h1]
              have hdead : Hid (pb (Dead (prpF p) n) = true) := Lib.hid (pb_true ⟨v, Hvn.out, by rw [← Hfin.out]; exact Hve.out, by rw [← Hfin.out, HXc.out, ← hXl]; exact h1⟩)
              clear h1 hXl
              go_wp2
              go_ret2
              exact RetRC.nil_ (by rw [prpM, if_pos Hbb.out, ← Hl.out, if_pos hdead.out]) (by rw [prpC, if_pos Hbb.out, ← Hl.out, if_pos hdead.out]) (hEw.trans hEk)
            · have h1b : ((m7 : Int) == 0) = false := by simp [h1]
              have Hs2 : Hid (∀ j, j < k + 1 → ¬ (candc q n (gi (fltr q n (n * n)) j).toNat).length = 0) := Lib.hid (fun j hj => by
                by_cases e : j = k
                · subst e
                  rw [Hv.out, Int.toNat_natCast, HXc.out, ← hXl]
                  exact h1
                · exact Hs.out j (by omega))
              clear h1 hXl
              go_wp2
              go_roundg (m - (k + 1))
              case measure => go_light; omega
              case rel => go_light; exact ⟨k + 1, by omega, rfl, by go_num, hEk, Hs2⟩
          · have hz : ¬ (k : Int) < (m : Int) := by omega
            obtain rfl : m = k := by omega
            have hnd : Hid (pb (Dead (prpF p) n) = false) := Lib.hid (pb_false (fun ⟨d, hd1, hd2, hd3⟩ => by
              rw [← Hfin.out] at hd2 hd3
              obtain ⟨i, hi, he⟩ := fltr_all hd1 hd2
              have h9 := Hs.out i (by rw [Hm.out]; exact hi)
              rw [he, Int.toNat_natCast] at h9
              exact h9 hd3))
            have hO7 := hO6.ext hE
            go_wp2
            go_ret2
            exact RetRC.mk_ hO7 (Nat.le_refl _) (by rw [prpM, if_pos Hbb.out, ← Hl.out, hnd.out, ← Hfin.out]; rfl) (by rw [prpC, if_pos Hbb.out, ← Hl.out, hnd.out]; rfl) (hEw.trans hE)
      · have Hst := Lib.hid (prp_step HQ.out.1.1 hfr)
        have HK2 := Lib.hid (HQ.out.1.frs hfr)
        have hlt := frs_lt hfr
        have hem := nEmp_fil1 HQ.out.1.1 hlt.1 hlt.2 (n * n)
        rw [if_pos hlt.1] at hem
        have hnx : nxt q n = fil1 q n c0 := by rw [nxt, hfr]
        have Hem := Lib.hid hem
        have Hnx := Lib.hid hnx
        clear hlt hem hnx
        go_wp2_with fail
        refine (fillSingle_any w w.heap.size _ n _ q rs _ true hO hE (Nat.le_refl _) HQ.out.1 hn (by rw [hfr]; rfl)).mono ?_
        rintro e w5 ⟨rfl, hO5, hE5⟩
        rw [Hnx.out] at hO5
        clear hO hE hfr
        go_wp2
        go_roundg (1 * nEmp (fil1 q n c0) n (n * n))
        case measure => go_light; have := Hem.out; omega
        case rel => go_light; exact ⟨fil1 q n c0, rfl, hO5, Lib.hid ⟨HK2.out.1, by rw [← Hst.out]; exact HQ.out.2⟩, hE5⟩
  · rw [hb]
    go_wp2
    go_ret2
    exact RetRC.nil_ (by rw [prpM, hb]; rfl) (by rw [prpC, hb]; rfl) hE

set_option maxRecDepth 100000 in
set_option maxHeartbeats 6400000 in
theorem l09Prop_any (a : Option Addr) (n c : Nat) (p : List (List Int)) (w : World) (b : Bool) (hp : RdR w a n c p) (hs : p.length + tot p ≤ 1048576) (hk : Kept p n) (hn : n ≤ 10) (hb : pb (Dead (prpF p) n) = b) :
    Calls Try.prog 53 #[.slice a n c] w fun e w' => ∃ a' n' c' rs, e = .returned (.tuple #[.slice a' n' c', .bool (!b)]) ∧ OwnR w' w.heap.size a' n' c' (cond b [] (prpF p)) rs ∧ Ext w w' := by
  have hb1 := hp.le
  have hb2 := hp.max
  have Hl := Lib.hid hp.len
  have HK := Lib.hid hk
  have Hb := Lib.hid hb
  clear hk hb
  have hmul : 0 ≤ (n : Int) * (n : Int) ∧ (n : Int) * (n : Int) ≤ 100 := by
    have := Nat.mul_le_mul hn hn
    exact ⟨by exact_mod_cast Nat.zero_le _, by exact_mod_cast this⟩
  obtain ⟨hmul0, hmul1⟩ := hmul
  have hcast : ∀ d : Nat, d < n * n → (d : Int) < (n : Int) * (n : Int) := fun d h => by exact_mod_cast h
  have hcast2 : ∀ d : Nat, ¬ d < n * n → ¬ (d : Int) < (n : Int) * (n : Int) := fun d h h2 => h (by exact_mod_cast h2)
  have Hcast := Lib.hid (And.intro hcast hcast2)
  clear hcast hcast2
  go_enter Try.func53, Try.ntmps53
  go_wp2_with fail
  refine (l06Own_any _ _ _ p _ hp (by omega)).mono ?_
  rintro e w4 ⟨a4, n4, c4, rs, rfl, hO0, hE0⟩
  obtain rfl : n = n4 := by rw [Hl.out, hO0.len]
  go_wp2
  go_loopg [6] (2 * nEmp p n (n * n) + 1) (fun gh s wr => ∃ (t : Bool) (q : List (List Int)), gh = 2 * nEmp q n (n * n) + (cond t 1 0) ∧ s = .bool t ∧ OwnR wr w.heap.size a4 n c4 q rs ∧ Hid (Kept q n ∧ prpF q = prpF p ∧ (t = false → frs q n (n * n) = none)) ∧ Ext w wr)
  case atStart => exact ⟨true, p, rfl, rfl, hO0, Lib.hid ⟨HK.out, rfl, fun h => by cases h⟩, hE0⟩
  case round =>
    obtain ⟨t, q, rfl, rfl, hO, HQ, hE⟩ := hrel
    clear hO0 hE0
    cases t
    · have Hfin : Hid (q = prpF p) := Lib.hid (by rw [← HQ.out.2.1, prp_stop HQ.out.1.1.1.symm (HQ.out.2.2 rfl)])
      go_wp2
      go_loopg [9] (n * n) (fun gh i wi => ∃ d : Nat, d ≤ n * n ∧ gh = n * n - d ∧ i = .int .i64 d ∧ OwnR wi w.heap.size a4 n c4 q rs ∧ Hid (∀ e, e < d → ¬ (atc q n e = -1 ∧ (candc q n e).length = 0)) ∧ Ext w wi)
      case atStart => exact ⟨0, Nat.zero_le _, rfl, rfl, hO, Lib.hid (fun e h => absurd h (Nat.not_lt_zero _)), hE⟩
      case round =>
        clear hO hE
        obtain ⟨d, hd, rfl, rfl, hO, HD, hE⟩ := hrel
        by_cases hlt : d < n * n
        · have hz := Hcast.out.1 d hlt
          have Hlt := Lib.hid hlt
          obtain ⟨x, y, hx, hy, hxn, hyn, hdx, hdy, hn0, hd100, z1, z2, z3, z4, z5, z6⟩ := cell_dec hlt hn
          have Hxy := Lib.hid (show atc q n d = at2 q x y ∧ candc q n d = cands q x y from ⟨by rw [atc, ← hx, ← hy], by rw [candc, ← hx, ← hy]⟩)
          clear hx hy hlt
          have hx1 : (x : Int) < (n : Int) := by omega
          have hy1 : (y : Int) < (n : Int) := by omega
          have hcall : ∀ wz, Ext wr wz → Calls Try.prog 67 #[.slice a4 n c4, .int .i64 x, .int .i64 y] wz (RetI wz (cands q x y)) := fun wz h => l09Candidates_any _ _ _ q x y _ (hO.rd.ext h) HQ.out.1.1 (by omega) hxn hyn
          obtain ⟨g, gg, dd, rfl, hc1, hB, hc2, hf2, hset⟩ := hO.cellAt HQ.out.1.1 hxn hyn
          clear hset
          by_cases hv : at2 q x y < 0
          · have hvd : decide (at2 q x y < 0) = true := decide_eq_true hv
            have Hv := Lib.hid hv
            clear hv
            go_wp2_with fail
            go_region_held3 (fun w' => w'.cell? ⟨g, x, none⟩ = some (.slice (some ⟨gg, 0, none⟩) n dd) ∧ w'.cell? ⟨gg, y, none⟩ = some (.int .i64 (at2 q x y))) (first | exact ⟨hc1, hc2⟩ | exact ⟨Ext.cell ((Ext.refl _).drew) hc1, Ext.cell ((Ext.refl _).drew) hc2⟩ | exact ⟨Ext.cell (Ext.trans ((Ext.refl _).drew) hE5') hc1, Ext.cell (Ext.trans ((Ext.refl _).drew) hE5') hc2⟩) ((go_at_call 67; refine (hcall _ ((Ext.refl _).drew)).mono ?_; rintro e w5 ⟨a5, m5, c5, rfl, hX, hE5'⟩))
            have hE5 : Ext wr w5 := Ext.trans ((Ext.refl _).drew) hE5'
            have hXl := hX.len
            have hO5 := hO.ext hE5
            have hEk := hE.trans hE5
            have Hm1 : Hid (at2 q x y = -1) := Lib.hid (by have := HQ.out.1.2 x y hxn hyn; have := Hv.out; omega)
            clear z3 z4 z5 z6 hcall hE5' hE5 hE hX hO hc1 hc2 hf2
            by_cases h1 : m5 = 0
            · have h1b : ((m5 : Int) == 0) = true := by simp [h1]
              have hbt : Hid (b = true) := Lib.hid (by
                rw [← Hb.out]
                exact pb_true ⟨d, Hlt.out, by rw [← Hfin.out, Hxy.out.1]; exact Hm1.out, by rw [← Hfin.out, Hxy.out.2, ← hXl]; exact h1⟩)
              clear h1 hXl
              go_wp2
              go_ret2
              refine ⟨none, 0, 0, [], by rw [hbt.out]; rfl, ?_, hEk⟩
              rw [hbt.out]
              exact OwnR.nil_ _ _
            · have h1b : ((m5 : Int) == 0) = false := by simp [h1]
              have HD2 : Hid (∀ e, e < d + 1 → ¬ (atc q n e = -1 ∧ (candc q n e).length = 0)) := Lib.hid (fun e he => by
                by_cases ee : e = d
                · subst ee
                  rw [Hxy.out.2, ← hXl]
                  exact fun h => h1 h.2
                · exact HD.out e (by omega))
              have Hs1 : Hid (d + 1 ≤ n * n) := Lib.hid (by have := Hlt.out; omega)
              clear h1 hXl
              go_wp2
              go_roundg (n * n - (d + 1))
              case measure => go_light; have := Hlt.out; omega
              case rel => go_light; exact ⟨d + 1, Hs1.out, rfl, by go_num, hO5, HD2, hEk⟩
          · have hvd : decide (at2 q x y < 0) = false := decide_eq_false hv
            have HD2 : Hid (∀ e, e < d + 1 → ¬ (atc q n e = -1 ∧ (candc q n e).length = 0)) := Lib.hid (fun e he => by
              by_cases ee : e = d
              · subst ee
                rw [Hxy.out.1]
                exact fun h => hv (by omega)
              · exact HD.out e (by omega))
            have Hs1 : Hid (d + 1 ≤ n * n) := Lib.hid (by have := Hlt.out; omega)
            clear hv hcall
            go_wp2_with fail
            go_quiet (fail)
            clear z3 z4 z5 z6
            go_wp2
            go_roundg (n * n - (d + 1))
            case measure => go_light; have := Hlt.out; omega
            case rel => go_light; exact ⟨d + 1, Hs1.out, rfl, by go_num, hO.ext ((Ext.refl _).drewN _), HD2, hE.drewN _⟩
        · have hz := Hcast.out.2 d hlt
          have hbf : Hid (b = false) := Lib.hid (by
            rw [← Hb.out]
            exact pb_false (fun ⟨e, h1, h2, h3⟩ => by
              rw [← Hfin.out] at h2 h3
              exact HD.out e (by omega) ⟨h2, h3⟩))
          clear hlt
          go_wp2
          go_ret2
          refine ⟨a4, n, c4, rs, by rw [hbf.out]; rfl, ?_, hE⟩
          rw [hbf.out]
          show OwnR _ _ _ _ _ (prpF p) _
          rw [← Hfin.out]
          exact hO
    · go_wp2
      go_loopg [6, 7] (n * n) (fun gh s i wi => ∃ (t : Bool) (d : Nat) (q2 : List (List Int)), d ≤ n * n ∧ gh = n * n - d ∧ s = .bool t ∧ i = .int .i64 d ∧ OwnR wi w.heap.size a4 n c4 q2 rs ∧ Hid ((t = false → q2 = q ∧ ∀ e, e < d → ¬ Sgl q n e) ∧ (t = true → ∃ c0, frs q n (n * n) = some c0 ∧ q2 = fil1 q n c0)) ∧ Ext w wi)
      case atStart => exact ⟨false, 0, q, Nat.zero_le _, rfl, rfl, rfl, hO, Lib.hid ⟨fun _ => ⟨rfl, fun e h => absurd h (Nat.not_lt_zero _)⟩, fun h => by cases h⟩, hE⟩
      case round =>
        clear hO hE
        obtain ⟨t, d, q2, hd, rfl, rfl, rfl, hO, HT, hE⟩ := hrel
        by_cases hlt : d < n * n
        · have hz := Hcast.out.1 d hlt
          cases t
          · obtain ⟨rfl, hno⟩ := HT.out.1 rfl
            have Hno := Lib.hid hno
            have Hlt := Lib.hid hlt
            have Hs1 : Hid (d + 1 ≤ n * n) := Lib.hid (by omega)
            clear hno HT
            obtain ⟨x, y, hx, hy, hxn, hyn, hdx, hdy, hn0, hd100, z1, z2, z3, z4, z5, z6⟩ := cell_dec hlt hn
            have Hxy := Lib.hid (show atc q2 n d = at2 q2 x y ∧ candc q2 n d = cands q2 x y ∧ x = d / n ∧ y = d % n from ⟨by rw [atc, ← hx, ← hy], by rw [candc, ← hx, ← hy], hx, hy⟩)
            clear hx hy hlt
            have hx1 : (x : Int) < (n : Int) := by omega
            have hy1 : (y : Int) < (n : Int) := by omega
            have hcall : ∀ wz, Ext wr wz → Calls Try.prog 67 #[.slice a4 n c4, .int .i64 x, .int .i64 y] wz (RetI wz (cands q2 x y)) := fun wz h => l09Candidates_any _ _ _ q2 x y _ (hO.rd.ext h) HQ.out.1.1 (by omega) hxn hyn
            obtain ⟨g, gg, dd, rfl, hc1, hB, hc2, hf2, hset⟩ := hO.cellAt HQ.out.1.1 hxn hyn
            clear hset hf2
            by_cases hv : 0 ≤ at2 q2 x y
            · have hvd : decide (0 ≤ at2 q2 x y) = true := decide_eq_true hv
              have Hno2 : Hid (∀ e, e < d + 1 → ¬ Sgl q2 n e) := Lib.hid (fun e he => by
                by_cases ee : e = d
                · subst ee
                  intro h
                  have := h.1
                  rw [Hxy.out.1] at this
                  omega
                · exact Hno.out e (by omega))
              clear hv hcall
              go_wp2_with fail
              go_quiet (fail)
              clear z3 z4 z5 z6
              go_wp2
              go_roundg (n * n - (d + 1))
              case measure => go_light; have := Hlt.out; omega
              case rel => go_light; exact ⟨false, d + 1, q2, Hs1.out, rfl, rfl, by go_num, hO.ext ((Ext.refl _).drewN _), Lib.hid ⟨fun _ => ⟨rfl, Hno2.out⟩, fun h => by cases h⟩, hE.drewN _⟩
            · have hvd : decide (0 ≤ at2 q2 x y) = false := decide_eq_false hv
              have Hm1 : Hid (at2 q2 x y = -1) := Lib.hid (by have := HQ.out.1.2 x y hxn hyn; omega)
              clear hv
              go_wp2_with fail
              go_quiet (fail)
              go_wp2_with fail
              go_region_held3 (fun _ => True) (trivial) ((go_at_call 67; refine (hcall _ (((Ext.refl _).drewN _).drew)).mono ?_; rintro e w5 ⟨a5, m5, c5, rfl, hX, hE5'⟩))
              have hE5 : Ext wr w5 := Ext.trans (((Ext.refl _).drewN _).drew) hE5'
              have hXl := hX.len
              have hO5 := hO.ext hE5
              have hEk := hE.trans hE5
              clear z3 z4 z5 z6 hcall hE5' hE5 hE hO hc1 hc2
              by_cases h1 : m5 = 1
              · subst h1
                have hS : Sgl q2 n d := ⟨by rw [Hxy.out.1]; exact Hm1.out, by rw [Hxy.out.2.1]; omega⟩
                obtain ⟨u, hu⟩ := cand0 hS
                have hfs : frs q2 n (n * n) = some d := frs_some Hno.out hS Hlt.out
                obtain ⟨b4, o4, rfl, hc4⟩ := hX.rdI.gi (k := 0) (by omega)
                rw [← Hxy.out.2.1, hu, show gi [(u : Int)] 0 = (u : Int) from rfl, Nat.add_zero] at hc4
                obtain ⟨g', gg2, d2, hh, hd1, hB2, hd2, hf2, hset⟩ := hO5.cellAt HQ.out.1.1 hxn hyn
                cases hh
                have hfin := hset (u : Int)
                have Hf : Hid (set2 q2 x y (u : Int) = fil1 q2 n d) := Lib.hid (by rw [fil1_eq hu, ← Hxy.out.2.2.1, ← Hxy.out.2.2.2])
                rw [Hf.out] at hfin
                have hE6 := hEk.setCell (p := ⟨gg2, y, none⟩) hB2 (.int .i64 (u : Int))
                have Hfs := Lib.hid hfs
                clear hset hO5 hEk hX hXl hu hfs hS
                go_wp2_with fail
                go_region
                go_wp2
                go_roundg (n * n - (d + 1))
                case measure => go_light; have := Hlt.out; omega
                case rel => go_light; exact ⟨true, d + 1, fil1 q2 n d, Hs1.out, rfl, rfl, by go_num, hfin.ext ((Ext.refl _).drew), Lib.hid ⟨fun h => (by cases h), fun _ => ⟨d, Hfs.out, rfl⟩⟩, hE6.drew⟩
              · have h1z : ¬ (m5 : Int) = 1 := by omega
                have h1b : ((m5 : Int) == 1) = false := by simp [h1z]
                have Hno2 : Hid (∀ e, e < d + 1 → ¬ Sgl q2 n e) := Lib.hid (fun e he => by
                  by_cases ee : e = d
                  · subst ee
                    intro h
                    have := h.2
                    rw [Hxy.out.2.1] at this
                    omega
                  · exact Hno.out e (by omega))
                clear hX hXl
                go_wp2
                go_roundg (n * n - (d + 1))
                case measure => go_light; have := Hlt.out; omega
                case rel => go_light; exact ⟨false, d + 1, q2, Hs1.out, rfl, rfl, by go_num, hO5, Lib.hid ⟨fun _ => ⟨rfl, Hno2.out⟩, fun h => by cases h⟩, hEk⟩
          · obtain ⟨c0, hfr, rfl⟩ := HT.out.2 rfl
            have Hst := Lib.hid (prp_step HQ.out.1.1 hfr)
            have HK2 := Lib.hid (HQ.out.1.frs hfr)
            have hl2 := frs_lt hfr
            have hem := nEmp_fil1 HQ.out.1.1 hl2.1 hl2.2 (n * n)
            rw [if_pos hl2.1] at hem
            have Hem := Lib.hid hem
            clear hl2 hem hfr HT hlt
            go_wp2
            go_roundg (2 * nEmp (fil1 q n c0) n (n * n) + 1)
            case measure => go_light; have := Hem.out; simp; omega
            case rel => go_light; exact ⟨true, fil1 q n c0, rfl, rfl, hO, Lib.hid ⟨HK2.out.1, by rw [← Hst.out]; exact HQ.out.2.1, fun h => by cases h⟩, hE⟩
        · have hz := Hcast.out.2 d hlt
          cases t
          · obtain ⟨rfl, hno⟩ := HT.out.1 rfl
            have Hfr : Hid (frs q2 n (n * n) = none) := Lib.hid (frs_none.2 (fun c hc => hno c (by omega)))
            clear hno HT hlt
            go_wp2
            go_roundg (2 * nEmp q2 n (n * n) + 0)
            case measure => go_light; simp
            case rel => go_light; exact ⟨false, q2, rfl, rfl, hO, Lib.hid ⟨HQ.out.1, HQ.out.2.1, fun _ => Hfr.out⟩, hE⟩
          · obtain ⟨c0, hfr, rfl⟩ := HT.out.2 rfl
            have Hst := Lib.hid (prp_step HQ.out.1.1 hfr)
            have HK2 := Lib.hid (HQ.out.1.frs hfr)
            have hl2 := frs_lt hfr
            have hem := nEmp_fil1 HQ.out.1.1 hl2.1 hl2.2 (n * n)
            rw [if_pos hl2.1] at hem
            have Hem := Lib.hid hem
            clear hl2 hem hfr HT hlt
            go_wp2
            go_roundg (2 * nEmp (fil1 q n c0) n (n * n) + 1)
            case measure => go_light; have := Hem.out; simp; omega
            case rel => go_light; exact ⟨true, fil1 q n c0, rfl, rfl, hO, Lib.hid ⟨HK2.out.1, by rw [← Hst.out]; exact HQ.out.2.1, fun h => by cases h⟩, hE⟩

set_option maxHeartbeats 800000 in
theorem specPrp (a : Option Addr) (n c : Nat) (p : List (List Int)) (w : World) (hp : RdR w a n c p) (hs : p.length + tot p ≤ 1048576) :
    Calls Try.prog 22 #[.slice a n c] w (RetRC w (prpM p) (prpC p)) := by
  have Hl := Lib.hid hp.len
  go_enter Try.func22, Try.ntmps22
  go_wp2_with fail
  refine (l09Ok_any _ _ _ p _ hp).mono ?_
  rintro e w2 ⟨rfl, hE⟩
  rcases pbc (POk p) with ⟨hb, Hp⟩ | ⟨hb, Hp⟩
  · rw [hb]
    have Hbb := Lib.hid hb
    have HK := Lib.hid (Hp.out.kept Hl.out)
    have hn : n ≤ 10 := by have := Hp.out.2.1; have := Hl.out; omega
    clear hb
    cases hd : pb (Dead (prpF p) n)
    · go_wp2_with fail
      refine (l09Prop_any _ n _ p _ false (hp.ext hE) hs HK.out hn hd).mono ?_
      rintro e w3 ⟨a3, n3, c3, rs3, rfl, hO, hE3⟩
      have Hd := Lib.hid hd
      clear hd
      go_wp2
      go_ret2
      exact RetRC.mk_ hO hE.size (by rw [prpM, if_pos Hbb.out, ← Hl.out, Hd.out]; rfl) (by rw [prpC, if_pos Hbb.out, ← Hl.out, Hd.out]; rfl) (hE.trans hE3)
    · go_wp2_with fail
      refine (l09Prop_any _ n _ p _ true (hp.ext hE) hs HK.out hn hd).mono ?_
      rintro e w3 ⟨a3, n3, c3, rs3, rfl, hO, hE3⟩
      have Hd := Lib.hid hd
      clear hd
      go_wp2
      go_ret2
      exact RetRC.nil_ (by rw [prpM, if_pos Hbb.out, ← Hl.out, Hd.out]; rfl) (by rw [prpC, if_pos Hbb.out, ← Hl.out, Hd.out]; rfl) (hE.trans hE3)
  · rw [hb]
    go_wp2
    go_ret2
    exact RetRC.nil_ (by rw [prpM, hb]; rfl) (by rw [prpC, hb]; rfl) hE
end Go.Proofs.Ytjifkgnbiahekaa
