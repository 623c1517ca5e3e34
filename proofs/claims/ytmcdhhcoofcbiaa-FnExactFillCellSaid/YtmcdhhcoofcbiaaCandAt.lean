/- CandidatesAt of both. Conditions: none. -/
import Derived.Test.YtmcdhhcoofcbiaaCand
import Derived.Test.YtmcdhhcoofcbiaaPartS
import Derived.Test.YtmcdhhcoofcbiaaSz
namespace Go.Proofs.Ytmcdhhcoofcbiaa
open Go.RowKit

/-- The code of an empty cell. -/
noncomputable def codeAt (p : List (List Int)) (x y : Int) : Int :=
  if pb (POk p) then
    if (0 ≤ x ∧ x ≤ (p.length : Int) - 1) ∧ (0 ≤ y ∧ y ≤ (p.length : Int) - 1) then
      if at2 p x.toNat y.toNat = -1 then 0 else 6
    else 2
  else 1

theorem codeAt_1 {p : List (List Int)} {x y : Int} (h : ¬ POk p) : codeAt p x y = 1 := by rw [codeAt, pb_false h]; rfl
theorem codeAt_2 {p : List (List Int)} {x y : Int} (h : POk p) (h2 : ¬ ((0 ≤ x ∧ x ≤ (p.length : Int) - 1) ∧ (0 ≤ y ∧ y ≤ (p.length : Int) - 1))) : codeAt p x y = 2 := by rw [codeAt, pb_true h, if_pos rfl, if_neg h2]
theorem codeAt_6 {p : List (List Int)} {x y : Int} (h : POk p) (h2 : (0 ≤ x ∧ x ≤ (p.length : Int) - 1) ∧ (0 ≤ y ∧ y ≤ (p.length : Int) - 1)) (h3 : at2 p x.toNat y.toNat ≠ -1) : codeAt p x y = 6 := by rw [codeAt, pb_true h, if_pos rfl, if_pos h2, if_neg h3]
theorem codeAt_0 {p : List (List Int)} {x y : Int} (h : POk p) (h2 : (0 ≤ x ∧ x ≤ (p.length : Int) - 1) ∧ (0 ≤ y ∧ y ≤ (p.length : Int) - 1)) (h3 : at2 p x.toNat y.toNat = -1) : codeAt p x y = 0 := by rw [codeAt, pb_true h, if_pos rfl, if_pos h2, if_pos h3]

noncomputable def candAt (p : List (List Int)) (x y : Int) : List Int := if codeAt p x y = 0 then cands p x.toNat y.toNat else []

set_option maxHeartbeats 1600000 in
theorem emptyCell_any (a : Option Addr) (n c : Nat) (p : List (List Int)) (x y : Int) (w : World) (hp : RdR w a n c p) :
    Calls Try.prog 76 #[.slice a n c, .int .i64 x, .int .i64 y] w fun e w' => e = .returned (.int .i64 (codeAt p x y)) ∧ Ext w w' := by
  have hb1 := hp.le
  have hb2 := hp.max
  have Hl := Lib.hid hp.len
  by_cases h1 : POk p
  · have hn1 : 1 ≤ n := by have := h1.1; have := Hl.out; omega
    have hn2 : n ≤ 10 := by have := h1.2.1; have := Hl.out; omega
    have H1 := Lib.hid h1
    clear h1
    by_cases hx : 0 ≤ x ∧ x ≤ (n : Int) - 1
    · by_cases hy : 0 ≤ y ∧ y ≤ (n : Int) - 1
      · obtain ⟨x', rfl⟩ := Int.eq_ofNat_of_zero_le hx.1
        obtain ⟨y', rfl⟩ := Int.eq_ofNat_of_zero_le hy.1
        have hx1 : x' < n := by omega
        have hy1 : y' < n := by omega
        have hxz : (x' : Int) < (n : Int) := by omega
        have hyz : (y' : Int) < (n : Int) := by omega
        have Hx := Lib.hid hx
        have Hy := Lib.hid hy
        have hR : Rect p n n := by have := H1.out.2.2.1; rwa [← Hl.out] at this
        have HR := Lib.hid hR
        clear hx hy hR
        go_enter Try.func76, Try.ntmps76
        go_wp2_with fail
        refine (validPartial_any _ _ _ p _ hp).mono ?_
        rintro e w2 ⟨rfl, hE⟩
        rw [pb_true H1.out]
        go_wp2_with fail
        refine (sizeR_any _ _ _ _).mono ?_
        rintro e w3 ⟨rfl, rfl⟩
        go_wp2_with fail
        refine (within_any _ _ _ true (decide_eq_true Hx.out) _).mono ?_
        rintro e w3 ⟨rfl, rfl⟩
        go_wp2_with fail
        refine (sizeR_any _ _ _ _).mono ?_
        rintro e w3 ⟨rfl, rfl⟩
        go_wp2_with fail
        refine (within_any _ _ _ true (decide_eq_true Hy.out) _).mono ?_
        rintro e w3 ⟨rfl, rfl⟩
        obtain ⟨b, o, ai, ci, rfl, hc, hrow⟩ := (hp.ext hE).row HR.out hx1
        obtain ⟨b1, o1, rfl, hc1⟩ := hrow.cell2 hy1
        have e := Hl.out
        have hxy : (0 ≤ (x' : Int) ∧ (x' : Int) ≤ (p.length : Int) - 1) ∧ (0 ≤ (y' : Int) ∧ (y' : Int) ≤ (p.length : Int) - 1) := by rw [← e]; exact ⟨Hx.out, Hy.out⟩
        have Hxy := Lib.hid hxy
        clear e hxy hrow
        by_cases hv : at2 p x' y' = -1
        · have hv1 : (at2 p x' y' != -1) = false := by simp [hv]
          have Hv := Lib.hid hv
          clear hv
          go_wp2
          go_ret
          exact ⟨ret_int (codeAt_0 H1.out Hxy.out Hv.out).symm, hE⟩
        · have hv1 : (at2 p x' y' != -1) = true := by simp [hv]
          have Hv := Lib.hid hv
          clear hv
          go_wp2
          go_ret
          exact ⟨ret_int (codeAt_6 H1.out Hxy.out Hv.out).symm, hE⟩
      · have Hx := Lib.hid hx
        have Hy := Lib.hid hy
        clear hx hy
        go_enter Try.func76, Try.ntmps76
        go_wp2_with fail
        refine (validPartial_any _ _ _ p _ hp).mono ?_
        rintro e w2 ⟨rfl, hE⟩
        rw [pb_true H1.out]
        go_wp2_with fail
        refine (sizeR_any _ _ _ _).mono ?_
        rintro e w3 ⟨rfl, rfl⟩
        go_wp2_with fail
        refine (within_any _ _ _ true (decide_eq_true Hx.out) _).mono ?_
        rintro e w3 ⟨rfl, rfl⟩
        go_wp2_with fail
        refine (sizeR_any _ _ _ _).mono ?_
        rintro e w3 ⟨rfl, rfl⟩
        go_wp2_with fail
        refine (within_any _ _ _ false (decide_eq_false Hy.out) _).mono ?_
        rintro e w3 ⟨rfl, rfl⟩
        go_wp2
        go_ret
        exact ⟨ret_int (codeAt_2 H1.out (fun h => Hy.out (by rw [Hl.out]; exact h.2))).symm, hE⟩
    · have Hx := Lib.hid hx
      clear hx
      go_enter Try.func76, Try.ntmps76
      go_wp2_with fail
      refine (validPartial_any _ _ _ p _ hp).mono ?_
      rintro e w2 ⟨rfl, hE⟩
      rw [pb_true H1.out]
      go_wp2_with fail
      refine (sizeR_any _ _ _ _).mono ?_
      rintro e w3 ⟨rfl, rfl⟩
      go_wp2_with fail
      refine (within_any _ _ _ false (decide_eq_false Hx.out) _).mono ?_
      rintro e w3 ⟨rfl, rfl⟩
      go_wp2
      go_ret
      exact ⟨ret_int (codeAt_2 H1.out (fun h => Hx.out (by rw [Hl.out]; exact h.1))).symm, hE⟩
  · have H1 := Lib.hid h1
    clear h1
    go_enter Try.func76, Try.ntmps76
    go_wp2_with fail
    refine (validPartial_any _ _ _ p _ hp).mono ?_
    rintro e w2 ⟨rfl, hE⟩
    rw [pb_false H1.out]
    go_wp2
    go_ret
    exact ⟨ret_int (codeAt_1 H1.out).symm, hE⟩

/-- What a code of 0 says. -/
theorem codeAt_zero {p : List (List Int)} {x y : Int} (h : codeAt p x y = 0) : POk p ∧ 0 ≤ x ∧ x ≤ (p.length : Int) - 1 ∧ 0 ≤ y ∧ y ≤ (p.length : Int) - 1 ∧ at2 p x.toNat y.toNat = -1 := by
  by_cases h1 : POk p
  · by_cases h2 : (0 ≤ x ∧ x ≤ (p.length : Int) - 1) ∧ (0 ≤ y ∧ y ≤ (p.length : Int) - 1)
    · by_cases h3 : at2 p x.toNat y.toNat = -1
      · exact ⟨h1, h2.1.1, h2.1.2, h2.2.1, h2.2.2, h3⟩
      · rw [codeAt_6 h1 h2 h3] at h; cases h
    · rw [codeAt_2 h1 h2] at h; cases h
  · rw [codeAt_1 h1] at h; cases h

set_option maxHeartbeats 1600000 in
theorem implCandAt (a : Option Addr) (n c : Nat) (p : List (List Int)) (x y : Int) (w : World) (hp : RdR w a n c p) (_ : p.length + tot p ≤ 1048576) (_ : -9223372036854775808 ≤ x) (_ : x ≤ 9223372036854775807) (_ : -9223372036854775808 ≤ y) (_ : y ≤ 9223372036854775807) :
    Calls Try.prog 43 #[.slice a n c, .int .i64 x, .int .i64 y] w (RetIC w (candAt p x y) (codeAt p x y)) := by
  have Hl := Lib.hid hp.len
  by_cases h0 : codeAt p x y = 0
  · obtain ⟨g1, g2, g3, g4, g5, g6⟩ := codeAt_zero h0
    obtain ⟨x', rfl⟩ := Int.eq_ofNat_of_zero_le g2
    obtain ⟨y', rfl⟩ := Int.eq_ofNat_of_zero_le g4
    have hx1 : x' < n := by have := Hl.out; omega
    have hy1 : y' < n := by have := Hl.out; omega
    have hn2 : n ≤ 10 := by have := g1.2.1; have := Hl.out; omega
    have hR : Rect p n n := by have := g1.2.2.1; rwa [← Hl.out] at this
    have HR := Lib.hid hR
    have H0 := Lib.hid h0
    clear hR g1 g3 g5 g6 h0
    go_enter Try.func43, Try.ntmps43
    go_wp2_with fail
    refine (emptyCell_any _ _ _ p _ _ _ hp).mono ?_
    rintro e w2 ⟨rfl, hE⟩
    rw [H0.out]
    go_wp2_with fail
    refine (candidates_any _ _ _ p x' y' _ (hp.ext hE) HR.out (by omega) hx1 hy1).mono ?_
    rintro e w3 ⟨a', n', c', rfl, hO, hE2⟩
    go_wp2
    go_ret2
    exact RetIC.mk_ hO hE.size (by rw [candAt, if_pos H0.out]; rfl) (by rw [H0.out]) (hE.trans hE2)
  · have h1 : (codeAt p x y != 0) = true := by simp [h0]
    have H0 := Lib.hid h0
    clear h0
    go_enter Try.func43, Try.ntmps43
    go_wp2_with fail
    refine (emptyCell_any _ _ _ p _ _ _ hp).mono ?_
    rintro e w2 ⟨rfl, hE⟩
    go_wp2
    go_ret2
    exact RetIC.nil_ (by rw [candAt, if_neg H0.out]) rfl hE

set_option maxHeartbeats 1600000 in
theorem specCandAt (a : Option Addr) (n c : Nat) (p : List (List Int)) (x y : Int) (w : World) (hp : RdR w a n c p) (_ : p.length + tot p ≤ 1048576) (_ : -9223372036854775808 ≤ x) (_ : x ≤ 9223372036854775807) (_ : -9223372036854775808 ≤ y) (_ : y ≤ 9223372036854775807) :
    Calls Try.prog 42 #[.slice a n c, .int .i64 x, .int .i64 y] w (RetIC w (candAt p x y) (codeAt p x y)) := by
  have hb1 := hp.le
  have hb2 := hp.max
  have Hl := Lib.hid hp.len
  by_cases h1 : POk p
  · have hn1 : 1 ≤ n := by have := h1.1; have := Hl.out; omega
    have hn2 : n ≤ 10 := by have := h1.2.1; have := Hl.out; omega
    have H1 := Lib.hid h1
    clear h1
    by_cases hx : 0 ≤ x ∧ x ≤ (n : Int) - 1
    · by_cases hy : 0 ≤ y ∧ y ≤ (n : Int) - 1
      · obtain ⟨x', rfl⟩ := Int.eq_ofNat_of_zero_le hx.1
        obtain ⟨y', rfl⟩ := Int.eq_ofNat_of_zero_le hy.1
        have hx1 : x' < n := by omega
        have hy1 : y' < n := by omega
        have hxz : (x' : Int) < (n : Int) := by omega
        have hyz : (y' : Int) < (n : Int) := by omega
        have Hx := Lib.hid hx
        have Hy := Lib.hid hy
        have hR : Rect p n n := by have := H1.out.2.2.1; rwa [← Hl.out] at this
        have HR := Lib.hid hR
        clear hx hy hR
        have hge : -1 ≤ at2 p x' y' := (H1.out.2.2.2 x' y' (by have := Hl.out; omega) (by have := Hl.out; omega)).1
        go_enter Try.func42, Try.ntmps42
        go_wp2_with fail
        refine (l09Ok_any _ _ _ p _ hp).mono ?_
        rintro e w2 ⟨rfl, hE⟩
        rw [pb_true H1.out]
        go_wp2_with fail
        refine (l00In_any _ _ _ true (decide_eq_true Hx.out) _).mono ?_
        rintro e w3 ⟨rfl, rfl⟩
        go_wp2_with fail
        refine (l00In_any _ _ _ true (decide_eq_true Hy.out) _).mono ?_
        rintro e w3 ⟨rfl, rfl⟩
        have hpw := hp.ext hE
        obtain ⟨b, o, ai, ci, rfl, hc, hrow⟩ := hpw.row HR.out hx1
        obtain ⟨b1, o1, rfl, hc1⟩ := hrow.cell2 hy1
        have e := Hl.out
        have hxy : (0 ≤ (x' : Int) ∧ (x' : Int) ≤ (p.length : Int) - 1) ∧ (0 ≤ (y' : Int) ∧ (y' : Int) ≤ (p.length : Int) - 1) := by rw [← e]; exact ⟨Hx.out, Hy.out⟩
        have Hxy := Lib.hid hxy
        clear e hxy hrow
        by_cases hv : 0 ≤ at2 p x' y'
        · have hcode := codeAt_6 (x := x') (y := y') H1.out Hxy.out (show at2 p x' y' ≠ -1 by omega)
          have HC := Lib.hid hcode
          clear hcode
          go_wp2
          go_ret2
          exact RetIC.nil_ (by rw [candAt, HC.out]; rfl) HC.out.symm hE
        · have hcode := codeAt_0 (x := x') (y := y') H1.out Hxy.out (show at2 p x' y' = -1 by omega)
          have HC := Lib.hid hcode
          clear hcode
          go_wp2_with fail
          refine (l09Candidates_any _ _ _ p x' y' _ hpw HR.out (by omega) hx1 hy1).mono ?_
          rintro e w3 ⟨a', n', c', rfl, hO, hE2⟩
          go_wp2
          go_ret2
          exact RetIC.mk_ hO hE.size (by rw [candAt, if_pos HC.out]; rfl) (by rw [HC.out]) (hE.trans hE2)
      · have Hx := Lib.hid hx
        have Hy := Lib.hid hy
        clear hx hy
        have hcode := codeAt_2 (x := x) (y := y) H1.out (fun h => Hy.out (by rw [Hl.out]; exact h.2))
        have HC := Lib.hid hcode
        clear hcode
        go_enter Try.func42, Try.ntmps42
        go_wp2_with fail
        refine (l09Ok_any _ _ _ p _ hp).mono ?_
        rintro e w2 ⟨rfl, hE⟩
        rw [pb_true H1.out]
        go_wp2_with fail
        refine (l00In_any _ _ _ true (decide_eq_true Hx.out) _).mono ?_
        rintro e w3 ⟨rfl, rfl⟩
        go_wp2_with fail
        refine (l00In_any _ _ _ false (decide_eq_false Hy.out) _).mono ?_
        rintro e w3 ⟨rfl, rfl⟩
        go_wp2
        go_ret2
        exact RetIC.nil_ (by rw [candAt, HC.out]; rfl) HC.out.symm hE
    · have Hx := Lib.hid hx
      clear hx
      have hcode := codeAt_2 (x := x) (y := y) H1.out (fun h => Hx.out (by rw [Hl.out]; exact h.1))
      have HC := Lib.hid hcode
      clear hcode
      go_enter Try.func42, Try.ntmps42
      go_wp2_with fail
      refine (l09Ok_any _ _ _ p _ hp).mono ?_
      rintro e w2 ⟨rfl, hE⟩
      rw [pb_true H1.out]
      go_wp2_with fail
      refine (l00In_any _ _ _ false (decide_eq_false Hx.out) _).mono ?_
      rintro e w3 ⟨rfl, rfl⟩
      go_wp2
      go_ret2
      exact RetIC.nil_ (by rw [candAt, HC.out]; rfl) HC.out.symm hE
  · have hcode := codeAt_1 (x := x) (y := y) h1
    have HC := Lib.hid hcode
    have H1 := Lib.hid h1
    clear h1 hcode
    go_enter Try.func42, Try.ntmps42
    go_wp2_with fail
    refine (l09Ok_any _ _ _ p _ hp).mono ?_
    rintro e w2 ⟨rfl, hE⟩
    rw [pb_false H1.out]
    go_wp2
    go_ret2
    exact RetIC.nil_ (by rw [candAt, HC.out]; rfl) HC.out.symm hE

theorem candAt_len (p : List (List Int)) (x y : Int) (h : p.length + tot p ≤ 1048576) : (candAt p x y).length ≤ 1048576 := by
  rw [candAt]
  split
  · have := candsTo_len p p.length x.toNat y.toNat p.length
    rw [cands]; omega
  · simp
end Go.Proofs.Ytmcdhhcoofcbiaa
