/- FillCell of both. Conditions: none. -/
import Derived.Test.YtmcdhhcoofcbiaaCandAt
import Derived.Test.YtmcdhhcoofcbiaaSet2
import Derived.Test.YtmcdhhcoofcbiaaOwnL
import Derived.Test.YtmcdhhcoofcbiaaHas
namespace Go.Proofs.Ytmcdhhcoofcbiaa
open Go.RowKit

noncomputable def fillC (p : List (List Int)) (x y s : Int) : Int := if codeAt p x y = 0 then (if pb (s ∈ candAt p x y) then 0 else 4) else codeAt p x y
noncomputable def fillM (p : List (List Int)) (x y s : Int) : List (List Int) := if codeAt p x y = 0 then (if pb (s ∈ candAt p x y) then set2 p x.toNat y.toNat s else []) else []

theorem fillM_tot (p : List (List Int)) (x y s : Int) (h : p.length + tot p ≤ 1048576) : tot (fillM p x y s) ≤ 1048576 := by
  rw [fillM]
  split
  · rename_i h0
    obtain ⟨_, g2, g3, _⟩ := codeAt_zero h0
    split
    · rw [tot_set2 _ _ _ _ (by omega)]; omega
    · simp [tot]
  · simp [tot]

theorem neq0 {c : Int} (h : ¬ c = 0) : (c != 0) = true := by simp [h]

set_option maxHeartbeats 1600000 in
theorem specFill (a : Option Addr) (n c : Nat) (p : List (List Int)) (x y s : Int) (w : World) (hp : RdR w a n c p) (hs : p.length + tot p ≤ 1048576) (h1 : -9223372036854775808 ≤ x) (h2 : x ≤ 9223372036854775807) (h3 : -9223372036854775808 ≤ y) (h4 : y ≤ 9223372036854775807) (_ : -9223372036854775808 ≤ s) (_ : s ≤ 9223372036854775807) :
    Calls Try.prog 53 #[.slice a n c, .int .i64 x, .int .i64 y, .int .i64 s] w (RetRC w (fillM p x y s) (fillC p x y s)) := by
  have Hl := Lib.hid hp.len
  by_cases h0 : codeAt p x y = 0
  · obtain ⟨g1, g2, g3, g4, g5, g6⟩ := codeAt_zero h0
    obtain ⟨x', rfl⟩ := Int.eq_ofNat_of_zero_le g2
    obtain ⟨y', rfl⟩ := Int.eq_ofNat_of_zero_le g4
    have hx1 : x' < n := by have := Hl.out; omega
    have hy1 : y' < n := by have := Hl.out; omega
    have hR : Rect p n n := by have := g1.2.2.1; rwa [← Hl.out] at this
    have HR := Lib.hid hR
    have H0 := Lib.hid h0
    clear hR g1 g2 g3 g4 g5 g6 h0
    have hxz : (x' : Int) < (n : Int) := by omega
    have hyz : (y' : Int) < (n : Int) := by omega
    by_cases hm : s ∈ candAt p x' y'
    · have Hm := Lib.hid hm
      clear hm
      go_enter Try.func53, Try.ntmps53
      go_wp2_with fail
      refine (specCandAt _ _ _ p _ _ _ hp hs h1 h2 h3 h4).mono ?_
      rintro e w2 ⟨a2, n2, c2, rfl, hO2, hE2⟩
      rw [H0.out]
      go_wp2_with fail
      refine (l00Has_any _ _ _ _ _ true _ hO2.rdI (decide_eq_true Hm.out)).mono ?_
      rintro e w3 ⟨rfl, rfl⟩
      go_wp2_with fail
      refine (l06Own_any _ _ _ p _ (hp.ext hE2) (by omega)).mono ?_
      rintro e w4 ⟨a4, n4, c4, rs, rfl, hO4, hE4⟩
      obtain rfl : n = n4 := by rw [Hl.out, hO4.len]
      obtain ⟨g, gg, d, rfl, hc1, hB, hc2, hf2, hset⟩ := hO4.cellAt HR.out hx1 hy1
      have hfin := hset s
      have hE := (hE2.trans hE4).setCell (p := ⟨gg, y', none⟩) (Nat.le_trans hE2.size hB) (.int .i64 s)
      have hsz := hE2.size
      clear hset hO4 hE2 hE4 hO2
      go_wp2
      go_ret2
      exact RetRC.mk_ hfin hsz (by rw [fillM, if_pos H0.out, pb_true Hm.out]; rfl) (by rw [fillC, if_pos H0.out, pb_true Hm.out]; rfl) hE
    · have Hm := Lib.hid hm
      clear hm
      go_enter Try.func53, Try.ntmps53
      go_wp2_with fail
      refine (specCandAt _ _ _ p _ _ _ hp hs h1 h2 h3 h4).mono ?_
      rintro e w2 ⟨a2, n2, c2, rfl, hO2, hE2⟩
      rw [H0.out]
      go_wp2_with fail
      refine (l00Has_any _ _ _ _ _ false _ hO2.rdI (decide_eq_false Hm.out)).mono ?_
      rintro e w3 ⟨rfl, rfl⟩
      go_wp2
      go_ret2
      exact RetRC.nil_ (by rw [fillM, if_pos H0.out, pb_false Hm.out]; rfl) (by rw [fillC, if_pos H0.out, pb_false Hm.out]; rfl) hE2
  · have hn0 := neq0 h0
    have H0 := Lib.hid h0
    clear h0
    go_enter Try.func53, Try.ntmps53
    go_wp2_with fail
    refine (specCandAt _ _ _ p _ _ _ hp hs h1 h2 h3 h4).mono ?_
    rintro e w2 ⟨a2, n2, c2, rfl, hO2, hE2⟩
    go_wp2
    go_ret2
    exact RetRC.nil_ (by rw [fillM, if_neg H0.out]) (by rw [fillC, if_neg H0.out]) hE2

set_option maxHeartbeats 1600000 in
theorem implFill (a : Option Addr) (n c : Nat) (p : List (List Int)) (x y s : Int) (w : World) (hp : RdR w a n c p) (hs : p.length + tot p ≤ 1048576) (_ : -9223372036854775808 ≤ x) (_ : x ≤ 9223372036854775807) (_ : -9223372036854775808 ≤ y) (_ : y ≤ 9223372036854775807) (_ : -9223372036854775808 ≤ s) (_ : s ≤ 9223372036854775807) :
    Calls Try.prog 54 #[.slice a n c, .int .i64 x, .int .i64 y, .int .i64 s] w (RetRC w (fillM p x y s) (fillC p x y s)) := by
  have Hl := Lib.hid hp.len
  by_cases h0 : codeAt p x y = 0
  · obtain ⟨g1, g2, g3, g4, g5, g6⟩ := codeAt_zero h0
    obtain ⟨x', rfl⟩ := Int.eq_ofNat_of_zero_le g2
    obtain ⟨y', rfl⟩ := Int.eq_ofNat_of_zero_le g4
    have hx1 : x' < n := by have := Hl.out; omega
    have hy1 : y' < n := by have := Hl.out; omega
    have hn2 : n ≤ 10 := by have := g1.2.1; have := Hl.out; omega
    have hR : Rect p n n := by have := g1.2.2.1; rwa [← Hl.out] at this
    have HR := Lib.hid hR
    have H0 := Lib.hid h0
    clear hR g1 g2 g3 g4 g5 g6 h0
    have hxz : (x' : Int) < (n : Int) := by omega
    have hyz : (y' : Int) < (n : Int) := by omega
    by_cases hm : s ∈ candAt p x' y'
    · have Hm := Lib.hid hm
      clear hm
      go_enter Try.func54, Try.ntmps54
      go_wp2_with fail
      refine (emptyCell_any _ _ _ p _ _ _ hp).mono ?_
      rintro e w2 ⟨rfl, hE⟩
      rw [H0.out]
      go_wp2_with fail
      refine (candidates_any _ _ _ p x' y' _ (hp.ext hE) HR.out (by omega) hx1 hy1).mono ?_
      rintro e w3 ⟨a2, n2, c2, rfl, hO2, hE3⟩
      have hE2 := hE.trans hE3
      clear hE hE3
      go_wp2_with fail
      refine (slContains_any _ _ _ _ _ true _ hO2.rdI (decide_eq_true (by have := Hm.out; rw [candAt, if_pos H0.out] at this; exact this))).mono ?_
      rintro e w3 ⟨rfl, rfl⟩
      go_wp2_with fail
      refine (copyLists_any _ _ _ p _ (hp.ext hE2) (by omega)).mono ?_
      rintro e w4 ⟨a4, n4, c4, rs, rfl, hO4, hE4⟩
      obtain rfl : n = n4 := by rw [Hl.out, hO4.len]
      obtain ⟨g, gg, d, rfl, hc1, hB, hc2, hf2, hset⟩ := hO4.cellAt HR.out hx1 hy1
      have hfin := hset s
      have hE := (hE2.trans hE4).setCell (p := ⟨gg, y', none⟩) (Nat.le_trans hE2.size hB) (.int .i64 s)
      have hsz := hE2.size
      clear hset hO4 hE2 hE4 hO2
      go_wp2
      go_ret2
      exact RetRC.mk_ hfin hsz (by rw [fillM, if_pos H0.out, pb_true Hm.out]; rfl) (by rw [fillC, if_pos H0.out, pb_true Hm.out]; rfl) hE
    · have Hm := Lib.hid hm
      clear hm
      go_enter Try.func54, Try.ntmps54
      go_wp2_with fail
      refine (emptyCell_any _ _ _ p _ _ _ hp).mono ?_
      rintro e w2 ⟨rfl, hE⟩
      rw [H0.out]
      go_wp2_with fail
      refine (candidates_any _ _ _ p x' y' _ (hp.ext hE) HR.out (by omega) hx1 hy1).mono ?_
      rintro e w3 ⟨a2, n2, c2, rfl, hO2, hE3⟩
      have hE2 := hE.trans hE3
      clear hE hE3
      go_wp2_with fail
      refine (slContains_any _ _ _ _ _ false _ hO2.rdI (decide_eq_false (by have := Hm.out; rw [candAt, if_pos H0.out] at this; exact this))).mono ?_
      rintro e w3 ⟨rfl, rfl⟩
      go_wp2
      go_ret2
      exact RetRC.nil_ (by rw [fillM, if_pos H0.out, pb_false Hm.out]; rfl) (by rw [fillC, if_pos H0.out, pb_false Hm.out]; rfl) hE2
  · have hn0 := neq0 h0
    have H0 := Lib.hid h0
    clear h0
    go_enter Try.func54, Try.ntmps54
    go_wp2_with fail
    refine (emptyCell_any _ _ _ p _ _ _ hp).mono ?_
    rintro e w2 ⟨rfl, hE⟩
    go_wp2
    go_ret2
    exact RetRC.nil_ (by rw [fillM, if_neg H0.out]) (by rw [fillC, if_neg H0.out]) hE
end Go.Proofs.Ytmcdhhcoofcbiaa
