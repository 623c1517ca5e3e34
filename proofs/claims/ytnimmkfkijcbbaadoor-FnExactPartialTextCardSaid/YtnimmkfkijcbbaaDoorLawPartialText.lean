/- The walk of the law FnExactPartialText: it returns true. Conditions: none. -/
import Derived.Test.YtnimmkfkijcbbaaDoorPts
import Derived.Test.YtnimmkfkijcbbaaDoorTo
import Derived.Test.YtnimmkfkijcbbaaDoorEq
namespace Go.Proofs.YtnimmkfkijcbbaaDoor
open Go.RowKit

set_option maxRecDepth 100000 in
set_option maxHeartbeats 1600000 in
theorem lawPartialText (a0 : Option Addr) (n0 c0 : Nat) (x0 : List (List Int)) (m : Int) (w : World) (h0 : RdR w a0 n0 c0 x0) (hm : w.cell? ⟨0, 0, none⟩ = some (.int .i64 m)) (hT : Tab w) :
    Calls Tryd.prog 3 #[.slice a0 n0 c0] w fun e w' => e = .returned (.bool true) ∧ Ext w w' := by
  by_cases s0 : ((x0.length + tot x0 : Nat) : Int) ≤ 1048576
  · obtain ⟨l0, hl0⟩ : ∃ l : Int, 1048576 - ((x0.length + tot x0 : Nat) : Int) = l := ⟨_, rfl⟩
    have b0 : 0 ≤ l0 ∧ l0 ≤ 1048576 := by omega
    obtain ⟨bl0, bh0⟩ := b0
    have Hl0 := Lib.hid hl0
    have t0 : x0.length + tot x0 ≤ 1048576 := by omega
    clear hl0 s0
    have X_1 := Ext.refl w
    have X_2 := Ext.refl w
    go_enter Tryd.func3, Tryd.ntmps3
    go_wp2_with fail
    refine (sz_ok _ _ _ x0 1048576 _ h0 _ (by omega) (by omega) Hl0.out).mono ?_
    rintro e w' ⟨rfl, rfl⟩
    go_wp2_with fail
    refine (to_SS _ _ _ x0 _ (h0.ext X_2) (by have := h0.len; omega) (by omega)).mono ?_
    rintro e w1 ⟨a_c3, n_c3, c_c3, r_c3, rfl, O_4, E_5⟩
    have R_6 := O_4.rd
    have X_7 := Ext.trans X_2 E_5
    have X_8 := Ext.trans X_1 E_5
    have X_9 := Ext.refl w1
    go_wp2_with fail
    refine (specPtx _ _ _ x0 _ (R_6.ext X_9) t0).mono ?_
    rintro e w2 ⟨rfl, E_10⟩
    have X_11 := Ext.trans X_7 E_10
    clear X_7
    have X_12 := Ext.trans X_8 E_10
    clear X_8
    have X_13 := Ext.trans X_9 E_10
    clear X_9
    go_wp2_with fail
    refine (to_SS _ _ _ x0 _ (h0.ext X_11) (by have := h0.len; omega) (by omega)).mono ?_
    rintro e w3 ⟨a_c14, n_c14, c_c14, r_c14, rfl, O_15, E_16⟩
    have R_17 := O_15.rd
    have X_18 := Ext.trans X_11 E_16
    have X_19 := Ext.trans X_12 E_16
    have X_20 := Ext.refl w3
    go_wp2_with fail
    refine (implPtx0 _ _ _ x0 m _ (R_17.ext X_20) (X_18.cell hm) (hT.ext X_18)).mono ?_
    rintro e w4 ⟨rfl, E_21⟩
    have X_22 := Ext.trans X_18 E_21
    clear X_18
    have X_23 := Ext.trans X_19 E_21
    clear X_19
    have X_24 := Ext.trans X_20 E_21
    clear X_20
    go_wp2_with fail
    refine (to_SS _ _ _ x0 _ (h0.ext X_22) (by have := h0.len; omega) (by omega)).mono ?_
    rintro e w5 ⟨a_c25, n_c25, c_c25, r_c25, rfl, O_26, E_27⟩
    have R_28 := O_26.rd
    have X_29 := Ext.trans X_22 E_27
    have X_30 := Ext.trans X_23 E_27
    have X_31 := Ext.trans X_24 E_27
    have X_32 := Ext.refl w5
    go_wp2_with fail
    refine (eq_SS _ _ _ _ _ _ x0 x0 true _ (R_17.ext X_31) (R_28.ext X_32) (by simp)).mono ?_
    rintro e w6 ⟨rfl, Q_33⟩
    have X_34 := Ext.trans X_29 (Q.ext Q_33)
    clear X_29
    have X_35 := Ext.trans X_30 (Q.ext Q_33)
    clear X_30
    have X_36 := Ext.trans X_31 (Q.ext Q_33)
    clear X_31
    have X_37 := Ext.trans X_32 (Q.ext Q_33)
    clear X_32
    go_wp2
    go_ret
    exact ⟨rfl, X_35⟩
  · skip
    go_enter Tryd.func3, Tryd.ntmps3
    go_wp2_with fail
    refine (sz_no _ _ _ x0 1048576 _ h0 (by omega) (by omega) (by omega)).mono ?_
    rintro e w' ⟨rfl, rfl⟩
    go_wp2
    go_ret
    exact ⟨rfl, Ext.refl _⟩
end Go.Proofs.YtnimmkfkijcbbaaDoor
