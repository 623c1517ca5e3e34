/- The walk of the law FnExactOrthogonal: it returns true. Conditions: none. -/
import Derived.Test.YthpcogjglpnjeaaOrt
import Derived.Test.YthpcogjglpnjeaaTo
import Derived.Test.YthpcogjglpnjeaaEq
import Derived.Test.YthpcogjglpnjeaaMark
import Derived.Test.YthpcogjglpnjeaaSz
namespace Go.Proofs.Ythpcogjglpnjeaa
open Go.RowKit

set_option maxRecDepth 100000 in
set_option maxHeartbeats 1600000 in
theorem lawOrthogonal (a0 : Option Addr) (n0 c0 : Nat) (x0 : List (List Int)) (a1 : Option Addr) (n1 c1 : Nat) (x1 : List (List Int)) (w : World) (h0 : RdR w a0 n0 c0 x0) (h1 : RdR w a1 n1 c1 x1) :
    Calls Try.prog 8 #[.slice a0 n0 c0, .slice a1 n1 c1] w fun e w' => e = .returned (.bool true) ∧ Ext w w' := by
  by_cases s0 : ((x0.length + tot x0 : Nat) : Int) ≤ 1048576
  · obtain ⟨l0, hl0⟩ : ∃ l : Int, 1048576 - ((x0.length + tot x0 : Nat) : Int) = l := ⟨_, rfl⟩
    have b0 : 0 ≤ l0 ∧ l0 ≤ 1048576 := by omega
    obtain ⟨bl0, bh0⟩ := b0
    have Hl0 := Lib.hid hl0
    have t0 : x0.length + tot x0 ≤ 1048576 := by omega
    clear hl0 s0
    by_cases s1 : ((x1.length + tot x1 : Nat) : Int) ≤ l0
    · obtain ⟨l1, hl1⟩ : ∃ l : Int, l0 - ((x1.length + tot x1 : Nat) : Int) = l := ⟨_, rfl⟩
      have b1 : 0 ≤ l1 ∧ l1 ≤ 1048576 := by omega
      obtain ⟨bl1, bh1⟩ := b1
      have Hl1 := Lib.hid hl1
      have t1 : x1.length + tot x1 ≤ 1048576 := by omega
      clear hl1 s1
      have X_1 := Ext.refl w
      have X_2 := Ext.refl w
      have X_3 := Ext.refl w
      have sc0 : (pb (OrthOk x0 x1) != pb (OrthOk x0 x1)) = false := by simp
      go_enter Try.func8, Try.ntmps8
      go_wp2_with fail
      refine (sz_ok _ _ _ x0 1048576 _ h0 _ (by omega) (by omega) Hl0.out).mono ?_
      rintro e w' ⟨rfl, rfl⟩
      go_wp2_with fail
      refine (sz_ok _ _ _ x1 l0 _ h1 _ (by omega) (by omega) Hl1.out).mono ?_
      rintro e w' ⟨rfl, rfl⟩
      go_wp2_with fail
      refine (to_SS _ _ _ x0 _ (h0.ext X_2) (by have := h0.len; omega) (by omega)).mono ?_
      rintro e w1 ⟨a_c4, n_c4, c_c4, r_c4, rfl, O_5, E_6⟩
      have R_7 := O_5.rd
      have X_8 := Ext.trans X_2 E_6
      have X_9 := Ext.trans X_3 E_6
      have X_10 := Ext.trans X_1 E_6
      have X_11 := Ext.refl w1
      go_wp2_with fail
      refine (to_SS _ _ _ x1 _ (h1.ext X_9) (by have := h1.len; omega) (by omega)).mono ?_
      rintro e w2 ⟨a_c12, n_c12, c_c12, r_c12, rfl, O_13, E_14⟩
      have R_15 := O_13.rd
      have X_16 := Ext.trans X_8 E_14
      have X_17 := Ext.trans X_9 E_14
      have X_18 := Ext.trans X_10 E_14
      have X_19 := Ext.trans X_11 E_14
      have X_20 := Ext.refl w2
      go_wp2_with fail
      refine (specOrt _ _ _ x0 _ _ _ x1 _ (R_7.ext X_19) t0 (R_15.ext X_20) t1).mono ?_
      rintro e w3 ⟨rfl, E_21⟩
      have X_22 := Ext.trans X_16 E_21
      clear X_16
      have X_23 := Ext.trans X_17 E_21
      clear X_17
      have X_24 := Ext.trans X_18 E_21
      clear X_18
      have X_25 := Ext.trans X_19 E_21
      clear X_19
      have X_26 := Ext.trans X_20 E_21
      clear X_20
      go_wp2_with fail
      refine (to_SS _ _ _ x0 _ (h0.ext X_22) (by have := h0.len; omega) (by omega)).mono ?_
      rintro e w4 ⟨a_c27, n_c27, c_c27, r_c27, rfl, O_28, E_29⟩
      have R_30 := O_28.rd
      have X_31 := Ext.trans X_22 E_29
      have X_32 := Ext.trans X_23 E_29
      have X_33 := Ext.trans X_24 E_29
      have X_34 := Ext.refl w4
      go_wp2_with fail
      refine (to_SS _ _ _ x1 _ (h1.ext X_32) (by have := h1.len; omega) (by omega)).mono ?_
      rintro e w5 ⟨a_c35, n_c35, c_c35, r_c35, rfl, O_36, E_37⟩
      have R_38 := O_36.rd
      have X_39 := Ext.trans X_31 E_37
      have X_40 := Ext.trans X_32 E_37
      have X_41 := Ext.trans X_33 E_37
      have X_42 := Ext.trans X_34 E_37
      have X_43 := Ext.refl w5
      go_wp2_with fail
      refine (implOrt _ _ _ x0 _ _ _ x1 _ (R_30.ext X_42) t0 (R_38.ext X_43) t1).mono ?_
      rintro e w6 ⟨rfl, E_44⟩
      have X_45 := Ext.trans X_39 E_44
      clear X_39
      have X_46 := Ext.trans X_40 E_44
      clear X_40
      have X_47 := Ext.trans X_41 E_44
      clear X_41
      have X_48 := Ext.trans X_42 E_44
      clear X_42
      have X_49 := Ext.trans X_43 E_44
      clear X_43
      go_wp2_with fail
      refine (to_SS _ _ _ x0 _ (h0.ext X_45) (by have := h0.len; omega) (by omega)).mono ?_
      rintro e w7 ⟨a_c50, n_c50, c_c50, r_c50, rfl, O_51, E_52⟩
      have R_53 := O_51.rd
      have X_54 := Ext.trans X_45 E_52
      have X_55 := Ext.trans X_46 E_52
      have X_56 := Ext.trans X_47 E_52
      have X_57 := Ext.trans X_48 E_52
      have X_58 := Ext.trans X_49 E_52
      have X_59 := Ext.refl w7
      go_wp2_with fail
      refine (eq_SS _ _ _ _ _ _ x0 x0 true _ (R_30.ext X_57) (R_53.ext X_59) (by simp)).mono ?_
      rintro e w8 ⟨rfl, Q_60⟩
      have X_61 := Ext.trans X_54 (Q.ext Q_60)
      clear X_54
      have X_62 := Ext.trans X_55 (Q.ext Q_60)
      clear X_55
      have X_63 := Ext.trans X_56 (Q.ext Q_60)
      clear X_56
      have X_64 := Ext.trans X_57 (Q.ext Q_60)
      clear X_57
      have X_65 := Ext.trans X_58 (Q.ext Q_60)
      clear X_58
      have X_66 := Ext.trans X_59 (Q.ext Q_60)
      clear X_59
      go_wp2_with fail
      refine (to_SS _ _ _ x1 _ (h1.ext X_62) (by have := h1.len; omega) (by omega)).mono ?_
      rintro e w9 ⟨a_c67, n_c67, c_c67, r_c67, rfl, O_68, E_69⟩
      have R_70 := O_68.rd
      have X_71 := Ext.trans X_61 E_69
      have X_72 := Ext.trans X_62 E_69
      have X_73 := Ext.trans X_63 E_69
      have X_74 := Ext.trans X_64 E_69
      have X_75 := Ext.trans X_65 E_69
      have X_76 := Ext.refl w9
      go_wp2_with fail
      refine (eq_SS _ _ _ _ _ _ x1 x1 true _ (R_38.ext X_75) (R_70.ext X_76) (by simp)).mono ?_
      rintro e w10 ⟨rfl, Q_77⟩
      have X_78 := Ext.trans X_71 (Q.ext Q_77)
      clear X_71
      have X_79 := Ext.trans X_72 (Q.ext Q_77)
      clear X_72
      have X_80 := Ext.trans X_73 (Q.ext Q_77)
      clear X_73
      have X_81 := Ext.trans X_74 (Q.ext Q_77)
      clear X_74
      have X_82 := Ext.trans X_75 (Q.ext Q_77)
      clear X_75
      have X_83 := Ext.trans X_76 (Q.ext Q_77)
      clear X_76
      go_wp2
      go_ret
      exact ⟨rfl, X_80⟩
    · skip
      go_enter Try.func8, Try.ntmps8
      go_wp2_with fail
      refine (sz_ok _ _ _ x0 1048576 _ h0 _ (by omega) (by omega) Hl0.out).mono ?_
      rintro e w' ⟨rfl, rfl⟩
      go_wp2_with fail
      refine (sz_no _ _ _ x1 l0 _ h1 (by omega) (by omega) (by omega)).mono ?_
      rintro e w' ⟨rfl, rfl⟩
      go_wp2
      go_ret
      exact ⟨rfl, Ext.refl _⟩
  · skip
    go_enter Try.func8, Try.ntmps8
    go_wp2_with fail
    refine (sz_no _ _ _ x0 1048576 _ h0 (by omega) (by omega) (by omega)).mono ?_
    rintro e w' ⟨rfl, rfl⟩
    go_wp2
    go_ret
    exact ⟨rfl, Ext.refl _⟩
end Go.Proofs.Ythpcogjglpnjeaa
