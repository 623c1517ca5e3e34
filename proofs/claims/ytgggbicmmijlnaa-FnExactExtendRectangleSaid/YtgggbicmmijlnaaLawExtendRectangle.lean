/- The walk of the law FnExactExtendRectangle: it returns true. Conditions: none. -/
import Derived.Test.YtgggbicmmijlnaaExt
import Derived.Test.YtgggbicmmijlnaaTo
import Derived.Test.YtgggbicmmijlnaaEq
import Derived.Test.YtgggbicmmijlnaaMark
import Derived.Test.YtgggbicmmijlnaaSz
namespace Go.Proofs.Ytgggbicmmijlnaa
open Go.RowKit

set_option maxRecDepth 100000 in
set_option maxHeartbeats 1600000 in
theorem lawExtendRectangle (a0 : Option Addr) (n0 c0 : Nat) (x0 : List (List Int)) (w : World) (h0 : RdR w a0 n0 c0 x0) :
    Calls Try.prog 4 #[.slice a0 n0 c0] w fun e w' => e = .returned (.bool true) ∧ Ext w w' := by
  by_cases s0 : ((x0.length + tot x0 : Nat) : Int) ≤ 1048576
  · obtain ⟨l0, hl0⟩ : ∃ l : Int, 1048576 - ((x0.length + tot x0 : Nat) : Int) = l := ⟨_, rfl⟩
    have b0 : 0 ≤ l0 ∧ l0 ≤ 1048576 := by omega
    obtain ⟨bl0, bh0⟩ := b0
    have Hl0 := Lib.hid hl0
    have t0 : x0.length + tot x0 ≤ 1048576 := by omega
    clear hl0 s0
    have X_1 := Ext.refl w
    have X_2 := Ext.refl w
    have bnd := exM_tot x0
    have sc1 : (exC x0 != exC x0) = false := by simp
    go_enter Try.func4, Try.ntmps4
    go_wp2_with fail
    refine (sz_ok _ _ _ x0 1048576 _ h0 _ (by omega) (by omega) Hl0.out).mono ?_
    rintro e w' ⟨rfl, rfl⟩
    go_wp2_with fail
    refine (to_SS _ _ _ x0 _ (h0.ext X_2) (by have := h0.len; omega) (by omega)).mono ?_
    rintro e w1 ⟨a_c3, n_c3, c_c3, r_c3, rfl, O_4, E_5⟩
    have R_6 := O_4.rd
    have X_7 := Ext.trans X_2 E_5
    have X_8 := Ext.trans X_1 E_5
    have X_9 := Ext.refl w1
    go_wp2_with fail
    refine (specExt _ _ _ x0 _ (R_6.ext X_9) t0).mono ?_
    rintro e w2 ⟨a_res2, n_res2, c_res2, r_res2, rfl, O_11, E_10⟩
    have R_12 := O_11.rd
    have X_13 := Ext.trans X_7 E_10
    have X_14 := Ext.trans X_8 E_10
    have X_15 := Ext.trans X_9 E_10
    have X_16 := Ext.refl w2
    go_wp2_with fail
    refine (to_SS _ _ _ x0 _ (h0.ext X_13) (by have := h0.len; omega) (by omega)).mono ?_
    rintro e w3 ⟨a_c17, n_c17, c_c17, r_c17, rfl, O_18, E_19⟩
    have R_20 := O_18.rd
    have X_21 := Ext.trans X_13 E_19
    have X_22 := Ext.trans X_14 E_19
    have X_23 := Ext.trans X_16 E_19
    have X_24 := Ext.refl w3
    go_wp2_with fail
    refine (implExt _ _ _ x0 _ (R_20.ext X_24) t0).mono ?_
    rintro e w4 ⟨a_res4, n_res4, c_res4, r_res4, rfl, O_26, E_25⟩
    have R_27 := O_26.rd
    have X_28 := Ext.trans X_21 E_25
    have X_29 := Ext.trans X_22 E_25
    have X_30 := Ext.trans X_23 E_25
    have X_31 := Ext.trans X_24 E_25
    have X_32 := Ext.refl w4
    go_wp2_with fail
    refine (eq_SS _ _ _ _ _ _ (exM x0) (exM x0) true _ (R_27.ext X_32) (R_12.ext X_30) (by simp)).mono ?_
    rintro e w5 ⟨rfl, Q_33⟩
    have X_34 := Ext.trans X_28 (Q.ext Q_33)
    clear X_28
    have X_35 := Ext.trans X_29 (Q.ext Q_33)
    clear X_29
    have X_36 := Ext.trans X_30 (Q.ext Q_33)
    clear X_30
    have X_37 := Ext.trans X_31 (Q.ext Q_33)
    clear X_31
    have X_38 := Ext.trans X_32 (Q.ext Q_33)
    clear X_32
    go_wp2_with fail
    refine (to_SS _ _ _ x0 _ (h0.ext X_34) (by have := h0.len; omega) (by omega)).mono ?_
    rintro e w6 ⟨a_c39, n_c39, c_c39, r_c39, rfl, O_40, E_41⟩
    have R_42 := O_40.rd
    have X_43 := Ext.trans X_34 E_41
    have X_44 := Ext.trans X_35 E_41
    have X_45 := Ext.trans X_36 E_41
    have X_46 := Ext.trans X_37 E_41
    have X_47 := Ext.trans X_38 E_41
    have X_48 := Ext.refl w6
    go_wp2_with fail
    refine (eq_SS _ _ _ _ _ _ x0 x0 true _ (R_20.ext X_46) (R_42.ext X_48) (by simp)).mono ?_
    rintro e w7 ⟨rfl, Q_49⟩
    have X_50 := Ext.trans X_43 (Q.ext Q_49)
    clear X_43
    have X_51 := Ext.trans X_44 (Q.ext Q_49)
    clear X_44
    have X_52 := Ext.trans X_45 (Q.ext Q_49)
    clear X_45
    have X_53 := Ext.trans X_46 (Q.ext Q_49)
    clear X_46
    have X_54 := Ext.trans X_47 (Q.ext Q_49)
    clear X_47
    have X_55 := Ext.trans X_48 (Q.ext Q_49)
    clear X_48
    go_wp2_with fail
    have O_56 := O_18.ext X_53
    refine (mark_SS _ _ _ _ x0 _ 1 _ O_56 (by omega) (by omega) (by omega)).mono ?_
    rintro e w8 ⟨rfl, O_57, L_58⟩
    have X_59 := Ext.only X_50 L_58 (fun b hb => Nat.le_trans (Ext.size X_13) (O_56.lt hb).1)
    clear X_50
    have X_60 := Ext.only X_51 L_58 (fun b hb => Nat.le_trans (Ext.size X_14) (O_56.lt hb).1)
    clear X_51
    have X_61 := Ext.only X_52 L_58 (fun b hb => Nat.le_trans (Ext.size X_16) (O_56.lt hb).1)
    clear X_52
    have O_62 := OwnR.only (O_26.ext X_54) L_58 (fun g hg e => by have y1 := (O_18.lt e).2; have y2 := ((O_26.ext X_54).lt hg).1; have y3 := Ext.size X_24; omega)
    have R_63 := O_62.rd
    have X_64 := Ext.refl w8
    have R_65 := O_57.rd
    have X_66 := Ext.refl w8
    go_wp2_with fail
    refine (eq_SS _ _ _ _ _ _ (exM x0) (exM x0) true _ (R_63.ext X_64) (R_12.ext X_61) (by simp)).mono ?_
    rintro e w9 ⟨rfl, Q_67⟩
    have X_68 := Ext.trans X_59 (Q.ext Q_67)
    clear X_59
    have X_69 := Ext.trans X_60 (Q.ext Q_67)
    clear X_60
    have X_70 := Ext.trans X_61 (Q.ext Q_67)
    clear X_61
    have X_71 := Ext.trans X_64 (Q.ext Q_67)
    clear X_64
    go_wp2_with fail
    have O_72 := O_62.ext X_71
    refine (mark_SS _ _ _ _ (exM x0) _ 1 _ O_72 (by omega) (by omega) (by omega)).mono ?_
    rintro e w10 ⟨rfl, O_73, L_74⟩
    have X_75 := Ext.only X_68 L_74 (fun b hb => Nat.le_trans (Ext.size X_21) (O_72.lt hb).1)
    clear X_68
    have X_76 := Ext.only X_69 L_74 (fun b hb => Nat.le_trans (Ext.size X_22) (O_72.lt hb).1)
    clear X_69
    have X_77 := Ext.only X_70 L_74 (fun b hb => Nat.le_trans (Ext.size X_23) (O_72.lt hb).1)
    clear X_70
    have R_78 := O_73.rd
    have X_79 := Ext.refl w10
    have neg1 : ¬ ((1 : Int) + (tot (exM x0) : Nat) < 0) := by omega
    have neq1 : ((1 : Int) + (tot (exM x0) : Nat) != 1 + (tot (exM x0) : Nat)) = false := by simp
    go_wp2_with fail
    refine (held_SS _ _ _ (exM x0) 1 _ (R_78.ext X_79) (by omega) (by omega) (by omega)).mono ?_
    rintro e w11 ⟨rfl, Q_80⟩
    have X_81 := Ext.trans X_75 (Q.ext Q_80)
    clear X_75
    have X_82 := Ext.trans X_76 (Q.ext Q_80)
    clear X_76
    have X_83 := Ext.trans X_77 (Q.ext Q_80)
    clear X_77
    have X_84 := Ext.trans X_79 (Q.ext Q_80)
    clear X_79
    go_wp2_with fail
    refine (to_SS _ _ _ x0 _ (h0.ext X_81) (by have := h0.len; omega) (by omega)).mono ?_
    rintro e w12 ⟨a_c85, n_c85, c_c85, r_c85, rfl, O_86, E_87⟩
    have R_88 := O_86.rd
    have X_89 := Ext.trans X_81 E_87
    have X_90 := Ext.trans X_82 E_87
    have X_91 := Ext.trans X_83 E_87
    have X_92 := Ext.trans X_84 E_87
    have X_93 := Ext.refl w12
    go_wp2_with fail
    refine (implExt _ _ _ x0 _ (R_88.ext X_93) t0).mono ?_
    rintro e w13 ⟨a_res13, n_res13, c_res13, r_res13, rfl, O_95, E_94⟩
    have R_96 := O_95.rd
    have X_97 := Ext.trans X_89 E_94
    have X_98 := Ext.trans X_90 E_94
    have X_99 := Ext.trans X_91 E_94
    have X_100 := Ext.trans X_92 E_94
    have X_101 := Ext.trans X_93 E_94
    have X_102 := Ext.refl w13
    go_wp2_with fail
    refine (eq_SS _ _ _ _ _ _ (exM x0) (exM x0) true _ (R_96.ext X_102) (R_12.ext X_99) (by simp)).mono ?_
    rintro e w14 ⟨rfl, Q_103⟩
    have X_104 := Ext.trans X_97 (Q.ext Q_103)
    clear X_97
    have X_105 := Ext.trans X_98 (Q.ext Q_103)
    clear X_98
    have X_106 := Ext.trans X_99 (Q.ext Q_103)
    clear X_99
    have X_107 := Ext.trans X_100 (Q.ext Q_103)
    clear X_100
    have X_108 := Ext.trans X_101 (Q.ext Q_103)
    clear X_101
    have X_109 := Ext.trans X_102 (Q.ext Q_103)
    clear X_102
    go_wp2_with fail
    refine (held_SS _ _ _ (exM x0) 1 _ (R_78.ext X_107) (by omega) (by omega) (by omega)).mono ?_
    rintro e w15 ⟨rfl, Q_110⟩
    have X_111 := Ext.trans X_104 (Q.ext Q_110)
    clear X_104
    have X_112 := Ext.trans X_105 (Q.ext Q_110)
    clear X_105
    have X_113 := Ext.trans X_106 (Q.ext Q_110)
    clear X_106
    have X_114 := Ext.trans X_107 (Q.ext Q_110)
    clear X_107
    have X_115 := Ext.trans X_108 (Q.ext Q_110)
    clear X_108
    have X_116 := Ext.trans X_109 (Q.ext Q_110)
    clear X_109
    go_wp2
    go_ret
    exact ⟨rfl, X_112⟩
  · skip
    go_enter Try.func4, Try.ntmps4
    go_wp2_with fail
    refine (sz_no _ _ _ x0 1048576 _ h0 (by omega) (by omega) (by omega)).mono ?_
    rintro e w' ⟨rfl, rfl⟩
    go_wp2
    go_ret
    exact ⟨rfl, Ext.refl _⟩
end Go.Proofs.Ytgggbicmmijlnaa
