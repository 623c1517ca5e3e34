/- The walk of the law FnExactIsSubsquare: it returns true. Conditions: none. -/
import Derived.Test.YthpcogjglpnjeaaSub
import Derived.Test.YthpcogjglpnjeaaTo
import Derived.Test.YthpcogjglpnjeaaEq
import Derived.Test.YthpcogjglpnjeaaMark
import Derived.Test.YthpcogjglpnjeaaSz
namespace Go.Proofs.Ythpcogjglpnjeaa
open Go.RowKit

set_option maxRecDepth 100000 in
set_option maxHeartbeats 1600000 in
theorem lawIsSubsquare (a0 : Option Addr) (n0 c0 : Nat) (x0 : List (List Int)) (a1 : Option Addr) (n1 c1 : Nat) (x1 : List Int) (a2 : Option Addr) (n2 c2 : Nat) (x2 : List Int) (w : World) (h0 : RdR w a0 n0 c0 x0) (h1 : RdI w a1 n1 c1 x1) (h2 : RdI w a2 n2 c2 x2) :
    Calls Try.prog 7 #[.slice a0 n0 c0, .slice a1 n1 c1, .slice a2 n2 c2] w fun e w' => e = .returned (.bool true) ∧ Ext w w' := by
  have le1 := h1.le
  have mx1 := h1.max
  by_cases s1 : n1 ≤ 1048576
  · have q1 : ¬ ((1048576 : Int) < (n1 : Int)) := by omega
    have le2 := h2.le
    have mx2 := h2.max
    by_cases s2 : n2 ≤ 1048576
    · have q2 : ¬ ((1048576 : Int) < (n2 : Int)) := by omega
      by_cases s0 : ((x0.length + tot x0 : Nat) : Int) ≤ 1048576
      · obtain ⟨l0, hl0⟩ : ∃ l : Int, 1048576 - ((x0.length + tot x0 : Nat) : Int) = l := ⟨_, rfl⟩
        have b0 : 0 ≤ l0 ∧ l0 ≤ 1048576 := by omega
        obtain ⟨bl0, bh0⟩ := b0
        have Hl0 := Lib.hid hl0
        have t0 : x0.length + tot x0 ≤ 1048576 := by omega
        clear hl0 s0
        have X_1 := Ext.refl w
        have X_2 := Ext.refl w
        have X_3 := Ext.refl w
        have X_4 := Ext.refl w
        have sc0 : (pb (SubOk x0 x1 x2) != pb (SubOk x0 x1 x2)) = false := by simp
        go_enter Try.func7, Try.ntmps7
        go_wp2_with fail
        refine (sz_ok _ _ _ x0 1048576 _ h0 _ (by omega) (by omega) Hl0.out).mono ?_
        rintro e w' ⟨rfl, rfl⟩
        go_wp2_with fail
        refine (to_SS _ _ _ x0 _ (h0.ext X_2) (by have := h0.len; omega) (by omega)).mono ?_
        rintro e w1 ⟨a_c5, n_c5, c_c5, r_c5, rfl, O_6, E_7⟩
        have R_8 := O_6.rd
        have X_9 := Ext.trans X_2 E_7
        have X_10 := Ext.trans X_3 E_7
        have X_11 := Ext.trans X_4 E_7
        have X_12 := Ext.trans X_1 E_7
        have X_13 := Ext.refl w1
        go_wp2_with fail
        refine (to_S _ _ _ x1 _ (h1.ext X_10) (by omega)).mono ?_
        rintro e w2 ⟨a_c14, n_c14, c_c14, rfl, O_15, E_16⟩
        have R_17 := O_15.rdI
        have X_18 := Ext.trans X_9 E_16
        have X_19 := Ext.trans X_10 E_16
        have X_20 := Ext.trans X_11 E_16
        have X_21 := Ext.trans X_12 E_16
        have X_22 := Ext.trans X_13 E_16
        have X_23 := Ext.refl w2
        go_wp2_with fail
        refine (to_S _ _ _ x2 _ (h2.ext X_20) (by omega)).mono ?_
        rintro e w3 ⟨a_c24, n_c24, c_c24, rfl, O_25, E_26⟩
        have R_27 := O_25.rdI
        have X_28 := Ext.trans X_18 E_26
        have X_29 := Ext.trans X_19 E_26
        have X_30 := Ext.trans X_20 E_26
        have X_31 := Ext.trans X_21 E_26
        have X_32 := Ext.trans X_22 E_26
        have X_33 := Ext.trans X_23 E_26
        have X_34 := Ext.refl w3
        go_wp2_with fail
        refine (specSub _ _ _ x0 _ _ _ x1 _ _ _ x2 _ (R_8.ext X_32) t0 (R_17.ext X_33) (by have := h1.len; have := R_17.len; omega) (R_27.ext X_34) (by have := h2.len; have := R_27.len; omega)).mono ?_
        rintro e w4 ⟨rfl, E_35⟩
        have X_36 := Ext.trans X_28 E_35
        clear X_28
        have X_37 := Ext.trans X_29 E_35
        clear X_29
        have X_38 := Ext.trans X_30 E_35
        clear X_30
        have X_39 := Ext.trans X_31 E_35
        clear X_31
        have X_40 := Ext.trans X_32 E_35
        clear X_32
        have X_41 := Ext.trans X_33 E_35
        clear X_33
        have X_42 := Ext.trans X_34 E_35
        clear X_34
        go_wp2_with fail
        refine (to_SS _ _ _ x0 _ (h0.ext X_36) (by have := h0.len; omega) (by omega)).mono ?_
        rintro e w5 ⟨a_c43, n_c43, c_c43, r_c43, rfl, O_44, E_45⟩
        have R_46 := O_44.rd
        have X_47 := Ext.trans X_36 E_45
        have X_48 := Ext.trans X_37 E_45
        have X_49 := Ext.trans X_38 E_45
        have X_50 := Ext.trans X_39 E_45
        have X_51 := Ext.refl w5
        go_wp2_with fail
        refine (to_S _ _ _ x1 _ (h1.ext X_48) (by omega)).mono ?_
        rintro e w6 ⟨a_c52, n_c52, c_c52, rfl, O_53, E_54⟩
        have R_55 := O_53.rdI
        have X_56 := Ext.trans X_47 E_54
        have X_57 := Ext.trans X_48 E_54
        have X_58 := Ext.trans X_49 E_54
        have X_59 := Ext.trans X_50 E_54
        have X_60 := Ext.trans X_51 E_54
        have X_61 := Ext.refl w6
        go_wp2_with fail
        refine (to_S _ _ _ x2 _ (h2.ext X_58) (by omega)).mono ?_
        rintro e w7 ⟨a_c62, n_c62, c_c62, rfl, O_63, E_64⟩
        have R_65 := O_63.rdI
        have X_66 := Ext.trans X_56 E_64
        have X_67 := Ext.trans X_57 E_64
        have X_68 := Ext.trans X_58 E_64
        have X_69 := Ext.trans X_59 E_64
        have X_70 := Ext.trans X_60 E_64
        have X_71 := Ext.trans X_61 E_64
        have X_72 := Ext.refl w7
        go_wp2_with fail
        refine (implSub _ _ _ x0 _ _ _ x1 _ _ _ x2 _ (R_46.ext X_70) t0 (R_55.ext X_71) (by have := h1.len; have := R_55.len; omega) (R_65.ext X_72) (by have := h2.len; have := R_65.len; omega)).mono ?_
        rintro e w8 ⟨rfl, E_73⟩
        have X_74 := Ext.trans X_66 E_73
        clear X_66
        have X_75 := Ext.trans X_67 E_73
        clear X_67
        have X_76 := Ext.trans X_68 E_73
        clear X_68
        have X_77 := Ext.trans X_69 E_73
        clear X_69
        have X_78 := Ext.trans X_70 E_73
        clear X_70
        have X_79 := Ext.trans X_71 E_73
        clear X_71
        have X_80 := Ext.trans X_72 E_73
        clear X_72
        go_wp2_with fail
        refine (to_SS _ _ _ x0 _ (h0.ext X_74) (by have := h0.len; omega) (by omega)).mono ?_
        rintro e w9 ⟨a_c81, n_c81, c_c81, r_c81, rfl, O_82, E_83⟩
        have R_84 := O_82.rd
        have X_85 := Ext.trans X_74 E_83
        have X_86 := Ext.trans X_75 E_83
        have X_87 := Ext.trans X_76 E_83
        have X_88 := Ext.trans X_77 E_83
        have X_89 := Ext.trans X_78 E_83
        have X_90 := Ext.trans X_79 E_83
        have X_91 := Ext.trans X_80 E_83
        have X_92 := Ext.refl w9
        go_wp2_with fail
        refine (eq_SS _ _ _ _ _ _ x0 x0 true _ (R_46.ext X_89) (R_84.ext X_92) (by simp)).mono ?_
        rintro e w10 ⟨rfl, Q_93⟩
        have X_94 := Ext.trans X_85 (Q.ext Q_93)
        clear X_85
        have X_95 := Ext.trans X_86 (Q.ext Q_93)
        clear X_86
        have X_96 := Ext.trans X_87 (Q.ext Q_93)
        clear X_87
        have X_97 := Ext.trans X_88 (Q.ext Q_93)
        clear X_88
        have X_98 := Ext.trans X_89 (Q.ext Q_93)
        clear X_89
        have X_99 := Ext.trans X_90 (Q.ext Q_93)
        clear X_90
        have X_100 := Ext.trans X_91 (Q.ext Q_93)
        clear X_91
        have X_101 := Ext.trans X_92 (Q.ext Q_93)
        clear X_92
        go_wp2_with fail
        refine (to_S _ _ _ x1 _ (h1.ext X_95) (by omega)).mono ?_
        rintro e w11 ⟨a_c102, n_c102, c_c102, rfl, O_103, E_104⟩
        have R_105 := O_103.rdI
        have X_106 := Ext.trans X_94 E_104
        have X_107 := Ext.trans X_95 E_104
        have X_108 := Ext.trans X_96 E_104
        have X_109 := Ext.trans X_97 E_104
        have X_110 := Ext.trans X_98 E_104
        have X_111 := Ext.trans X_99 E_104
        have X_112 := Ext.trans X_100 E_104
        have X_113 := Ext.refl w11
        go_wp2_with fail
        refine (eq_S _ _ _ _ _ _ x1 x1 true _ (R_55.ext X_111) (R_105.ext X_113) (by simp)).mono ?_
        rintro e w12 ⟨rfl, Q_114⟩
        have X_115 := Ext.trans X_106 (Q.ext Q_114)
        clear X_106
        have X_116 := Ext.trans X_107 (Q.ext Q_114)
        clear X_107
        have X_117 := Ext.trans X_108 (Q.ext Q_114)
        clear X_108
        have X_118 := Ext.trans X_109 (Q.ext Q_114)
        clear X_109
        have X_119 := Ext.trans X_110 (Q.ext Q_114)
        clear X_110
        have X_120 := Ext.trans X_111 (Q.ext Q_114)
        clear X_111
        have X_121 := Ext.trans X_112 (Q.ext Q_114)
        clear X_112
        have X_122 := Ext.trans X_113 (Q.ext Q_114)
        clear X_113
        go_wp2_with fail
        refine (to_S _ _ _ x2 _ (h2.ext X_117) (by omega)).mono ?_
        rintro e w13 ⟨a_c123, n_c123, c_c123, rfl, O_124, E_125⟩
        have R_126 := O_124.rdI
        have X_127 := Ext.trans X_115 E_125
        have X_128 := Ext.trans X_116 E_125
        have X_129 := Ext.trans X_117 E_125
        have X_130 := Ext.trans X_118 E_125
        have X_131 := Ext.trans X_119 E_125
        have X_132 := Ext.trans X_120 E_125
        have X_133 := Ext.trans X_121 E_125
        have X_134 := Ext.refl w13
        go_wp2_with fail
        refine (eq_S _ _ _ _ _ _ x2 x2 true _ (R_65.ext X_133) (R_126.ext X_134) (by simp)).mono ?_
        rintro e w14 ⟨rfl, Q_135⟩
        have X_136 := Ext.trans X_127 (Q.ext Q_135)
        clear X_127
        have X_137 := Ext.trans X_128 (Q.ext Q_135)
        clear X_128
        have X_138 := Ext.trans X_129 (Q.ext Q_135)
        clear X_129
        have X_139 := Ext.trans X_130 (Q.ext Q_135)
        clear X_130
        have X_140 := Ext.trans X_131 (Q.ext Q_135)
        clear X_131
        have X_141 := Ext.trans X_132 (Q.ext Q_135)
        clear X_132
        have X_142 := Ext.trans X_133 (Q.ext Q_135)
        clear X_133
        have X_143 := Ext.trans X_134 (Q.ext Q_135)
        clear X_134
        go_wp2
        go_ret
        exact ⟨rfl, X_139⟩
      · skip
        go_enter Try.func7, Try.ntmps7
        go_wp2_with fail
        refine (sz_no _ _ _ x0 1048576 _ h0 (by omega) (by omega) (by omega)).mono ?_
        rintro e w' ⟨rfl, rfl⟩
        go_wp2
        go_ret
        exact ⟨rfl, Ext.refl _⟩
    · have q2 : ((1048576 : Int) < (n2 : Int)) := by omega
      go_enter Try.func7, Try.ntmps7
      go_wp2
      go_ret
      exact ⟨rfl, Ext.refl _⟩
  · have q1 : ((1048576 : Int) < (n1 : Int)) := by omega
    go_enter Try.func7, Try.ntmps7
    go_wp2
    go_ret
    exact ⟨rfl, Ext.refl _⟩
end Go.Proofs.Ythpcogjglpnjeaa
