/- The walk of the law FnExactClosureIn: it returns true. Conditions: none. -/
import Derived.Test.YtkapkieeafhaoaaClo
import Derived.Test.YtkapkieeafhaoaaTo
import Derived.Test.YtkapkieeafhaoaaEq
import Derived.Test.YtkapkieeafhaoaaMark
import Derived.Test.YtkapkieeafhaoaaSz
namespace Go.Proofs.Ytkapkieeafhaoaa
open Go.RowKit

set_option maxRecDepth 100000 in
set_option maxHeartbeats 1600000 in
theorem lawClosureIn (a0 : Option Addr) (n0 c0 : Nat) (x0 : List (List Int)) (a1 : Option Addr) (n1 c1 : Nat) (x1 : List Int) (w : World) (h0 : RdR w a0 n0 c0 x0) (h1 : RdI w a1 n1 c1 x1) :
    Calls Try.prog 5 #[.slice a0 n0 c0, .slice a1 n1 c1] w fun e w' => e = .returned (.bool true) ∧ Ext w w' := by
  have le1 := h1.le
  have mx1 := h1.max
  by_cases s1 : n1 ≤ 1048576
  · have q1 : ¬ ((1048576 : Int) < (n1 : Int)) := by omega
    by_cases s0 : ((x0.length + tot x0 : Nat) : Int) ≤ 1048576
    · obtain ⟨l0, hl0⟩ : ∃ l : Int, 1048576 - ((x0.length + tot x0 : Nat) : Int) = l := ⟨_, rfl⟩
      have b0 : 0 ≤ l0 ∧ l0 ≤ 1048576 := by omega
      obtain ⟨bl0, bh0⟩ := b0
      have Hl0 := Lib.hid hl0
      have t0 : x0.length + tot x0 ≤ 1048576 := by omega
      clear hl0 s0
      have X_1 := Ext.refl w
      have X_2 := Ext.refl w
      have X_3 := Ext.refl w
      have bnd := clM_len x0 x1
      have sc1 : (clC x0 x1 != clC x0 x1) = false := by simp
      go_enter Try.func5, Try.ntmps5
      go_wp2_with fail
      refine (sz_ok _ _ _ x0 1048576 _ h0 _ (by omega) (by omega) Hl0.out).mono ?_
      rintro e w' ⟨rfl, rfl⟩
      go_wp2_with fail
      refine (to_SS _ _ _ x0 _ (h0.ext X_2) (by have := h0.len; omega) (by omega)).mono ?_
      rintro e w1 ⟨a_c4, n_c4, c_c4, r_c4, rfl, O_5, E_6⟩
      have R_7 := O_5.rd
      have X_8 := Ext.trans X_2 E_6
      have X_9 := Ext.trans X_3 E_6
      have X_10 := Ext.trans X_1 E_6
      have X_11 := Ext.refl w1
      go_wp2_with fail
      refine (to_S _ _ _ x1 _ (h1.ext X_9) (by omega)).mono ?_
      rintro e w2 ⟨a_c12, n_c12, c_c12, rfl, O_13, E_14⟩
      have R_15 := O_13.rdI
      have X_16 := Ext.trans X_8 E_14
      have X_17 := Ext.trans X_9 E_14
      have X_18 := Ext.trans X_10 E_14
      have X_19 := Ext.trans X_11 E_14
      have X_20 := Ext.refl w2
      go_wp2_with fail
      refine (specClo _ _ _ x0 _ _ _ x1 _ (R_7.ext X_19) t0 (R_15.ext X_20) (by have := h1.len; have := R_15.len; omega)).mono ?_
      rintro e w3 ⟨a_res3, n_res3, c_res3, rfl, O_22, E_21⟩
      have R_23 := O_22.rdI
      have X_24 := Ext.trans X_16 E_21
      have X_25 := Ext.trans X_17 E_21
      have X_26 := Ext.trans X_18 E_21
      have X_27 := Ext.trans X_19 E_21
      have X_28 := Ext.trans X_20 E_21
      have X_29 := Ext.refl w3
      go_wp2_with fail
      refine (to_SS _ _ _ x0 _ (h0.ext X_24) (by have := h0.len; omega) (by omega)).mono ?_
      rintro e w4 ⟨a_c30, n_c30, c_c30, r_c30, rfl, O_31, E_32⟩
      have R_33 := O_31.rd
      have X_34 := Ext.trans X_24 E_32
      have X_35 := Ext.trans X_25 E_32
      have X_36 := Ext.trans X_26 E_32
      have X_37 := Ext.trans X_29 E_32
      have X_38 := Ext.refl w4
      go_wp2_with fail
      refine (to_S _ _ _ x1 _ (h1.ext X_35) (by omega)).mono ?_
      rintro e w5 ⟨a_c39, n_c39, c_c39, rfl, O_40, E_41⟩
      have R_42 := O_40.rdI
      have X_43 := Ext.trans X_34 E_41
      have X_44 := Ext.trans X_35 E_41
      have X_45 := Ext.trans X_36 E_41
      have X_46 := Ext.trans X_37 E_41
      have X_47 := Ext.trans X_38 E_41
      have X_48 := Ext.refl w5
      go_wp2_with fail
      refine (implClo _ _ _ x0 _ _ _ x1 _ (R_33.ext X_47) t0 (R_42.ext X_48) (by have := h1.len; have := R_42.len; omega)).mono ?_
      rintro e w6 ⟨a_res6, n_res6, c_res6, rfl, O_50, E_49⟩
      have R_51 := O_50.rdI
      have X_52 := Ext.trans X_43 E_49
      have X_53 := Ext.trans X_44 E_49
      have X_54 := Ext.trans X_45 E_49
      have X_55 := Ext.trans X_46 E_49
      have X_56 := Ext.trans X_47 E_49
      have X_57 := Ext.trans X_48 E_49
      have X_58 := Ext.refl w6
      go_wp2_with fail
      refine (eq_S _ _ _ _ _ _ (clM x0 x1) (clM x0 x1) true _ (R_51.ext X_58) (R_23.ext X_55) (by simp)).mono ?_
      rintro e w7 ⟨rfl, Q_59⟩
      have X_60 := Ext.trans X_52 (Q.ext Q_59)
      clear X_52
      have X_61 := Ext.trans X_53 (Q.ext Q_59)
      clear X_53
      have X_62 := Ext.trans X_54 (Q.ext Q_59)
      clear X_54
      have X_63 := Ext.trans X_55 (Q.ext Q_59)
      clear X_55
      have X_64 := Ext.trans X_56 (Q.ext Q_59)
      clear X_56
      have X_65 := Ext.trans X_57 (Q.ext Q_59)
      clear X_57
      have X_66 := Ext.trans X_58 (Q.ext Q_59)
      clear X_58
      go_wp2_with fail
      refine (to_SS _ _ _ x0 _ (h0.ext X_60) (by have := h0.len; omega) (by omega)).mono ?_
      rintro e w8 ⟨a_c67, n_c67, c_c67, r_c67, rfl, O_68, E_69⟩
      have R_70 := O_68.rd
      have X_71 := Ext.trans X_60 E_69
      have X_72 := Ext.trans X_61 E_69
      have X_73 := Ext.trans X_62 E_69
      have X_74 := Ext.trans X_63 E_69
      have X_75 := Ext.trans X_64 E_69
      have X_76 := Ext.trans X_65 E_69
      have X_77 := Ext.trans X_66 E_69
      have X_78 := Ext.refl w8
      go_wp2_with fail
      refine (eq_SS _ _ _ _ _ _ x0 x0 true _ (R_33.ext X_75) (R_70.ext X_78) (by simp)).mono ?_
      rintro e w9 ⟨rfl, Q_79⟩
      have X_80 := Ext.trans X_71 (Q.ext Q_79)
      clear X_71
      have X_81 := Ext.trans X_72 (Q.ext Q_79)
      clear X_72
      have X_82 := Ext.trans X_73 (Q.ext Q_79)
      clear X_73
      have X_83 := Ext.trans X_74 (Q.ext Q_79)
      clear X_74
      have X_84 := Ext.trans X_75 (Q.ext Q_79)
      clear X_75
      have X_85 := Ext.trans X_76 (Q.ext Q_79)
      clear X_76
      have X_86 := Ext.trans X_77 (Q.ext Q_79)
      clear X_77
      have X_87 := Ext.trans X_78 (Q.ext Q_79)
      clear X_78
      go_wp2_with fail
      refine (to_S _ _ _ x1 _ (h1.ext X_81) (by omega)).mono ?_
      rintro e w10 ⟨a_c88, n_c88, c_c88, rfl, O_89, E_90⟩
      have R_91 := O_89.rdI
      have X_92 := Ext.trans X_80 E_90
      have X_93 := Ext.trans X_81 E_90
      have X_94 := Ext.trans X_82 E_90
      have X_95 := Ext.trans X_83 E_90
      have X_96 := Ext.trans X_84 E_90
      have X_97 := Ext.trans X_85 E_90
      have X_98 := Ext.trans X_86 E_90
      have X_99 := Ext.refl w10
      go_wp2_with fail
      refine (eq_S _ _ _ _ _ _ x1 x1 true _ (R_42.ext X_97) (R_91.ext X_99) (by simp)).mono ?_
      rintro e w11 ⟨rfl, Q_100⟩
      have X_101 := Ext.trans X_92 (Q.ext Q_100)
      clear X_92
      have X_102 := Ext.trans X_93 (Q.ext Q_100)
      clear X_93
      have X_103 := Ext.trans X_94 (Q.ext Q_100)
      clear X_94
      have X_104 := Ext.trans X_95 (Q.ext Q_100)
      clear X_95
      have X_105 := Ext.trans X_96 (Q.ext Q_100)
      clear X_96
      have X_106 := Ext.trans X_97 (Q.ext Q_100)
      clear X_97
      have X_107 := Ext.trans X_98 (Q.ext Q_100)
      clear X_98
      have X_108 := Ext.trans X_99 (Q.ext Q_100)
      clear X_99
      have nb1 : n_c39 ≤ 1048576 := by have := O_40.len; have := h1.len; omega
      go_wp2_with fail
      have O_109 := O_31.ext X_105
      refine (mark_SS _ _ _ _ x0 _ 1 _ O_109 (by omega) (by omega) (by omega)).mono ?_
      rintro e w12 ⟨rfl, O_110, L_111⟩
      have X_112 := Ext.only X_101 L_111 (fun b hb => Nat.le_trans (Ext.size X_24) (O_109.lt hb).1)
      clear X_101
      have X_113 := Ext.only X_102 L_111 (fun b hb => Nat.le_trans (Ext.size X_25) (O_109.lt hb).1)
      clear X_102
      have X_114 := Ext.only X_103 L_111 (fun b hb => Nat.le_trans (Ext.size X_26) (O_109.lt hb).1)
      clear X_103
      have X_115 := Ext.only X_104 L_111 (fun b hb => Nat.le_trans (Ext.size X_29) (O_109.lt hb).1)
      clear X_104
      have O_116 := Own.only (O_40.ext X_106) L_111 (fun g hg e => by have y1 := (O_31.lt e).2; have y2 := ((O_40.ext X_106).lt hg).1; have y3 := Ext.size X_38; omega)
      have R_117 := O_116.rdI
      have X_118 := Ext.refl w12
      have O_119 := Own.only (O_50.ext X_107) L_111 (fun g hg e => by have y1 := (O_31.lt e).2; have y2 := ((O_50.ext X_107).lt hg).1; have y3 := Ext.size X_47; omega)
      have R_120 := O_119.rdI
      have X_121 := Ext.refl w12
      have R_122 := O_110.rd
      have X_123 := Ext.refl w12
      go_wp2_with fail
      have O_124 := O_116.ext X_118
      refine (mark_S _ _ _ _ x1 (1 + (tot x0 : Nat)) _ O_124 (by have := O_124.len; have := h1.len; omega) (by omega) (by omega)).mono ?_
      rintro e w13 ⟨rfl, O_125, L_126⟩
      have X_127 := Ext.only X_112 L_126 (fun b hb => Nat.le_trans (Ext.size X_34) (O_124.lt hb).1)
      clear X_112
      have X_128 := Ext.only X_113 L_126 (fun b hb => Nat.le_trans (Ext.size X_35) (O_124.lt hb).1)
      clear X_113
      have X_129 := Ext.only X_114 L_126 (fun b hb => Nat.le_trans (Ext.size X_36) (O_124.lt hb).1)
      clear X_114
      have X_130 := Ext.only X_115 L_126 (fun b hb => Nat.le_trans (Ext.size X_37) (O_124.lt hb).1)
      clear X_115
      have O_131 := Own.only (O_119.ext X_121) L_126 (fun g hg e => by have y1 := (O_40.lt e).2; have y2 := ((O_119.ext X_121).lt hg).1; have y3 := Ext.size X_48; omega)
      have R_132 := O_131.rdI
      have X_133 := Ext.refl w13
      have R_134 := O_125.rdI
      have X_135 := Ext.refl w13
      go_wp2_with fail
      refine (eq_S _ _ _ _ _ _ (clM x0 x1) (clM x0 x1) true _ (R_132.ext X_133) (R_23.ext X_130) (by simp)).mono ?_
      rintro e w14 ⟨rfl, Q_136⟩
      have X_137 := Ext.trans X_127 (Q.ext Q_136)
      clear X_127
      have X_138 := Ext.trans X_128 (Q.ext Q_136)
      clear X_128
      have X_139 := Ext.trans X_129 (Q.ext Q_136)
      clear X_129
      have X_140 := Ext.trans X_130 (Q.ext Q_136)
      clear X_130
      have X_141 := Ext.trans X_133 (Q.ext Q_136)
      clear X_133
      go_wp2_with fail
      have O_142 := O_131.ext X_141
      refine (mark_S _ _ _ _ (clM x0 x1) 1 _ O_142 (by have := O_142.len; omega) (by omega) (by omega)).mono ?_
      rintro e w15 ⟨rfl, O_143, L_144⟩
      have X_145 := Ext.only X_137 L_144 (fun b hb => Nat.le_trans (Ext.size X_43) (O_142.lt hb).1)
      clear X_137
      have X_146 := Ext.only X_138 L_144 (fun b hb => Nat.le_trans (Ext.size X_44) (O_142.lt hb).1)
      clear X_138
      have X_147 := Ext.only X_139 L_144 (fun b hb => Nat.le_trans (Ext.size X_45) (O_142.lt hb).1)
      clear X_139
      have X_148 := Ext.only X_140 L_144 (fun b hb => Nat.le_trans (Ext.size X_46) (O_142.lt hb).1)
      clear X_140
      have R_149 := O_143.rdI
      have X_150 := Ext.refl w15
      have neg1 : ¬ ((1 : Int) + (n_res6 : Nat) < 0) := by omega
      have neq1 : ((1 : Int) + (n_res6 : Nat) != 1 + (n_res6 : Nat)) = false := by simp
      go_wp2_with fail
      refine (held_S _ _ _ (clM x0 x1) 1 _ (R_149.ext X_150) (by have := R_149.len; rw [marks_length] at this; omega) (by omega) (by omega)).mono ?_
      rintro e w16 ⟨rfl, Q_151⟩
      have X_152 := Ext.trans X_145 (Q.ext Q_151)
      clear X_145
      have X_153 := Ext.trans X_146 (Q.ext Q_151)
      clear X_146
      have X_154 := Ext.trans X_147 (Q.ext Q_151)
      clear X_147
      have X_155 := Ext.trans X_148 (Q.ext Q_151)
      clear X_148
      have X_156 := Ext.trans X_150 (Q.ext Q_151)
      clear X_150
      go_wp2_with fail
      refine (to_SS _ _ _ x0 _ (h0.ext X_152) (by have := h0.len; omega) (by omega)).mono ?_
      rintro e w17 ⟨a_c157, n_c157, c_c157, r_c157, rfl, O_158, E_159⟩
      have R_160 := O_158.rd
      have X_161 := Ext.trans X_152 E_159
      have X_162 := Ext.trans X_153 E_159
      have X_163 := Ext.trans X_154 E_159
      have X_164 := Ext.trans X_155 E_159
      have X_165 := Ext.trans X_156 E_159
      have X_166 := Ext.refl w17
      go_wp2_with fail
      refine (to_S _ _ _ x1 _ (h1.ext X_162) (by omega)).mono ?_
      rintro e w18 ⟨a_c167, n_c167, c_c167, rfl, O_168, E_169⟩
      have R_170 := O_168.rdI
      have X_171 := Ext.trans X_161 E_169
      have X_172 := Ext.trans X_162 E_169
      have X_173 := Ext.trans X_163 E_169
      have X_174 := Ext.trans X_164 E_169
      have X_175 := Ext.trans X_165 E_169
      have X_176 := Ext.trans X_166 E_169
      have X_177 := Ext.refl w18
      go_wp2_with fail
      refine (implClo _ _ _ x0 _ _ _ x1 _ (R_160.ext X_176) t0 (R_170.ext X_177) (by have := h1.len; have := R_170.len; omega)).mono ?_
      rintro e w19 ⟨a_res19, n_res19, c_res19, rfl, O_179, E_178⟩
      have R_180 := O_179.rdI
      have X_181 := Ext.trans X_171 E_178
      have X_182 := Ext.trans X_172 E_178
      have X_183 := Ext.trans X_173 E_178
      have X_184 := Ext.trans X_174 E_178
      have X_185 := Ext.trans X_175 E_178
      have X_186 := Ext.trans X_176 E_178
      have X_187 := Ext.trans X_177 E_178
      have X_188 := Ext.refl w19
      go_wp2_with fail
      refine (eq_S _ _ _ _ _ _ (clM x0 x1) (clM x0 x1) true _ (R_180.ext X_188) (R_23.ext X_184) (by simp)).mono ?_
      rintro e w20 ⟨rfl, Q_189⟩
      have X_190 := Ext.trans X_181 (Q.ext Q_189)
      clear X_181
      have X_191 := Ext.trans X_182 (Q.ext Q_189)
      clear X_182
      have X_192 := Ext.trans X_183 (Q.ext Q_189)
      clear X_183
      have X_193 := Ext.trans X_184 (Q.ext Q_189)
      clear X_184
      have X_194 := Ext.trans X_185 (Q.ext Q_189)
      clear X_185
      have X_195 := Ext.trans X_186 (Q.ext Q_189)
      clear X_186
      have X_196 := Ext.trans X_187 (Q.ext Q_189)
      clear X_187
      have X_197 := Ext.trans X_188 (Q.ext Q_189)
      clear X_188
      go_wp2_with fail
      refine (held_S _ _ _ (clM x0 x1) 1 _ (R_149.ext X_194) (by have := R_149.len; rw [marks_length] at this; omega) (by omega) (by omega)).mono ?_
      rintro e w21 ⟨rfl, Q_198⟩
      have X_199 := Ext.trans X_190 (Q.ext Q_198)
      clear X_190
      have X_200 := Ext.trans X_191 (Q.ext Q_198)
      clear X_191
      have X_201 := Ext.trans X_192 (Q.ext Q_198)
      clear X_192
      have X_202 := Ext.trans X_193 (Q.ext Q_198)
      clear X_193
      have X_203 := Ext.trans X_194 (Q.ext Q_198)
      clear X_194
      have X_204 := Ext.trans X_195 (Q.ext Q_198)
      clear X_195
      have X_205 := Ext.trans X_196 (Q.ext Q_198)
      clear X_196
      have X_206 := Ext.trans X_197 (Q.ext Q_198)
      clear X_197
      go_wp2
      go_ret
      exact ⟨rfl, X_201⟩
    · skip
      go_enter Try.func5, Try.ntmps5
      go_wp2_with fail
      refine (sz_no _ _ _ x0 1048576 _ h0 (by omega) (by omega) (by omega)).mono ?_
      rintro e w' ⟨rfl, rfl⟩
      go_wp2
      go_ret
      exact ⟨rfl, Ext.refl _⟩
  · have q1 : ((1048576 : Int) < (n1 : Int)) := by omega
    go_enter Try.func5, Try.ntmps5
    go_wp2
    go_ret
    exact ⟨rfl, Ext.refl _⟩
end Go.Proofs.Ytkapkieeafhaoaa
