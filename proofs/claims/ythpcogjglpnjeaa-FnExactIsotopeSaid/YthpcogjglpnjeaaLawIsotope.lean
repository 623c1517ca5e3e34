/- The walk of the law FnExactIsotope: it returns true. Conditions: none. -/
import Derived.Test.YthpcogjglpnjeaaIsoV
import Derived.Test.YthpcogjglpnjeaaTo
import Derived.Test.YthpcogjglpnjeaaEq
import Derived.Test.YthpcogjglpnjeaaMark
namespace Go.Proofs.Ythpcogjglpnjeaa
open Go.RowKit

set_option maxRecDepth 100000 in
set_option maxHeartbeats 1600000 in
theorem lawIsotope (a0 : Option Addr) (n0 c0 : Nat) (x0 : List (List Int)) (a1 : Option Addr) (n1 c1 : Nat) (x1 : List Int) (a2 : Option Addr) (n2 c2 : Nat) (x2 : List Int) (a3 : Option Addr) (n3 c3 : Nat) (x3 : List Int) (w : World) (h0 : RdR w a0 n0 c0 x0) (h1 : RdI w a1 n1 c1 x1) (h2 : RdI w a2 n2 c2 x2) (h3 : RdI w a3 n3 c3 x3) :
    Calls Try.prog 13 #[.slice a0 n0 c0, .slice a1 n1 c1, .slice a2 n2 c2, .slice a3 n3 c3] w fun e w' => e = .returned (.bool true) ∧ Ext w w' := by
  have le1 := h1.le
  have mx1 := h1.max
  by_cases s1 : n1 ≤ 1048576
  · have q1 : ¬ ((1048576 : Int) < (n1 : Int)) := by omega
    have le2 := h2.le
    have mx2 := h2.max
    by_cases s2 : n2 ≤ 1048576
    · have q2 : ¬ ((1048576 : Int) < (n2 : Int)) := by omega
      have le3 := h3.le
      have mx3 := h3.max
      by_cases s3 : n3 ≤ 1048576
      · have q3 : ¬ ((1048576 : Int) < (n3 : Int)) := by omega
        by_cases s0 : ((x0.length + tot x0 : Nat) : Int) ≤ 1048576
        · obtain ⟨l0, hl0⟩ : ∃ l : Int, 1048576 - ((x0.length + tot x0 : Nat) : Int) = l := ⟨_, rfl⟩
          have b0 : 0 ≤ l0 ∧ l0 ≤ 1048576 := by omega
          obtain ⟨bl0, bh0⟩ := b0
          have Hl0 := Lib.hid hl0
          have t0 : x0.length + tot x0 ≤ 1048576 := by omega
          clear hl0 s0
          have X_1 := Ext.refl w
          have X_2 := Ext.refl w
          have X_3 := Ext.refl w
          have X_4 := Ext.refl w
          have X_5 := Ext.refl w
          have bnd := isoM_tot x0 x1 x2 x3
          have sc1 : (isoC x0 x1 x2 x3 != isoC x0 x1 x2 x3) = false := by simp
          go_enter Try.func13, Try.ntmps13
          go_wp2_with fail
          refine (sz_ok _ _ _ x0 1048576 _ h0 _ (by omega) (by omega) Hl0.out).mono ?_
          rintro e w' ⟨rfl, rfl⟩
          go_wp2_with fail
          refine (to_SS _ _ _ x0 _ (h0.ext X_2) (by have := h0.len; omega) (by omega)).mono ?_
          rintro e w1 ⟨a_c6, n_c6, c_c6, r_c6, rfl, O_7, E_8⟩
          have R_9 := O_7.rd
          have X_10 := Ext.trans X_2 E_8
          have X_11 := Ext.trans X_3 E_8
          have X_12 := Ext.trans X_4 E_8
          have X_13 := Ext.trans X_5 E_8
          have X_14 := Ext.trans X_1 E_8
          have X_15 := Ext.refl w1
          go_wp2_with fail
          refine (to_S _ _ _ x1 _ (h1.ext X_11) (by omega)).mono ?_
          rintro e w2 ⟨a_c16, n_c16, c_c16, rfl, O_17, E_18⟩
          have R_19 := O_17.rdI
          have X_20 := Ext.trans X_10 E_18
          have X_21 := Ext.trans X_11 E_18
          have X_22 := Ext.trans X_12 E_18
          have X_23 := Ext.trans X_13 E_18
          have X_24 := Ext.trans X_14 E_18
          have X_25 := Ext.trans X_15 E_18
          have X_26 := Ext.refl w2
          go_wp2_with fail
          refine (to_S _ _ _ x2 _ (h2.ext X_22) (by omega)).mono ?_
          rintro e w3 ⟨a_c27, n_c27, c_c27, rfl, O_28, E_29⟩
          have R_30 := O_28.rdI
          have X_31 := Ext.trans X_20 E_29
          have X_32 := Ext.trans X_21 E_29
          have X_33 := Ext.trans X_22 E_29
          have X_34 := Ext.trans X_23 E_29
          have X_35 := Ext.trans X_24 E_29
          have X_36 := Ext.trans X_25 E_29
          have X_37 := Ext.trans X_26 E_29
          have X_38 := Ext.refl w3
          go_wp2_with fail
          refine (to_S _ _ _ x3 _ (h3.ext X_34) (by omega)).mono ?_
          rintro e w4 ⟨a_c39, n_c39, c_c39, rfl, O_40, E_41⟩
          have R_42 := O_40.rdI
          have X_43 := Ext.trans X_31 E_41
          have X_44 := Ext.trans X_32 E_41
          have X_45 := Ext.trans X_33 E_41
          have X_46 := Ext.trans X_34 E_41
          have X_47 := Ext.trans X_35 E_41
          have X_48 := Ext.trans X_36 E_41
          have X_49 := Ext.trans X_37 E_41
          have X_50 := Ext.trans X_38 E_41
          have X_51 := Ext.refl w4
          go_wp2_with fail
          refine (specIso _ _ _ x0 _ _ _ x1 _ _ _ x2 _ _ _ x3 _ (R_9.ext X_48) t0 (R_19.ext X_49) (by have := h1.len; have := R_19.len; omega) (R_30.ext X_50) (by have := h2.len; have := R_30.len; omega) (R_42.ext X_51) (by have := h3.len; have := R_42.len; omega)).mono ?_
          rintro e w5 ⟨a_res5, n_res5, c_res5, r_res5, rfl, O_53, E_52⟩
          have R_54 := O_53.rd
          have X_55 := Ext.trans X_43 E_52
          have X_56 := Ext.trans X_44 E_52
          have X_57 := Ext.trans X_45 E_52
          have X_58 := Ext.trans X_46 E_52
          have X_59 := Ext.trans X_47 E_52
          have X_60 := Ext.trans X_48 E_52
          have X_61 := Ext.trans X_49 E_52
          have X_62 := Ext.trans X_50 E_52
          have X_63 := Ext.trans X_51 E_52
          have X_64 := Ext.refl w5
          go_wp2_with fail
          refine (to_SS _ _ _ x0 _ (h0.ext X_55) (by have := h0.len; omega) (by omega)).mono ?_
          rintro e w6 ⟨a_c65, n_c65, c_c65, r_c65, rfl, O_66, E_67⟩
          have R_68 := O_66.rd
          have X_69 := Ext.trans X_55 E_67
          have X_70 := Ext.trans X_56 E_67
          have X_71 := Ext.trans X_57 E_67
          have X_72 := Ext.trans X_58 E_67
          have X_73 := Ext.trans X_59 E_67
          have X_74 := Ext.trans X_64 E_67
          have X_75 := Ext.refl w6
          go_wp2_with fail
          refine (to_S _ _ _ x1 _ (h1.ext X_70) (by omega)).mono ?_
          rintro e w7 ⟨a_c76, n_c76, c_c76, rfl, O_77, E_78⟩
          have R_79 := O_77.rdI
          have X_80 := Ext.trans X_69 E_78
          have X_81 := Ext.trans X_70 E_78
          have X_82 := Ext.trans X_71 E_78
          have X_83 := Ext.trans X_72 E_78
          have X_84 := Ext.trans X_73 E_78
          have X_85 := Ext.trans X_74 E_78
          have X_86 := Ext.trans X_75 E_78
          have X_87 := Ext.refl w7
          go_wp2_with fail
          refine (to_S _ _ _ x2 _ (h2.ext X_82) (by omega)).mono ?_
          rintro e w8 ⟨a_c88, n_c88, c_c88, rfl, O_89, E_90⟩
          have R_91 := O_89.rdI
          have X_92 := Ext.trans X_80 E_90
          have X_93 := Ext.trans X_81 E_90
          have X_94 := Ext.trans X_82 E_90
          have X_95 := Ext.trans X_83 E_90
          have X_96 := Ext.trans X_84 E_90
          have X_97 := Ext.trans X_85 E_90
          have X_98 := Ext.trans X_86 E_90
          have X_99 := Ext.trans X_87 E_90
          have X_100 := Ext.refl w8
          go_wp2_with fail
          refine (to_S _ _ _ x3 _ (h3.ext X_95) (by omega)).mono ?_
          rintro e w9 ⟨a_c101, n_c101, c_c101, rfl, O_102, E_103⟩
          have R_104 := O_102.rdI
          have X_105 := Ext.trans X_92 E_103
          have X_106 := Ext.trans X_93 E_103
          have X_107 := Ext.trans X_94 E_103
          have X_108 := Ext.trans X_95 E_103
          have X_109 := Ext.trans X_96 E_103
          have X_110 := Ext.trans X_97 E_103
          have X_111 := Ext.trans X_98 E_103
          have X_112 := Ext.trans X_99 E_103
          have X_113 := Ext.trans X_100 E_103
          have X_114 := Ext.refl w9
          go_wp2_with fail
          refine (implIso _ _ _ x0 _ _ _ x1 _ _ _ x2 _ _ _ x3 _ (R_68.ext X_111) t0 (R_79.ext X_112) (by have := h1.len; have := R_79.len; omega) (R_91.ext X_113) (by have := h2.len; have := R_91.len; omega) (R_104.ext X_114) (by have := h3.len; have := R_104.len; omega)).mono ?_
          rintro e w10 ⟨a_res10, n_res10, c_res10, r_res10, rfl, O_116, E_115⟩
          have R_117 := O_116.rd
          have X_118 := Ext.trans X_105 E_115
          have X_119 := Ext.trans X_106 E_115
          have X_120 := Ext.trans X_107 E_115
          have X_121 := Ext.trans X_108 E_115
          have X_122 := Ext.trans X_109 E_115
          have X_123 := Ext.trans X_110 E_115
          have X_124 := Ext.trans X_111 E_115
          have X_125 := Ext.trans X_112 E_115
          have X_126 := Ext.trans X_113 E_115
          have X_127 := Ext.trans X_114 E_115
          have X_128 := Ext.refl w10
          go_wp2_with fail
          refine (eq_SS _ _ _ _ _ _ (isoM x0 x1 x2 x3) (isoM x0 x1 x2 x3) true _ (R_117.ext X_128) (R_54.ext X_123) (by simp)).mono ?_
          rintro e w11 ⟨rfl, Q_129⟩
          have X_130 := Ext.trans X_118 (Q.ext Q_129)
          clear X_118
          have X_131 := Ext.trans X_119 (Q.ext Q_129)
          clear X_119
          have X_132 := Ext.trans X_120 (Q.ext Q_129)
          clear X_120
          have X_133 := Ext.trans X_121 (Q.ext Q_129)
          clear X_121
          have X_134 := Ext.trans X_122 (Q.ext Q_129)
          clear X_122
          have X_135 := Ext.trans X_123 (Q.ext Q_129)
          clear X_123
          have X_136 := Ext.trans X_124 (Q.ext Q_129)
          clear X_124
          have X_137 := Ext.trans X_125 (Q.ext Q_129)
          clear X_125
          have X_138 := Ext.trans X_126 (Q.ext Q_129)
          clear X_126
          have X_139 := Ext.trans X_127 (Q.ext Q_129)
          clear X_127
          have X_140 := Ext.trans X_128 (Q.ext Q_129)
          clear X_128
          go_wp2_with fail
          refine (to_SS _ _ _ x0 _ (h0.ext X_130) (by have := h0.len; omega) (by omega)).mono ?_
          rintro e w12 ⟨a_c141, n_c141, c_c141, r_c141, rfl, O_142, E_143⟩
          have R_144 := O_142.rd
          have X_145 := Ext.trans X_130 E_143
          have X_146 := Ext.trans X_131 E_143
          have X_147 := Ext.trans X_132 E_143
          have X_148 := Ext.trans X_133 E_143
          have X_149 := Ext.trans X_134 E_143
          have X_150 := Ext.trans X_135 E_143
          have X_151 := Ext.trans X_136 E_143
          have X_152 := Ext.trans X_137 E_143
          have X_153 := Ext.trans X_138 E_143
          have X_154 := Ext.trans X_139 E_143
          have X_155 := Ext.trans X_140 E_143
          have X_156 := Ext.refl w12
          go_wp2_with fail
          refine (eq_SS _ _ _ _ _ _ x0 x0 true _ (R_68.ext X_151) (R_144.ext X_156) (by simp)).mono ?_
          rintro e w13 ⟨rfl, Q_157⟩
          have X_158 := Ext.trans X_145 (Q.ext Q_157)
          clear X_145
          have X_159 := Ext.trans X_146 (Q.ext Q_157)
          clear X_146
          have X_160 := Ext.trans X_147 (Q.ext Q_157)
          clear X_147
          have X_161 := Ext.trans X_148 (Q.ext Q_157)
          clear X_148
          have X_162 := Ext.trans X_149 (Q.ext Q_157)
          clear X_149
          have X_163 := Ext.trans X_150 (Q.ext Q_157)
          clear X_150
          have X_164 := Ext.trans X_151 (Q.ext Q_157)
          clear X_151
          have X_165 := Ext.trans X_152 (Q.ext Q_157)
          clear X_152
          have X_166 := Ext.trans X_153 (Q.ext Q_157)
          clear X_153
          have X_167 := Ext.trans X_154 (Q.ext Q_157)
          clear X_154
          have X_168 := Ext.trans X_155 (Q.ext Q_157)
          clear X_155
          have X_169 := Ext.trans X_156 (Q.ext Q_157)
          clear X_156
          go_wp2_with fail
          refine (to_S _ _ _ x1 _ (h1.ext X_159) (by omega)).mono ?_
          rintro e w14 ⟨a_c170, n_c170, c_c170, rfl, O_171, E_172⟩
          have R_173 := O_171.rdI
          have X_174 := Ext.trans X_158 E_172
          have X_175 := Ext.trans X_159 E_172
          have X_176 := Ext.trans X_160 E_172
          have X_177 := Ext.trans X_161 E_172
          have X_178 := Ext.trans X_162 E_172
          have X_179 := Ext.trans X_163 E_172
          have X_180 := Ext.trans X_164 E_172
          have X_181 := Ext.trans X_165 E_172
          have X_182 := Ext.trans X_166 E_172
          have X_183 := Ext.trans X_167 E_172
          have X_184 := Ext.trans X_168 E_172
          have X_185 := Ext.refl w14
          go_wp2_with fail
          refine (eq_S _ _ _ _ _ _ x1 x1 true _ (R_79.ext X_181) (R_173.ext X_185) (by simp)).mono ?_
          rintro e w15 ⟨rfl, Q_186⟩
          have X_187 := Ext.trans X_174 (Q.ext Q_186)
          clear X_174
          have X_188 := Ext.trans X_175 (Q.ext Q_186)
          clear X_175
          have X_189 := Ext.trans X_176 (Q.ext Q_186)
          clear X_176
          have X_190 := Ext.trans X_177 (Q.ext Q_186)
          clear X_177
          have X_191 := Ext.trans X_178 (Q.ext Q_186)
          clear X_178
          have X_192 := Ext.trans X_179 (Q.ext Q_186)
          clear X_179
          have X_193 := Ext.trans X_180 (Q.ext Q_186)
          clear X_180
          have X_194 := Ext.trans X_181 (Q.ext Q_186)
          clear X_181
          have X_195 := Ext.trans X_182 (Q.ext Q_186)
          clear X_182
          have X_196 := Ext.trans X_183 (Q.ext Q_186)
          clear X_183
          have X_197 := Ext.trans X_184 (Q.ext Q_186)
          clear X_184
          have X_198 := Ext.trans X_185 (Q.ext Q_186)
          clear X_185
          go_wp2_with fail
          refine (to_S _ _ _ x2 _ (h2.ext X_189) (by omega)).mono ?_
          rintro e w16 ⟨a_c199, n_c199, c_c199, rfl, O_200, E_201⟩
          have R_202 := O_200.rdI
          have X_203 := Ext.trans X_187 E_201
          have X_204 := Ext.trans X_188 E_201
          have X_205 := Ext.trans X_189 E_201
          have X_206 := Ext.trans X_190 E_201
          have X_207 := Ext.trans X_191 E_201
          have X_208 := Ext.trans X_192 E_201
          have X_209 := Ext.trans X_193 E_201
          have X_210 := Ext.trans X_194 E_201
          have X_211 := Ext.trans X_195 E_201
          have X_212 := Ext.trans X_196 E_201
          have X_213 := Ext.trans X_197 E_201
          have X_214 := Ext.refl w16
          go_wp2_with fail
          refine (eq_S _ _ _ _ _ _ x2 x2 true _ (R_91.ext X_211) (R_202.ext X_214) (by simp)).mono ?_
          rintro e w17 ⟨rfl, Q_215⟩
          have X_216 := Ext.trans X_203 (Q.ext Q_215)
          clear X_203
          have X_217 := Ext.trans X_204 (Q.ext Q_215)
          clear X_204
          have X_218 := Ext.trans X_205 (Q.ext Q_215)
          clear X_205
          have X_219 := Ext.trans X_206 (Q.ext Q_215)
          clear X_206
          have X_220 := Ext.trans X_207 (Q.ext Q_215)
          clear X_207
          have X_221 := Ext.trans X_208 (Q.ext Q_215)
          clear X_208
          have X_222 := Ext.trans X_209 (Q.ext Q_215)
          clear X_209
          have X_223 := Ext.trans X_210 (Q.ext Q_215)
          clear X_210
          have X_224 := Ext.trans X_211 (Q.ext Q_215)
          clear X_211
          have X_225 := Ext.trans X_212 (Q.ext Q_215)
          clear X_212
          have X_226 := Ext.trans X_213 (Q.ext Q_215)
          clear X_213
          have X_227 := Ext.trans X_214 (Q.ext Q_215)
          clear X_214
          go_wp2_with fail
          refine (to_S _ _ _ x3 _ (h3.ext X_219) (by omega)).mono ?_
          rintro e w18 ⟨a_c228, n_c228, c_c228, rfl, O_229, E_230⟩
          have R_231 := O_229.rdI
          have X_232 := Ext.trans X_216 E_230
          have X_233 := Ext.trans X_217 E_230
          have X_234 := Ext.trans X_218 E_230
          have X_235 := Ext.trans X_219 E_230
          have X_236 := Ext.trans X_220 E_230
          have X_237 := Ext.trans X_221 E_230
          have X_238 := Ext.trans X_222 E_230
          have X_239 := Ext.trans X_223 E_230
          have X_240 := Ext.trans X_224 E_230
          have X_241 := Ext.trans X_225 E_230
          have X_242 := Ext.trans X_226 E_230
          have X_243 := Ext.refl w18
          go_wp2_with fail
          refine (eq_S _ _ _ _ _ _ x3 x3 true _ (R_104.ext X_241) (R_231.ext X_243) (by simp)).mono ?_
          rintro e w19 ⟨rfl, Q_244⟩
          have X_245 := Ext.trans X_232 (Q.ext Q_244)
          clear X_232
          have X_246 := Ext.trans X_233 (Q.ext Q_244)
          clear X_233
          have X_247 := Ext.trans X_234 (Q.ext Q_244)
          clear X_234
          have X_248 := Ext.trans X_235 (Q.ext Q_244)
          clear X_235
          have X_249 := Ext.trans X_236 (Q.ext Q_244)
          clear X_236
          have X_250 := Ext.trans X_237 (Q.ext Q_244)
          clear X_237
          have X_251 := Ext.trans X_238 (Q.ext Q_244)
          clear X_238
          have X_252 := Ext.trans X_239 (Q.ext Q_244)
          clear X_239
          have X_253 := Ext.trans X_240 (Q.ext Q_244)
          clear X_240
          have X_254 := Ext.trans X_241 (Q.ext Q_244)
          clear X_241
          have X_255 := Ext.trans X_242 (Q.ext Q_244)
          clear X_242
          have X_256 := Ext.trans X_243 (Q.ext Q_244)
          clear X_243
          have nb1 : n_c76 ≤ 1048576 := by have := O_77.len; have := h1.len; omega
          have nb2 : n_c88 ≤ 1048576 := by have := O_89.len; have := h2.len; omega
          have nb3 : n_c101 ≤ 1048576 := by have := O_102.len; have := h3.len; omega
          go_wp2_with fail
          have O_257 := O_66.ext X_251
          refine (mark_SS _ _ _ _ x0 _ 1 _ O_257 (by omega) (by omega) (by omega)).mono ?_
          rintro e w20 ⟨rfl, O_258, L_259⟩
          have X_260 := Ext.only X_245 L_259 (fun b hb => Nat.le_trans (Ext.size X_55) (O_257.lt hb).1)
          clear X_245
          have X_261 := Ext.only X_246 L_259 (fun b hb => Nat.le_trans (Ext.size X_56) (O_257.lt hb).1)
          clear X_246
          have X_262 := Ext.only X_247 L_259 (fun b hb => Nat.le_trans (Ext.size X_57) (O_257.lt hb).1)
          clear X_247
          have X_263 := Ext.only X_248 L_259 (fun b hb => Nat.le_trans (Ext.size X_58) (O_257.lt hb).1)
          clear X_248
          have X_264 := Ext.only X_249 L_259 (fun b hb => Nat.le_trans (Ext.size X_59) (O_257.lt hb).1)
          clear X_249
          have X_265 := Ext.only X_250 L_259 (fun b hb => Nat.le_trans (Ext.size X_64) (O_257.lt hb).1)
          clear X_250
          have O_266 := Own.only (O_77.ext X_252) L_259 (fun g hg e => by have y1 := (O_66.lt e).2; have y2 := ((O_77.ext X_252).lt hg).1; have y3 := Ext.size X_75; omega)
          have R_267 := O_266.rdI
          have X_268 := Ext.refl w20
          have O_269 := Own.only (O_89.ext X_253) L_259 (fun g hg e => by have y1 := (O_66.lt e).2; have y2 := ((O_89.ext X_253).lt hg).1; have y3 := Ext.size X_86; omega)
          have R_270 := O_269.rdI
          have X_271 := Ext.refl w20
          have O_272 := Own.only (O_102.ext X_254) L_259 (fun g hg e => by have y1 := (O_66.lt e).2; have y2 := ((O_102.ext X_254).lt hg).1; have y3 := Ext.size X_98; omega)
          have R_273 := O_272.rdI
          have X_274 := Ext.refl w20
          have O_275 := OwnR.only (O_116.ext X_255) L_259 (fun g hg e => by have y1 := (O_66.lt e).2; have y2 := ((O_116.ext X_255).lt hg).1; have y3 := Ext.size X_111; omega)
          have R_276 := O_275.rd
          have X_277 := Ext.refl w20
          have R_278 := O_258.rd
          have X_279 := Ext.refl w20
          go_wp2_with fail
          have O_280 := O_266.ext X_268
          refine (mark_S _ _ _ _ x1 (1 + (tot x0 : Nat)) _ O_280 (by have := O_280.len; have := h1.len; omega) (by omega) (by omega)).mono ?_
          rintro e w21 ⟨rfl, O_281, L_282⟩
          have X_283 := Ext.only X_260 L_282 (fun b hb => Nat.le_trans (Ext.size X_69) (O_280.lt hb).1)
          clear X_260
          have X_284 := Ext.only X_261 L_282 (fun b hb => Nat.le_trans (Ext.size X_70) (O_280.lt hb).1)
          clear X_261
          have X_285 := Ext.only X_262 L_282 (fun b hb => Nat.le_trans (Ext.size X_71) (O_280.lt hb).1)
          clear X_262
          have X_286 := Ext.only X_263 L_282 (fun b hb => Nat.le_trans (Ext.size X_72) (O_280.lt hb).1)
          clear X_263
          have X_287 := Ext.only X_264 L_282 (fun b hb => Nat.le_trans (Ext.size X_73) (O_280.lt hb).1)
          clear X_264
          have X_288 := Ext.only X_265 L_282 (fun b hb => Nat.le_trans (Ext.size X_74) (O_280.lt hb).1)
          clear X_265
          have O_289 := Own.only (O_269.ext X_271) L_282 (fun g hg e => by have y1 := (O_77.lt e).2; have y2 := ((O_269.ext X_271).lt hg).1; have y3 := Ext.size X_87; omega)
          have R_290 := O_289.rdI
          have X_291 := Ext.refl w21
          have O_292 := Own.only (O_272.ext X_274) L_282 (fun g hg e => by have y1 := (O_77.lt e).2; have y2 := ((O_272.ext X_274).lt hg).1; have y3 := Ext.size X_99; omega)
          have R_293 := O_292.rdI
          have X_294 := Ext.refl w21
          have O_295 := OwnR.only (O_275.ext X_277) L_282 (fun g hg e => by have y1 := (O_77.lt e).2; have y2 := ((O_275.ext X_277).lt hg).1; have y3 := Ext.size X_112; omega)
          have R_296 := O_295.rd
          have X_297 := Ext.refl w21
          have R_298 := O_281.rdI
          have X_299 := Ext.refl w21
          go_wp2_with fail
          have O_300 := O_289.ext X_291
          refine (mark_S _ _ _ _ x2 ((1 + (tot x0 : Nat)) + (n_c76 : Nat)) _ O_300 (by have := O_300.len; have := h2.len; omega) (by omega) (by omega)).mono ?_
          rintro e w22 ⟨rfl, O_301, L_302⟩
          have X_303 := Ext.only X_283 L_302 (fun b hb => Nat.le_trans (Ext.size X_80) (O_300.lt hb).1)
          clear X_283
          have X_304 := Ext.only X_284 L_302 (fun b hb => Nat.le_trans (Ext.size X_81) (O_300.lt hb).1)
          clear X_284
          have X_305 := Ext.only X_285 L_302 (fun b hb => Nat.le_trans (Ext.size X_82) (O_300.lt hb).1)
          clear X_285
          have X_306 := Ext.only X_286 L_302 (fun b hb => Nat.le_trans (Ext.size X_83) (O_300.lt hb).1)
          clear X_286
          have X_307 := Ext.only X_287 L_302 (fun b hb => Nat.le_trans (Ext.size X_84) (O_300.lt hb).1)
          clear X_287
          have X_308 := Ext.only X_288 L_302 (fun b hb => Nat.le_trans (Ext.size X_85) (O_300.lt hb).1)
          clear X_288
          have O_309 := Own.only (O_292.ext X_294) L_302 (fun g hg e => by have y1 := (O_89.lt e).2; have y2 := ((O_292.ext X_294).lt hg).1; have y3 := Ext.size X_100; omega)
          have R_310 := O_309.rdI
          have X_311 := Ext.refl w22
          have O_312 := OwnR.only (O_295.ext X_297) L_302 (fun g hg e => by have y1 := (O_89.lt e).2; have y2 := ((O_295.ext X_297).lt hg).1; have y3 := Ext.size X_113; omega)
          have R_313 := O_312.rd
          have X_314 := Ext.refl w22
          have R_315 := O_301.rdI
          have X_316 := Ext.refl w22
          go_wp2_with fail
          have O_317 := O_309.ext X_311
          refine (mark_S _ _ _ _ x3 (((1 + (tot x0 : Nat)) + (n_c76 : Nat)) + (n_c88 : Nat)) _ O_317 (by have := O_317.len; have := h3.len; omega) (by omega) (by omega)).mono ?_
          rintro e w23 ⟨rfl, O_318, L_319⟩
          have X_320 := Ext.only X_303 L_319 (fun b hb => Nat.le_trans (Ext.size X_92) (O_317.lt hb).1)
          clear X_303
          have X_321 := Ext.only X_304 L_319 (fun b hb => Nat.le_trans (Ext.size X_93) (O_317.lt hb).1)
          clear X_304
          have X_322 := Ext.only X_305 L_319 (fun b hb => Nat.le_trans (Ext.size X_94) (O_317.lt hb).1)
          clear X_305
          have X_323 := Ext.only X_306 L_319 (fun b hb => Nat.le_trans (Ext.size X_95) (O_317.lt hb).1)
          clear X_306
          have X_324 := Ext.only X_307 L_319 (fun b hb => Nat.le_trans (Ext.size X_96) (O_317.lt hb).1)
          clear X_307
          have X_325 := Ext.only X_308 L_319 (fun b hb => Nat.le_trans (Ext.size X_97) (O_317.lt hb).1)
          clear X_308
          have O_326 := OwnR.only (O_312.ext X_314) L_319 (fun g hg e => by have y1 := (O_102.lt e).2; have y2 := ((O_312.ext X_314).lt hg).1; have y3 := Ext.size X_114; omega)
          have R_327 := O_326.rd
          have X_328 := Ext.refl w23
          have R_329 := O_318.rdI
          have X_330 := Ext.refl w23
          go_wp2_with fail
          refine (eq_SS _ _ _ _ _ _ (isoM x0 x1 x2 x3) (isoM x0 x1 x2 x3) true _ (R_327.ext X_328) (R_54.ext X_325) (by simp)).mono ?_
          rintro e w24 ⟨rfl, Q_331⟩
          have X_332 := Ext.trans X_320 (Q.ext Q_331)
          clear X_320
          have X_333 := Ext.trans X_321 (Q.ext Q_331)
          clear X_321
          have X_334 := Ext.trans X_322 (Q.ext Q_331)
          clear X_322
          have X_335 := Ext.trans X_323 (Q.ext Q_331)
          clear X_323
          have X_336 := Ext.trans X_324 (Q.ext Q_331)
          clear X_324
          have X_337 := Ext.trans X_325 (Q.ext Q_331)
          clear X_325
          have X_338 := Ext.trans X_328 (Q.ext Q_331)
          clear X_328
          go_wp2_with fail
          have O_339 := O_326.ext X_338
          refine (mark_SS _ _ _ _ (isoM x0 x1 x2 x3) _ 1 _ O_339 (by omega) (by omega) (by omega)).mono ?_
          rintro e w25 ⟨rfl, O_340, L_341⟩
          have X_342 := Ext.only X_332 L_341 (fun b hb => Nat.le_trans (Ext.size X_105) (O_339.lt hb).1)
          clear X_332
          have X_343 := Ext.only X_333 L_341 (fun b hb => Nat.le_trans (Ext.size X_106) (O_339.lt hb).1)
          clear X_333
          have X_344 := Ext.only X_334 L_341 (fun b hb => Nat.le_trans (Ext.size X_107) (O_339.lt hb).1)
          clear X_334
          have X_345 := Ext.only X_335 L_341 (fun b hb => Nat.le_trans (Ext.size X_108) (O_339.lt hb).1)
          clear X_335
          have X_346 := Ext.only X_336 L_341 (fun b hb => Nat.le_trans (Ext.size X_109) (O_339.lt hb).1)
          clear X_336
          have X_347 := Ext.only X_337 L_341 (fun b hb => Nat.le_trans (Ext.size X_110) (O_339.lt hb).1)
          clear X_337
          have R_348 := O_340.rd
          have X_349 := Ext.refl w25
          have neg1 : ¬ ((1 : Int) + (tot (isoM x0 x1 x2 x3) : Nat) < 0) := by omega
          have neq1 : ((1 : Int) + (tot (isoM x0 x1 x2 x3) : Nat) != 1 + (tot (isoM x0 x1 x2 x3) : Nat)) = false := by simp
          go_wp2_with fail
          refine (held_SS _ _ _ (isoM x0 x1 x2 x3) 1 _ (R_348.ext X_349) (by omega) (by omega) (by omega)).mono ?_
          rintro e w26 ⟨rfl, Q_350⟩
          have X_351 := Ext.trans X_342 (Q.ext Q_350)
          clear X_342
          have X_352 := Ext.trans X_343 (Q.ext Q_350)
          clear X_343
          have X_353 := Ext.trans X_344 (Q.ext Q_350)
          clear X_344
          have X_354 := Ext.trans X_345 (Q.ext Q_350)
          clear X_345
          have X_355 := Ext.trans X_346 (Q.ext Q_350)
          clear X_346
          have X_356 := Ext.trans X_347 (Q.ext Q_350)
          clear X_347
          have X_357 := Ext.trans X_349 (Q.ext Q_350)
          clear X_349
          go_wp2_with fail
          refine (to_SS _ _ _ x0 _ (h0.ext X_351) (by have := h0.len; omega) (by omega)).mono ?_
          rintro e w27 ⟨a_c358, n_c358, c_c358, r_c358, rfl, O_359, E_360⟩
          have R_361 := O_359.rd
          have X_362 := Ext.trans X_351 E_360
          have X_363 := Ext.trans X_352 E_360
          have X_364 := Ext.trans X_353 E_360
          have X_365 := Ext.trans X_354 E_360
          have X_366 := Ext.trans X_355 E_360
          have X_367 := Ext.trans X_356 E_360
          have X_368 := Ext.trans X_357 E_360
          have X_369 := Ext.refl w27
          go_wp2_with fail
          refine (to_S _ _ _ x1 _ (h1.ext X_363) (by omega)).mono ?_
          rintro e w28 ⟨a_c370, n_c370, c_c370, rfl, O_371, E_372⟩
          have R_373 := O_371.rdI
          have X_374 := Ext.trans X_362 E_372
          have X_375 := Ext.trans X_363 E_372
          have X_376 := Ext.trans X_364 E_372
          have X_377 := Ext.trans X_365 E_372
          have X_378 := Ext.trans X_366 E_372
          have X_379 := Ext.trans X_367 E_372
          have X_380 := Ext.trans X_368 E_372
          have X_381 := Ext.trans X_369 E_372
          have X_382 := Ext.refl w28
          go_wp2_with fail
          refine (to_S _ _ _ x2 _ (h2.ext X_376) (by omega)).mono ?_
          rintro e w29 ⟨a_c383, n_c383, c_c383, rfl, O_384, E_385⟩
          have R_386 := O_384.rdI
          have X_387 := Ext.trans X_374 E_385
          have X_388 := Ext.trans X_375 E_385
          have X_389 := Ext.trans X_376 E_385
          have X_390 := Ext.trans X_377 E_385
          have X_391 := Ext.trans X_378 E_385
          have X_392 := Ext.trans X_379 E_385
          have X_393 := Ext.trans X_380 E_385
          have X_394 := Ext.trans X_381 E_385
          have X_395 := Ext.trans X_382 E_385
          have X_396 := Ext.refl w29
          go_wp2_with fail
          refine (to_S _ _ _ x3 _ (h3.ext X_390) (by omega)).mono ?_
          rintro e w30 ⟨a_c397, n_c397, c_c397, rfl, O_398, E_399⟩
          have R_400 := O_398.rdI
          have X_401 := Ext.trans X_387 E_399
          have X_402 := Ext.trans X_388 E_399
          have X_403 := Ext.trans X_389 E_399
          have X_404 := Ext.trans X_390 E_399
          have X_405 := Ext.trans X_391 E_399
          have X_406 := Ext.trans X_392 E_399
          have X_407 := Ext.trans X_393 E_399
          have X_408 := Ext.trans X_394 E_399
          have X_409 := Ext.trans X_395 E_399
          have X_410 := Ext.trans X_396 E_399
          have X_411 := Ext.refl w30
          go_wp2_with fail
          refine (implIso _ _ _ x0 _ _ _ x1 _ _ _ x2 _ _ _ x3 _ (R_361.ext X_408) t0 (R_373.ext X_409) (by have := h1.len; have := R_373.len; omega) (R_386.ext X_410) (by have := h2.len; have := R_386.len; omega) (R_400.ext X_411) (by have := h3.len; have := R_400.len; omega)).mono ?_
          rintro e w31 ⟨a_res31, n_res31, c_res31, r_res31, rfl, O_413, E_412⟩
          have R_414 := O_413.rd
          have X_415 := Ext.trans X_401 E_412
          have X_416 := Ext.trans X_402 E_412
          have X_417 := Ext.trans X_403 E_412
          have X_418 := Ext.trans X_404 E_412
          have X_419 := Ext.trans X_405 E_412
          have X_420 := Ext.trans X_406 E_412
          have X_421 := Ext.trans X_407 E_412
          have X_422 := Ext.trans X_408 E_412
          have X_423 := Ext.trans X_409 E_412
          have X_424 := Ext.trans X_410 E_412
          have X_425 := Ext.trans X_411 E_412
          have X_426 := Ext.refl w31
          go_wp2_with fail
          refine (eq_SS _ _ _ _ _ _ (isoM x0 x1 x2 x3) (isoM x0 x1 x2 x3) true _ (R_414.ext X_426) (R_54.ext X_420) (by simp)).mono ?_
          rintro e w32 ⟨rfl, Q_427⟩
          have X_428 := Ext.trans X_415 (Q.ext Q_427)
          clear X_415
          have X_429 := Ext.trans X_416 (Q.ext Q_427)
          clear X_416
          have X_430 := Ext.trans X_417 (Q.ext Q_427)
          clear X_417
          have X_431 := Ext.trans X_418 (Q.ext Q_427)
          clear X_418
          have X_432 := Ext.trans X_419 (Q.ext Q_427)
          clear X_419
          have X_433 := Ext.trans X_420 (Q.ext Q_427)
          clear X_420
          have X_434 := Ext.trans X_421 (Q.ext Q_427)
          clear X_421
          have X_435 := Ext.trans X_422 (Q.ext Q_427)
          clear X_422
          have X_436 := Ext.trans X_423 (Q.ext Q_427)
          clear X_423
          have X_437 := Ext.trans X_424 (Q.ext Q_427)
          clear X_424
          have X_438 := Ext.trans X_425 (Q.ext Q_427)
          clear X_425
          have X_439 := Ext.trans X_426 (Q.ext Q_427)
          clear X_426
          go_wp2_with fail
          refine (held_SS _ _ _ (isoM x0 x1 x2 x3) 1 _ (R_348.ext X_434) (by omega) (by omega) (by omega)).mono ?_
          rintro e w33 ⟨rfl, Q_440⟩
          have X_441 := Ext.trans X_428 (Q.ext Q_440)
          clear X_428
          have X_442 := Ext.trans X_429 (Q.ext Q_440)
          clear X_429
          have X_443 := Ext.trans X_430 (Q.ext Q_440)
          clear X_430
          have X_444 := Ext.trans X_431 (Q.ext Q_440)
          clear X_431
          have X_445 := Ext.trans X_432 (Q.ext Q_440)
          clear X_432
          have X_446 := Ext.trans X_433 (Q.ext Q_440)
          clear X_433
          have X_447 := Ext.trans X_434 (Q.ext Q_440)
          clear X_434
          have X_448 := Ext.trans X_435 (Q.ext Q_440)
          clear X_435
          have X_449 := Ext.trans X_436 (Q.ext Q_440)
          clear X_436
          have X_450 := Ext.trans X_437 (Q.ext Q_440)
          clear X_437
          have X_451 := Ext.trans X_438 (Q.ext Q_440)
          clear X_438
          have X_452 := Ext.trans X_439 (Q.ext Q_440)
          clear X_439
          go_wp2
          go_ret
          exact ⟨rfl, X_445⟩
        · skip
          go_enter Try.func13, Try.ntmps13
          go_wp2_with fail
          refine (sz_no _ _ _ x0 1048576 _ h0 (by omega) (by omega) (by omega)).mono ?_
          rintro e w' ⟨rfl, rfl⟩
          go_wp2
          go_ret
          exact ⟨rfl, Ext.refl _⟩
      · have q3 : ((1048576 : Int) < (n3 : Int)) := by omega
        go_enter Try.func13, Try.ntmps13
        go_wp2
        go_ret
        exact ⟨rfl, Ext.refl _⟩
    · have q2 : ((1048576 : Int) < (n2 : Int)) := by omega
      go_enter Try.func13, Try.ntmps13
      go_wp2
      go_ret
      exact ⟨rfl, Ext.refl _⟩
  · have q1 : ((1048576 : Int) < (n1 : Int)) := by omega
    go_enter Try.func13, Try.ntmps13
    go_wp2
    go_ret
    exact ⟨rfl, Ext.refl _⟩
end Go.Proofs.Ythpcogjglpnjeaa
