/- The walk of the law FnExactSetStabilizer: it returns true. Conditions: none. -/
import Derived.Test.YtjlfngnmmmaefaaStq
import Derived.Test.YtjlfngnmmmaefaaGrp
import Derived.Test.YtjlfngnmmmaefaaTo
import Derived.Test.YtjlfngnmmmaefaaEq
import Derived.Test.YtjlfngnmmmaefaaMark
import Derived.Test.YtjlfngnmmmaefaaSz
namespace Go.Proofs.Ytjlfngnmmmaefaa
open Go.RowKit

set_option maxRecDepth 100000 in
set_option maxHeartbeats 3200000 in
theorem lawSetStabilizer (z0 : Int) (a0 : Option Addr) (n0 c0 : Nat) (x0 : List (List Int)) (a1 : Option Addr) (n1 c1 : Nat) (x1 : List Int) (w : World) (lo0 : -9223372036854775808 ≤ z0) (hi0 : z0 ≤ 9223372036854775807) (h0 : RdR w a0 n0 c0 x0) (h1 : RdI w a1 n1 c1 x1) :
    Calls Try.prog 5 #[.agg #[.int .i64 z0, .slice a0 n0 c0], .slice a1 n1 c1] w fun e w' => e = .returned (.bool true) ∧ Ext w w' := by
  have le1 := h1.le
  have mx1 := h1.max
  by_cases s1 : n1 ≤ 1048576
  · have q1 : ¬ ((1048576 : Int) < (n1 : Int)) := by omega
    by_cases s0 : ((x0.length + tot x0 : Nat) : Int) ≤ 1048576
    · obtain ⟨l0, hl0⟩ : ∃ l : Int, 1048576 - ((x0.length + tot x0 : Nat) : Int) = l := ⟨_, rfl⟩
      have b0 : 0 ≤ l0 ∧ l0 ≤ 1048576 := by omega
      obtain ⟨bl0, bh0⟩ := b0
      have Hl0 := Lib.hid hl0
      have t0 : x0.length + tot x0 ≤ 1048576 := by omega
      clear hl0 s0
      have sc0 : ((soC z0 x0 (Rises x1 0 (z0 - 1))) != (soC z0 x0 (Rises x1 0 (z0 - 1)))) = false := by simp
      have bnd := sgM_tot (soC z0 x0 (Rises x1 0 (z0 - 1))) (ssF x1) (fun h => soC_ok h)
      go_enter Try.func5, Try.ntmps5
      go_wp2_with fail
      obtain ⟨W, hW⟩ : ∃ W, (w.alloc (.cells #[.int .i64 z0, .slice a0 n0 c0] 24)) = W := ⟨_, rfl⟩
      have XW : Ext w W := by rw [← hW]; exact (Ext.refl _).alloc _
      have kb0 : Bx W (w.heap.size) z0 a0 n0 c0 := by rw [← hW]; exact ⟨(World.cell?_alloc_at _ _ _ _ (by simp)).trans rfl, (World.cell?_alloc_at _ _ _ _ (by simp)).trans rfl⟩
      rw [hW]; clear hW
      have R_1 := h0.ext XW
      have X_2 := Ext.refl W
      have R_3 := h1.ext XW
      have X_4 := Ext.refl W
      have X_5 := Ext.refl W
      refine (szG_ok _ _ _ _ x0 1048576 _ (R_1.ext X_2) _ (by omega) (by omega) Hl0.out).mono ?_
      rintro e w1 ⟨rfl, E_6⟩
      have X_7 := Ext.trans XW E_6
      have X_8 := Ext.trans X_2 E_6
      clear X_2
      have X_9 := Ext.trans X_4 E_6
      clear X_4
      have X_10 := Ext.trans X_5 E_6
      clear X_5
      have p_11 := (kb0.ext X_10).1
      have p_12 := (kb0.ext X_10).2
      go_wp2_with fail
      refine (to_G z0 a0 n0 c0 x0 _ (R_1.ext X_8) (by have := h0.len; omega) (by omega)).mono ?_
      rintro e w2 ⟨a_c13, n_c13, c_c13, r_c13, rfl, O_14, E_15⟩
      clear p_11 p_12
      have R_16 := O_14.rd
      have X_17 := Ext.trans X_7 E_15
      have X_18 := Ext.trans X_8 E_15
      have X_19 := Ext.trans X_9 E_15
      have X_20 := Ext.trans X_10 E_15
      have X_21 := Ext.refl w2
      go_wp2_with fail
      refine (to_S a1 n1 c1 x1 _ (R_3.ext X_19) (by omega)).mono ?_
      rintro e w3 ⟨a_c22, n_c22, c_c22, rfl, O_23, E_24⟩
      have R_25 := O_23.rdI
      have X_26 := Ext.trans X_17 E_24
      have X_27 := Ext.trans X_18 E_24
      have X_28 := Ext.trans X_19 E_24
      have X_29 := Ext.trans X_20 E_24
      have X_30 := Ext.trans X_21 E_24
      have X_31 := Ext.refl w3
      go_wp2_with fail
      refine (specSst _ _ _ _ x0 _ _ _ x1 _ (R_16.ext X_30) t0 lo0 hi0 (R_25.ext X_31) (by have := h1.len; have := ((R_25.ext X_31)).len; omega)).mono ?_
      rintro e w4 ⟨a_res4, n_res4, c_res4, r_res4, rfl, O_33, E_32⟩
      have R_34 := O_33.rd
      have X_35 := Ext.trans X_26 E_32
      have X_36 := Ext.trans X_27 E_32
      have X_37 := Ext.trans X_28 E_32
      have X_38 := Ext.trans X_29 E_32
      have X_39 := Ext.trans X_30 E_32
      have X_40 := Ext.trans X_31 E_32
      have X_41 := Ext.refl w4
      have p_42 := (kb0.ext X_38).1
      have p_43 := (kb0.ext X_38).2
      have lt_44 : (w.heap.size) < w4.heap.size := World.block_lt_of_cell? _ _ p_42
      have lt_44n : (w.heap.size) ≠ w4.heap.size := Nat.ne_of_lt lt_44
      go_wp2_with fail
      obtain ⟨w5, hW_45⟩ : ∃ W, w4.alloc (.cells #[.int .i64 (sgZ (soC z0 x0 (Rises x1 0 (z0 - 1))) z0), .slice a_res4 n_res4 c_res4] 29) = W := ⟨_, rfl⟩
      have E_46 : Ext w4 w5 := by rw [← hW_45]; exact (Ext.refl _).alloc _
      have kb_47 : Bx w5 w4.heap.size (sgZ (soC z0 x0 (Rises x1 0 (z0 - 1))) z0) a_res4 n_res4 c_res4 := by rw [← hW_45]; exact ⟨(World.cell?_alloc_at _ _ _ _ rfl).trans rfl, (World.cell?_alloc_at _ _ _ _ rfl).trans rfl⟩
      rw [hW_45]; clear hW_45
      have X_48 := Ext.trans X_35 E_46
      have X_49 := Ext.trans X_36 E_46
      have X_50 := Ext.trans X_37 E_46
      have X_51 := Ext.trans X_38 E_46
      have X_52 := Ext.trans X_41 E_46
      have X_53 := Ext.refl w5
      clear p_42 p_43 lt_44 lt_44n
      have p_54 := (kb0.ext X_51).1
      have p_55 := (kb0.ext X_51).2
      refine (to_G z0 a0 n0 c0 x0 _ (R_1.ext X_49) (by have := h0.len; omega) (by omega)).mono ?_
      rintro e w6 ⟨a_c56, n_c56, c_c56, r_c56, rfl, O_57, E_58⟩
      clear p_54 p_55
      have R_59 := O_57.rd
      have X_60 := Ext.trans X_48 E_58
      have X_61 := Ext.trans X_49 E_58
      have X_62 := Ext.trans X_50 E_58
      have X_63 := Ext.trans X_51 E_58
      have X_64 := Ext.trans X_52 E_58
      have X_65 := Ext.trans X_53 E_58
      have X_66 := Ext.refl w6
      go_wp2_with fail
      obtain ⟨w7, hW_67⟩ : ∃ W, w6.alloc (.cells #[.int .i64 z0, .slice a_c56 n_c56 c_c56] 29) = W := ⟨_, rfl⟩
      have E_68 : Ext w6 w7 := by rw [← hW_67]; exact (Ext.refl _).alloc _
      have kb_69 : Bx w7 w6.heap.size z0 a_c56 n_c56 c_c56 := by rw [← hW_67]; exact ⟨(World.cell?_alloc_at _ _ _ _ rfl).trans rfl, (World.cell?_alloc_at _ _ _ _ rfl).trans rfl⟩
      rw [hW_67]; clear hW_67
      have X_70 := Ext.trans X_60 E_68
      have X_71 := Ext.trans X_61 E_68
      have X_72 := Ext.trans X_62 E_68
      have X_73 := Ext.trans X_63 E_68
      have X_74 := Ext.trans X_64 E_68
      have X_75 := Ext.trans X_65 E_68
      have X_76 := Ext.trans X_66 E_68
      have X_77 := Ext.refl w7
      refine (to_S a1 n1 c1 x1 _ (R_3.ext X_72) (by omega)).mono ?_
      rintro e w8 ⟨a_c78, n_c78, c_c78, rfl, O_79, E_80⟩
      have R_81 := O_79.rdI
      have X_82 := Ext.trans X_70 E_80
      have X_83 := Ext.trans X_71 E_80
      have X_84 := Ext.trans X_72 E_80
      have X_85 := Ext.trans X_73 E_80
      have X_86 := Ext.trans X_74 E_80
      have X_87 := Ext.trans X_75 E_80
      have X_88 := Ext.trans X_76 E_80
      have X_89 := Ext.trans X_77 E_80
      have X_90 := Ext.refl w8
      have p_91 := (kb_69.ext X_89).1
      have p_92 := (kb_69.ext X_89).2
      go_wp2_with fail
      refine (implSst _ _ _ _ x0 _ _ _ x1 _ (R_59.ext X_88) t0 lo0 hi0 (R_81.ext X_90) (by have := h1.len; have := ((R_81.ext X_90)).len; omega)).mono ?_
      rintro e w9 ⟨a_res9, n_res9, c_res9, r_res9, rfl, O_94, E_93⟩
      clear p_91 p_92
      have R_95 := O_94.rd
      have X_96 := Ext.trans X_82 E_93
      have X_97 := Ext.trans X_83 E_93
      have X_98 := Ext.trans X_84 E_93
      have X_99 := Ext.trans X_85 E_93
      have X_100 := Ext.trans X_86 E_93
      have X_101 := Ext.trans X_87 E_93
      have X_102 := Ext.trans X_88 E_93
      have X_103 := Ext.trans X_89 E_93
      have X_104 := Ext.trans X_90 E_93
      have X_105 := Ext.refl w9
      have p_106 := (kb_47.ext X_101).1
      have p_107 := (kb_47.ext X_101).2
      have lt_108 : w4.heap.size < w9.heap.size := World.block_lt_of_cell? _ _ p_106
      have lt_108n : w4.heap.size ≠ w9.heap.size := Nat.ne_of_lt lt_108
      go_wp2_with fail
      obtain ⟨w10, hW_109⟩ : ∃ W, w9.alloc (.cells #[.int .i64 (sgZ (soC z0 x0 (Rises x1 0 (z0 - 1))) z0), .slice a_res9 n_res9 c_res9] 29) = W := ⟨_, rfl⟩
      have E_110 : Ext w9 w10 := by rw [← hW_109]; exact (Ext.refl _).alloc _
      have kb_111 : Bx w10 w9.heap.size (sgZ (soC z0 x0 (Rises x1 0 (z0 - 1))) z0) a_res9 n_res9 c_res9 := by rw [← hW_109]; exact ⟨(World.cell?_alloc_at _ _ _ _ rfl).trans rfl, (World.cell?_alloc_at _ _ _ _ rfl).trans rfl⟩
      rw [hW_109]; clear hW_109
      have X_112 := Ext.trans X_96 E_110
      have X_113 := Ext.trans X_97 E_110
      have X_114 := Ext.trans X_98 E_110
      have X_115 := Ext.trans X_99 E_110
      have X_116 := Ext.trans X_100 E_110
      have X_117 := Ext.trans X_101 E_110
      have X_118 := Ext.trans X_102 E_110
      have X_119 := Ext.trans X_103 E_110
      have X_120 := Ext.trans X_104 E_110
      have X_121 := Ext.trans X_105 E_110
      have X_122 := Ext.refl w10
      clear p_106 p_107 lt_108 lt_108n
      have p_123 := (kb_111.ext X_122).1
      have p_124 := (kb_111.ext X_122).2
      have p_125 := (kb_47.ext X_117).1
      have p_126 := (kb_47.ext X_117).2
      refine (eq_G _ _ _ _ _ _ _ _ (sgM (soC z0 x0 (Rises x1 0 (z0 - 1))) (x0.filter (ssF x1))) (sgM (soC z0 x0 (Rises x1 0 (z0 - 1))) (x0.filter (ssF x1))) true _ (R_95.ext X_121) (R_34.ext X_116) rfl (by simp)).mono ?_
      rintro e w11 ⟨rfl, Q_127⟩
      clear p_123 p_124 p_125 p_126
      have X_128 := Ext.trans X_112 Q_127
      clear X_112
      have X_129 := Ext.trans X_113 Q_127
      clear X_113
      have X_130 := Ext.trans X_114 Q_127
      clear X_114
      have X_131 := Ext.trans X_115 Q_127
      clear X_115
      have X_132 := Ext.trans X_116 Q_127
      clear X_116
      have X_133 := Ext.trans X_117 Q_127
      clear X_117
      have X_134 := Ext.trans X_118 Q_127
      clear X_118
      have X_135 := Ext.trans X_119 Q_127
      clear X_119
      have X_136 := Ext.trans X_120 Q_127
      clear X_120
      have X_137 := Ext.trans X_121 Q_127
      clear X_121
      have X_138 := Ext.trans X_122 Q_127
      clear X_122
      have p_139 := (kb_69.ext X_135).1
      have p_140 := (kb_69.ext X_135).2
      have p_141 := (kb0.ext X_131).1
      have p_142 := (kb0.ext X_131).2
      go_wp2_with fail
      go_region_held3 (fun w' => w'.cell? ⟨w6.heap.size, 0, none⟩ = some (.int .i64 z0) ∧ w'.cell? ⟨w6.heap.size, 1, none⟩ = some (.slice a_c56 n_c56 c_c56) ∧ w'.cell? ⟨(w.heap.size), 0, none⟩ = some (.int .i64 z0) ∧ w'.cell? ⟨(w.heap.size), 1, none⟩ = some (.slice a0 n0 c0))
        (first | exact ⟨p_139, p_140, p_141, p_142⟩ | exact ⟨Ext.cell ((Ext.refl _).drew) p_139, Ext.cell ((Ext.refl _).drew) p_140, Ext.cell ((Ext.refl _).drew) p_141, Ext.cell ((Ext.refl _).drew) p_142⟩ | exact ⟨Ext.cell (Ext.trans ((Ext.refl _).drew) E_144) p_139, Ext.cell (Ext.trans ((Ext.refl _).drew) E_144) p_140, Ext.cell (Ext.trans ((Ext.refl _).drew) E_144) p_141, Ext.cell (Ext.trans ((Ext.refl _).drew) E_144) p_142⟩ | exact ⟨Ext.cell (Ext.trans (Ext.trans ((Ext.refl _).drew) E_144) E_146) p_139, Ext.cell (Ext.trans (Ext.trans ((Ext.refl _).drew) E_144) E_146) p_140, Ext.cell (Ext.trans (Ext.trans ((Ext.refl _).drew) E_144) E_146) p_141, Ext.cell (Ext.trans (Ext.trans ((Ext.refl _).drew) E_144) E_146) p_142⟩)
        (first
          | (go_at_call 15; refine (to_G z0 a0 n0 c0 x0 _ ((R_1.ext X_129).ext ((Ext.refl _).drew)) (by have := h0.len; omega) (by omega)).mono ?_; rintro e w12 ⟨aq_145, nq_145, cq_145, rq_145, rfl, O_143, E_144⟩)
          | (go_at_call 18; refine (eq_G _ _ _ _ _ _ _ _ x0 x0 true _ ((R_59.ext X_134).ext (Ext.trans ((Ext.refl _).drew) E_144)) O_143.rd rfl (by simp)).mono ?_; rintro e w13 ⟨rfl, E_146⟩))
      have E_147 : Ext w11 w13 := (Ext.trans (Ext.trans ((Ext.refl _).drew) E_144) E_146)
      clear p_139 p_140 p_141 p_142
      have X_148 := Ext.trans X_128 E_147
      clear X_128
      have X_149 := Ext.trans X_129 E_147
      clear X_129
      have X_150 := Ext.trans X_130 E_147
      clear X_130
      have X_151 := Ext.trans X_131 E_147
      clear X_131
      have X_152 := Ext.trans X_132 E_147
      clear X_132
      have X_153 := Ext.trans X_133 E_147
      clear X_133
      have X_154 := Ext.trans X_134 E_147
      clear X_134
      have X_155 := Ext.trans X_135 E_147
      clear X_135
      have X_156 := Ext.trans X_136 E_147
      clear X_136
      have X_157 := Ext.trans X_137 E_147
      clear X_137
      have X_158 := Ext.trans X_138 E_147
      clear X_138
      go_wp2_with fail
      refine (to_S a1 n1 c1 x1 _ (R_3.ext X_150) (by omega)).mono ?_
      rintro e w14 ⟨a_c159, n_c159, c_c159, rfl, O_160, E_161⟩
      have R_162 := O_160.rdI
      have X_163 := Ext.trans X_148 E_161
      have X_164 := Ext.trans X_149 E_161
      have X_165 := Ext.trans X_150 E_161
      have X_166 := Ext.trans X_151 E_161
      have X_167 := Ext.trans X_152 E_161
      have X_168 := Ext.trans X_153 E_161
      have X_169 := Ext.trans X_154 E_161
      have X_170 := Ext.trans X_155 E_161
      have X_171 := Ext.trans X_156 E_161
      have X_172 := Ext.trans X_157 E_161
      have X_173 := Ext.trans X_158 E_161
      have X_174 := Ext.refl w14
      go_wp2_with fail
      refine (eq_S _ _ _ _ _ _ x1 x1 true _ (R_81.ext X_171) (R_162.ext X_174) (by simp)).mono ?_
      rintro e w15 ⟨rfl, Q_175⟩
      have X_176 := Ext.trans X_163 (Q.ext Q_175)
      clear X_163
      have X_177 := Ext.trans X_164 (Q.ext Q_175)
      clear X_164
      have X_178 := Ext.trans X_165 (Q.ext Q_175)
      clear X_165
      have X_179 := Ext.trans X_166 (Q.ext Q_175)
      clear X_166
      have X_180 := Ext.trans X_167 (Q.ext Q_175)
      clear X_167
      have X_181 := Ext.trans X_168 (Q.ext Q_175)
      clear X_168
      have X_182 := Ext.trans X_169 (Q.ext Q_175)
      clear X_169
      have X_183 := Ext.trans X_170 (Q.ext Q_175)
      clear X_170
      have X_184 := Ext.trans X_171 (Q.ext Q_175)
      clear X_171
      have X_185 := Ext.trans X_172 (Q.ext Q_175)
      clear X_172
      have X_186 := Ext.trans X_173 (Q.ext Q_175)
      clear X_173
      have X_187 := Ext.trans X_174 (Q.ext Q_175)
      clear X_174
      have nb1 : n_c78 ≤ 1048576 := by have := O_79.len; have := h1.len; omega
      have p_188 := (kb_69.ext X_183).1
      have p_189 := (kb_69.ext X_183).2
      go_wp2_with fail
      have O_190 := O_57.ext X_182
      refine (mark_G _ _ _ _ _ x0 _ 1 _ O_190 (by omega) (by omega) (by omega)).mono ?_
      rintro e w16 ⟨rfl, O_191, L_192⟩
      clear p_188 p_189
      have X_193 := Ext.only X_176 L_192 (fun b hb => Nat.le_trans (Ext.size X_48) (O_190.lt hb).1)
      clear X_176
      have X_194 := Ext.only X_177 L_192 (fun b hb => Nat.le_trans (Ext.size X_49) (O_190.lt hb).1)
      clear X_177
      have X_195 := Ext.only X_178 L_192 (fun b hb => Nat.le_trans (Ext.size X_50) (O_190.lt hb).1)
      clear X_178
      have X_196 := Ext.only X_179 L_192 (fun b hb => Nat.le_trans (Ext.size X_51) (O_190.lt hb).1)
      clear X_179
      have X_197 := Ext.only X_180 L_192 (fun b hb => Nat.le_trans (Ext.size X_52) (O_190.lt hb).1)
      clear X_180
      have X_198 := Ext.only X_181 L_192 (fun b hb => Nat.le_trans (Ext.size X_53) (O_190.lt hb).1)
      clear X_181
      have kb_199 := Bx.only (kb_69.ext X_183) L_192 (fun e => by have y1 := (O_57.lt e).2; have y3 := Ext.size X_66; omega)
      have X_200 := Ext.refl w16
      have O_201 := Own.only (O_79.ext X_184) L_192 (fun g hg e => by have y1 := (O_57.lt e).2; have y2 := ((O_79.ext X_184).lt hg).1; have y3 := Ext.size X_76; omega)
      have R_202 := O_201.rdI
      have X_203 := Ext.refl w16
      have O_204 := OwnR.only (O_94.ext X_185) L_192 (fun g hg e => by have y1 := (O_57.lt e).2; have y2 := ((O_94.ext X_185).lt hg).1; have y3 := Ext.size X_88; omega)
      have R_205 := O_204.rd
      have X_206 := Ext.refl w16
      have kb_207 := Bx.only (kb_111.ext X_186) L_192 (fun e => by have y1 := (O_57.lt e).2; have y3 := Ext.size X_102; omega)
      have X_208 := Ext.refl w16
      have R_209 := O_191.rd
      have X_210 := Ext.refl w16
      go_wp2_with fail
      have O_211 := O_201.ext X_203
      refine (mark_S _ _ _ _ x1 (1 + (tot x0 : Nat)) _ O_211 (by have := O_211.len; have := h1.len; omega) (by omega) (by omega)).mono ?_
      rintro e w17 ⟨rfl, O_212, L_213⟩
      have X_214 := Ext.only X_193 L_213 (fun b hb => Nat.le_trans (Ext.size X_70) (O_211.lt hb).1)
      clear X_193
      have X_215 := Ext.only X_194 L_213 (fun b hb => Nat.le_trans (Ext.size X_71) (O_211.lt hb).1)
      clear X_194
      have X_216 := Ext.only X_195 L_213 (fun b hb => Nat.le_trans (Ext.size X_72) (O_211.lt hb).1)
      clear X_195
      have X_217 := Ext.only X_196 L_213 (fun b hb => Nat.le_trans (Ext.size X_73) (O_211.lt hb).1)
      clear X_196
      have X_218 := Ext.only X_197 L_213 (fun b hb => Nat.le_trans (Ext.size X_74) (O_211.lt hb).1)
      clear X_197
      have X_219 := Ext.only X_198 L_213 (fun b hb => Nat.le_trans (Ext.size X_75) (O_211.lt hb).1)
      clear X_198
      have O_220 := OwnR.only (O_204.ext X_206) L_213 (fun g hg e => by have y1 := (O_79.lt e).2; have y2 := ((O_204.ext X_206).lt hg).1; have y3 := Ext.size X_90; omega)
      have R_221 := O_220.rd
      have X_222 := Ext.refl w17
      have kb_223 := Bx.only (kb_207.ext X_208) L_213 (fun e => by have y1 := (O_79.lt e).2; have y3 := Ext.size X_104; omega)
      have X_224 := Ext.refl w17
      have R_225 := O_212.rdI
      have X_226 := Ext.refl w17
      have p_227 := (kb_223.ext X_224).1
      have p_228 := (kb_223.ext X_224).2
      have p_229 := (kb_47.ext X_219).1
      have p_230 := (kb_47.ext X_219).2
      go_wp2_with fail
      refine (eq_G _ _ _ _ _ _ _ _ (sgM (soC z0 x0 (Rises x1 0 (z0 - 1))) (x0.filter (ssF x1))) (sgM (soC z0 x0 (Rises x1 0 (z0 - 1))) (x0.filter (ssF x1))) true _ (R_221.ext X_222) (R_34.ext X_218) rfl (by simp)).mono ?_
      rintro e w18 ⟨rfl, Q_231⟩
      clear p_227 p_228 p_229 p_230
      have X_232 := Ext.trans X_214 Q_231
      clear X_214
      have X_233 := Ext.trans X_215 Q_231
      clear X_215
      have X_234 := Ext.trans X_216 Q_231
      clear X_216
      have X_235 := Ext.trans X_217 Q_231
      clear X_217
      have X_236 := Ext.trans X_218 Q_231
      clear X_218
      have X_237 := Ext.trans X_219 Q_231
      clear X_219
      have X_238 := Ext.trans X_222 Q_231
      clear X_222
      have X_239 := Ext.trans X_224 Q_231
      clear X_224
      have p_240 := (kb_223.ext X_239).1
      have p_241 := (kb_223.ext X_239).2
      go_wp2_with fail
      have O_242 := O_220.ext X_238
      refine (mark_G _ _ _ _ _ (sgM (soC z0 x0 (Rises x1 0 (z0 - 1))) (x0.filter (ssF x1))) _ 1 _ O_242 (by omega) (by omega) (by omega)).mono ?_
      rintro e w19 ⟨rfl, O_243, L_244⟩
      clear p_240 p_241
      have X_245 := Ext.only X_232 L_244 (fun b hb => Nat.le_trans (Ext.size X_82) (O_242.lt hb).1)
      clear X_232
      have X_246 := Ext.only X_233 L_244 (fun b hb => Nat.le_trans (Ext.size X_83) (O_242.lt hb).1)
      clear X_233
      have X_247 := Ext.only X_234 L_244 (fun b hb => Nat.le_trans (Ext.size X_84) (O_242.lt hb).1)
      clear X_234
      have X_248 := Ext.only X_235 L_244 (fun b hb => Nat.le_trans (Ext.size X_85) (O_242.lt hb).1)
      clear X_235
      have X_249 := Ext.only X_236 L_244 (fun b hb => Nat.le_trans (Ext.size X_86) (O_242.lt hb).1)
      clear X_236
      have X_250 := Ext.only X_237 L_244 (fun b hb => Nat.le_trans (Ext.size X_87) (O_242.lt hb).1)
      clear X_237
      have kb_251 := Bx.only (kb_223.ext X_239) L_244 (fun e => by have y1 := (O_94.lt e).2; have y3 := Ext.size X_105; omega)
      have X_252 := Ext.refl w19
      have R_253 := O_243.rd
      have X_254 := Ext.refl w19
      have neg1 : ¬ ((1 : Int) + (tot (sgM (soC z0 x0 (Rises x1 0 (z0 - 1))) (x0.filter (ssF x1))) : Nat) < 0) := by omega
      have neq1 : ((1 : Int) + (tot (sgM (soC z0 x0 (Rises x1 0 (z0 - 1))) (x0.filter (ssF x1))) : Nat) != 1 + (tot (sgM (soC z0 x0 (Rises x1 0 (z0 - 1))) (x0.filter (ssF x1))) : Nat)) = false := by simp
      have p_255 := (kb_251.ext X_252).1
      have p_256 := (kb_251.ext X_252).2
      go_wp2_with fail
      refine (held_G _ _ _ _ (sgM (soC z0 x0 (Rises x1 0 (z0 - 1))) (x0.filter (ssF x1))) 1 _ (R_253.ext X_254) (by omega) (by omega) (by omega)).mono ?_
      rintro e w20 ⟨rfl, Q_257⟩
      clear p_255 p_256
      have X_258 := Ext.trans X_245 Q_257
      clear X_245
      have X_259 := Ext.trans X_246 Q_257
      clear X_246
      have X_260 := Ext.trans X_247 Q_257
      clear X_247
      have X_261 := Ext.trans X_248 Q_257
      clear X_248
      have X_262 := Ext.trans X_249 Q_257
      clear X_249
      have X_263 := Ext.trans X_250 Q_257
      clear X_250
      have X_264 := Ext.trans X_254 Q_257
      clear X_254
      have X_265 := Ext.trans X_252 Q_257
      clear X_252
      have p_266 := (kb0.ext X_261).1
      have p_267 := (kb0.ext X_261).2
      go_wp2_with fail
      refine (to_G z0 a0 n0 c0 x0 _ (R_1.ext X_259) (by have := h0.len; omega) (by omega)).mono ?_
      rintro e w21 ⟨a_c268, n_c268, c_c268, r_c268, rfl, O_269, E_270⟩
      clear p_266 p_267
      have R_271 := O_269.rd
      have X_272 := Ext.trans X_258 E_270
      have X_273 := Ext.trans X_259 E_270
      have X_274 := Ext.trans X_260 E_270
      have X_275 := Ext.trans X_261 E_270
      have X_276 := Ext.trans X_262 E_270
      have X_277 := Ext.trans X_263 E_270
      have X_278 := Ext.trans X_264 E_270
      have X_279 := Ext.trans X_265 E_270
      have X_280 := Ext.refl w21
      go_wp2_with fail
      refine (to_S a1 n1 c1 x1 _ (R_3.ext X_274) (by omega)).mono ?_
      rintro e w22 ⟨a_c281, n_c281, c_c281, rfl, O_282, E_283⟩
      have R_284 := O_282.rdI
      have X_285 := Ext.trans X_272 E_283
      have X_286 := Ext.trans X_273 E_283
      have X_287 := Ext.trans X_274 E_283
      have X_288 := Ext.trans X_275 E_283
      have X_289 := Ext.trans X_276 E_283
      have X_290 := Ext.trans X_277 E_283
      have X_291 := Ext.trans X_278 E_283
      have X_292 := Ext.trans X_279 E_283
      have X_293 := Ext.trans X_280 E_283
      have X_294 := Ext.refl w22
      go_wp2_with fail
      refine (implSst _ _ _ _ x0 _ _ _ x1 _ (R_271.ext X_293) t0 lo0 hi0 (R_284.ext X_294) (by have := h1.len; have := ((R_284.ext X_294)).len; omega)).mono ?_
      rintro e w23 ⟨a_res23, n_res23, c_res23, r_res23, rfl, O_296, E_295⟩
      have R_297 := O_296.rd
      have X_298 := Ext.trans X_285 E_295
      have X_299 := Ext.trans X_286 E_295
      have X_300 := Ext.trans X_287 E_295
      have X_301 := Ext.trans X_288 E_295
      have X_302 := Ext.trans X_289 E_295
      have X_303 := Ext.trans X_290 E_295
      have X_304 := Ext.trans X_291 E_295
      have X_305 := Ext.trans X_292 E_295
      have X_306 := Ext.trans X_293 E_295
      have X_307 := Ext.trans X_294 E_295
      have X_308 := Ext.refl w23
      have p_309 := (kb_47.ext X_303).1
      have p_310 := (kb_47.ext X_303).2
      have lt_311 : w4.heap.size < w23.heap.size := World.block_lt_of_cell? _ _ p_309
      have lt_311n : w4.heap.size ≠ w23.heap.size := Nat.ne_of_lt lt_311
      go_wp2_with fail
      obtain ⟨w24, hW_312⟩ : ∃ W, w23.alloc (.cells #[.int .i64 (sgZ (soC z0 x0 (Rises x1 0 (z0 - 1))) z0), .slice a_res23 n_res23 c_res23] 29) = W := ⟨_, rfl⟩
      have E_313 : Ext w23 w24 := by rw [← hW_312]; exact (Ext.refl _).alloc _
      have kb_314 : Bx w24 w23.heap.size (sgZ (soC z0 x0 (Rises x1 0 (z0 - 1))) z0) a_res23 n_res23 c_res23 := by rw [← hW_312]; exact ⟨(World.cell?_alloc_at _ _ _ _ rfl).trans rfl, (World.cell?_alloc_at _ _ _ _ rfl).trans rfl⟩
      rw [hW_312]; clear hW_312
      have X_315 := Ext.trans X_298 E_313
      have X_316 := Ext.trans X_299 E_313
      have X_317 := Ext.trans X_300 E_313
      have X_318 := Ext.trans X_301 E_313
      have X_319 := Ext.trans X_302 E_313
      have X_320 := Ext.trans X_303 E_313
      have X_321 := Ext.trans X_304 E_313
      have X_322 := Ext.trans X_305 E_313
      have X_323 := Ext.trans X_308 E_313
      have X_324 := Ext.refl w24
      clear p_309 p_310 lt_311 lt_311n
      have p_325 := (kb_314.ext X_324).1
      have p_326 := (kb_314.ext X_324).2
      have p_327 := (kb_47.ext X_320).1
      have p_328 := (kb_47.ext X_320).2
      refine (eq_G _ _ _ _ _ _ _ _ (sgM (soC z0 x0 (Rises x1 0 (z0 - 1))) (x0.filter (ssF x1))) (sgM (soC z0 x0 (Rises x1 0 (z0 - 1))) (x0.filter (ssF x1))) true _ (R_297.ext X_323) (R_34.ext X_319) rfl (by simp)).mono ?_
      rintro e w25 ⟨rfl, Q_329⟩
      clear p_325 p_326 p_327 p_328
      have X_330 := Ext.trans X_315 Q_329
      clear X_315
      have X_331 := Ext.trans X_316 Q_329
      clear X_316
      have X_332 := Ext.trans X_317 Q_329
      clear X_317
      have X_333 := Ext.trans X_318 Q_329
      clear X_318
      have X_334 := Ext.trans X_319 Q_329
      clear X_319
      have X_335 := Ext.trans X_320 Q_329
      clear X_320
      have X_336 := Ext.trans X_321 Q_329
      clear X_321
      have X_337 := Ext.trans X_322 Q_329
      clear X_322
      have X_338 := Ext.trans X_323 Q_329
      clear X_323
      have X_339 := Ext.trans X_324 Q_329
      clear X_324
      have p_340 := (kb_251.ext X_337).1
      have p_341 := (kb_251.ext X_337).2
      go_wp2_with fail
      refine (held_G _ _ _ _ (sgM (soC z0 x0 (Rises x1 0 (z0 - 1))) (x0.filter (ssF x1))) 1 _ (R_253.ext X_336) (by omega) (by omega) (by omega)).mono ?_
      rintro e w26 ⟨rfl, Q_342⟩
      clear p_340 p_341
      have X_343 := Ext.trans X_330 Q_342
      clear X_330
      have X_344 := Ext.trans X_331 Q_342
      clear X_331
      have X_345 := Ext.trans X_332 Q_342
      clear X_332
      have X_346 := Ext.trans X_333 Q_342
      clear X_333
      have X_347 := Ext.trans X_334 Q_342
      clear X_334
      have X_348 := Ext.trans X_335 Q_342
      clear X_335
      have X_349 := Ext.trans X_336 Q_342
      clear X_336
      have X_350 := Ext.trans X_337 Q_342
      clear X_337
      have X_351 := Ext.trans X_338 Q_342
      clear X_338
      have X_352 := Ext.trans X_339 Q_342
      clear X_339
      go_wp2
      go_ret
      exact ⟨rfl, X_343⟩
    · skip
      go_enter Try.func5, Try.ntmps5
      go_wp2_with fail
      obtain ⟨W, hW⟩ : ∃ W, (w.alloc (.cells #[.int .i64 z0, .slice a0 n0 c0] 24)) = W := ⟨_, rfl⟩
      have XW : Ext w W := by rw [← hW]; exact (Ext.refl _).alloc _
      have kb0 : Bx W (w.heap.size) z0 a0 n0 c0 := by rw [← hW]; exact ⟨(World.cell?_alloc_at _ _ _ _ (by simp)).trans rfl, (World.cell?_alloc_at _ _ _ _ (by simp)).trans rfl⟩
      rw [hW]; clear hW
      refine (szG_no _ _ _ _ x0 1048576 _ (h0.ext XW) (by omega) (by omega) (by omega)).mono ?_
      rintro e v0 ⟨rfl, F0⟩
      have G0 := Ext.trans XW F0
      have EW := F0
      go_wp2
      go_ret
      exact ⟨rfl, G0⟩
  · have q1 : ((1048576 : Int) < (n1 : Int)) := by omega
    go_enter Try.func5, Try.ntmps5
    go_wp2
    go_ret
    exact ⟨rfl, (Ext.refl _).alloc _⟩
end Go.Proofs.Ytjlfngnmmmaefaa
