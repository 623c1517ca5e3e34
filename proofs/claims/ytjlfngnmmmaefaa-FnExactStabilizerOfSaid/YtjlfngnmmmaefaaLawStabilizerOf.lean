/- The walk of the law FnExactStabilizerOf: it returns true. Conditions: none. -/
import Derived.Test.YtjlfngnmmmaefaaStq
import Derived.Test.YtjlfngnmmmaefaaGrp
import Derived.Test.YtjlfngnmmmaefaaTo
import Derived.Test.YtjlfngnmmmaefaaEq
import Derived.Test.YtjlfngnmmmaefaaMark
import Derived.Test.YtjlfngnmmmaefaaSz
namespace Go.Proofs.Ytjlfngnmmmaefaa
open Go.RowKit

set_option maxRecDepth 100000 in
set_option maxHeartbeats 3200000 in
theorem lawStabilizerOf (z0 : Int) (a0 : Option Addr) (n0 c0 : Nat) (x0 : List (List Int)) (z1 : Int) (w : World) (lo0 : -9223372036854775808 ≤ z0) (hi0 : z0 ≤ 9223372036854775807) (h0 : RdR w a0 n0 c0 x0) (lo1 : -9223372036854775808 ≤ z1) (hi1 : z1 ≤ 9223372036854775807) :
    Calls Try.prog 10 #[.agg #[.int .i64 z0, .slice a0 n0 c0], .int .i64 z1] w fun e w' => e = .returned (.bool true) ∧ Ext w w' := by
  by_cases s0 : ((x0.length + tot x0 : Nat) : Int) ≤ 1048576
  · obtain ⟨l0, hl0⟩ : ∃ l : Int, 1048576 - ((x0.length + tot x0 : Nat) : Int) = l := ⟨_, rfl⟩
    have b0 : 0 ≤ l0 ∧ l0 ≤ 1048576 := by omega
    obtain ⟨bl0, bh0⟩ := b0
    have Hl0 := Lib.hid hl0
    have t0 : x0.length + tot x0 ≤ 1048576 := by omega
    clear hl0 s0
    have sc0 : ((soC z0 x0 (0 ≤ z1 ∧ z1 ≤ z0 - 1)) != (soC z0 x0 (0 ≤ z1 ∧ z1 ≤ z0 - 1))) = false := by simp
    have bnd := sgM_tot (soC z0 x0 (0 ≤ z1 ∧ z1 ≤ z0 - 1)) (stF z1.toNat) (fun h => soC_ok h)
    go_enter Try.func10, Try.ntmps10
    go_wp2_with fail
    obtain ⟨W, hW⟩ : ∃ W, (w.alloc (.cells #[.int .i64 z0, .slice a0 n0 c0] 24)) = W := ⟨_, rfl⟩
    have XW : Ext w W := by rw [← hW]; exact (Ext.refl _).alloc _
    have kb0 : Bx W (w.heap.size) z0 a0 n0 c0 := by rw [← hW]; exact ⟨(World.cell?_alloc_at _ _ _ _ (by simp)).trans rfl, (World.cell?_alloc_at _ _ _ _ (by simp)).trans rfl⟩
    rw [hW]; clear hW
    have R_1 := h0.ext XW
    have X_2 := Ext.refl W
    have X_3 := Ext.refl W
    refine (szG_ok _ _ _ _ x0 1048576 _ (R_1.ext X_2) _ (by omega) (by omega) Hl0.out).mono ?_
    rintro e w1 ⟨rfl, E_4⟩
    have X_5 := Ext.trans XW E_4
    have X_6 := Ext.trans X_2 E_4
    clear X_2
    have X_7 := Ext.trans X_3 E_4
    clear X_3
    have p_8 := (kb0.ext X_7).1
    have p_9 := (kb0.ext X_7).2
    go_wp2_with fail
    refine (to_G z0 a0 n0 c0 x0 _ (R_1.ext X_6) (by have := h0.len; omega) (by omega)).mono ?_
    rintro e w2 ⟨a_c10, n_c10, c_c10, r_c10, rfl, O_11, E_12⟩
    clear p_8 p_9
    have R_13 := O_11.rd
    have X_14 := Ext.trans X_5 E_12
    have X_15 := Ext.trans X_6 E_12
    have X_16 := Ext.trans X_7 E_12
    have X_17 := Ext.refl w2
    go_wp2_with fail
    refine (specStb _ _ _ _ x0 _ _ (R_13.ext X_17) t0 lo0 hi0 lo1 hi1).mono ?_
    rintro e w3 ⟨a_res3, n_res3, c_res3, r_res3, rfl, O_19, E_18⟩
    have R_20 := O_19.rd
    have X_21 := Ext.trans X_14 E_18
    have X_22 := Ext.trans X_15 E_18
    have X_23 := Ext.trans X_16 E_18
    have X_24 := Ext.trans X_17 E_18
    have X_25 := Ext.refl w3
    have p_26 := (kb0.ext X_23).1
    have p_27 := (kb0.ext X_23).2
    have lt_28 : (w.heap.size) < w3.heap.size := World.block_lt_of_cell? _ _ p_26
    have lt_28n : (w.heap.size) ≠ w3.heap.size := Nat.ne_of_lt lt_28
    go_wp2_with fail
    obtain ⟨w4, hW_29⟩ : ∃ W, w3.alloc (.cells #[.int .i64 (sgZ (soC z0 x0 (0 ≤ z1 ∧ z1 ≤ z0 - 1)) z0), .slice a_res3 n_res3 c_res3] 29) = W := ⟨_, rfl⟩
    have E_30 : Ext w3 w4 := by rw [← hW_29]; exact (Ext.refl _).alloc _
    have kb_31 : Bx w4 w3.heap.size (sgZ (soC z0 x0 (0 ≤ z1 ∧ z1 ≤ z0 - 1)) z0) a_res3 n_res3 c_res3 := by rw [← hW_29]; exact ⟨(World.cell?_alloc_at _ _ _ _ rfl).trans rfl, (World.cell?_alloc_at _ _ _ _ rfl).trans rfl⟩
    rw [hW_29]; clear hW_29
    have X_32 := Ext.trans X_21 E_30
    have X_33 := Ext.trans X_22 E_30
    have X_34 := Ext.trans X_23 E_30
    have X_35 := Ext.trans X_25 E_30
    have X_36 := Ext.refl w4
    clear p_26 p_27 lt_28 lt_28n
    have p_37 := (kb0.ext X_34).1
    have p_38 := (kb0.ext X_34).2
    refine (to_G z0 a0 n0 c0 x0 _ (R_1.ext X_33) (by have := h0.len; omega) (by omega)).mono ?_
    rintro e w5 ⟨a_c39, n_c39, c_c39, r_c39, rfl, O_40, E_41⟩
    clear p_37 p_38
    have R_42 := O_40.rd
    have X_43 := Ext.trans X_32 E_41
    have X_44 := Ext.trans X_33 E_41
    have X_45 := Ext.trans X_34 E_41
    have X_46 := Ext.trans X_35 E_41
    have X_47 := Ext.trans X_36 E_41
    have X_48 := Ext.refl w5
    go_wp2_with fail
    obtain ⟨w6, hW_49⟩ : ∃ W, w5.alloc (.cells #[.int .i64 z0, .slice a_c39 n_c39 c_c39] 29) = W := ⟨_, rfl⟩
    have E_50 : Ext w5 w6 := by rw [← hW_49]; exact (Ext.refl _).alloc _
    have kb_51 : Bx w6 w5.heap.size z0 a_c39 n_c39 c_c39 := by rw [← hW_49]; exact ⟨(World.cell?_alloc_at _ _ _ _ rfl).trans rfl, (World.cell?_alloc_at _ _ _ _ rfl).trans rfl⟩
    rw [hW_49]; clear hW_49
    have X_52 := Ext.trans X_43 E_50
    have X_53 := Ext.trans X_44 E_50
    have X_54 := Ext.trans X_45 E_50
    have X_55 := Ext.trans X_46 E_50
    have X_56 := Ext.trans X_47 E_50
    have X_57 := Ext.trans X_48 E_50
    have X_58 := Ext.refl w6
    have p_59 := (kb_51.ext X_58).1
    have p_60 := (kb_51.ext X_58).2
    refine (implStb _ _ _ _ x0 _ _ (R_42.ext X_57) t0 lo0 hi0 lo1 hi1).mono ?_
    rintro e w7 ⟨a_res7, n_res7, c_res7, r_res7, rfl, O_62, E_61⟩
    clear p_59 p_60
    have R_63 := O_62.rd
    have X_64 := Ext.trans X_52 E_61
    have X_65 := Ext.trans X_53 E_61
    have X_66 := Ext.trans X_54 E_61
    have X_67 := Ext.trans X_55 E_61
    have X_68 := Ext.trans X_56 E_61
    have X_69 := Ext.trans X_57 E_61
    have X_70 := Ext.trans X_58 E_61
    have X_71 := Ext.refl w7
    have p_72 := (kb_31.ext X_68).1
    have p_73 := (kb_31.ext X_68).2
    have lt_74 : w3.heap.size < w7.heap.size := World.block_lt_of_cell? _ _ p_72
    have lt_74n : w3.heap.size ≠ w7.heap.size := Nat.ne_of_lt lt_74
    go_wp2_with fail
    obtain ⟨w8, hW_75⟩ : ∃ W, w7.alloc (.cells #[.int .i64 (sgZ (soC z0 x0 (0 ≤ z1 ∧ z1 ≤ z0 - 1)) z0), .slice a_res7 n_res7 c_res7] 29) = W := ⟨_, rfl⟩
    have E_76 : Ext w7 w8 := by rw [← hW_75]; exact (Ext.refl _).alloc _
    have kb_77 : Bx w8 w7.heap.size (sgZ (soC z0 x0 (0 ≤ z1 ∧ z1 ≤ z0 - 1)) z0) a_res7 n_res7 c_res7 := by rw [← hW_75]; exact ⟨(World.cell?_alloc_at _ _ _ _ rfl).trans rfl, (World.cell?_alloc_at _ _ _ _ rfl).trans rfl⟩
    rw [hW_75]; clear hW_75
    have X_78 := Ext.trans X_64 E_76
    have X_79 := Ext.trans X_65 E_76
    have X_80 := Ext.trans X_66 E_76
    have X_81 := Ext.trans X_67 E_76
    have X_82 := Ext.trans X_68 E_76
    have X_83 := Ext.trans X_69 E_76
    have X_84 := Ext.trans X_70 E_76
    have X_85 := Ext.trans X_71 E_76
    have X_86 := Ext.refl w8
    clear p_72 p_73 lt_74 lt_74n
    have p_87 := (kb_77.ext X_86).1
    have p_88 := (kb_77.ext X_86).2
    have p_89 := (kb_31.ext X_82).1
    have p_90 := (kb_31.ext X_82).2
    refine (eq_G _ _ _ _ _ _ _ _ (sgM (soC z0 x0 (0 ≤ z1 ∧ z1 ≤ z0 - 1)) (x0.filter (stF z1.toNat))) (sgM (soC z0 x0 (0 ≤ z1 ∧ z1 ≤ z0 - 1)) (x0.filter (stF z1.toNat))) true _ (R_63.ext X_85) (R_20.ext X_81) rfl (by simp)).mono ?_
    rintro e w9 ⟨rfl, Q_91⟩
    clear p_87 p_88 p_89 p_90
    have X_92 := Ext.trans X_78 Q_91
    clear X_78
    have X_93 := Ext.trans X_79 Q_91
    clear X_79
    have X_94 := Ext.trans X_80 Q_91
    clear X_80
    have X_95 := Ext.trans X_81 Q_91
    clear X_81
    have X_96 := Ext.trans X_82 Q_91
    clear X_82
    have X_97 := Ext.trans X_83 Q_91
    clear X_83
    have X_98 := Ext.trans X_84 Q_91
    clear X_84
    have X_99 := Ext.trans X_85 Q_91
    clear X_85
    have X_100 := Ext.trans X_86 Q_91
    clear X_86
    have p_101 := (kb_51.ext X_98).1
    have p_102 := (kb_51.ext X_98).2
    have p_103 := (kb0.ext X_94).1
    have p_104 := (kb0.ext X_94).2
    go_wp2_with fail
    go_region_held3 (fun w' => w'.cell? ⟨w5.heap.size, 0, none⟩ = some (.int .i64 z0) ∧ w'.cell? ⟨w5.heap.size, 1, none⟩ = some (.slice a_c39 n_c39 c_c39) ∧ w'.cell? ⟨(w.heap.size), 0, none⟩ = some (.int .i64 z0) ∧ w'.cell? ⟨(w.heap.size), 1, none⟩ = some (.slice a0 n0 c0))
      (first | exact ⟨p_101, p_102, p_103, p_104⟩ | exact ⟨Ext.cell ((Ext.refl _).drew) p_101, Ext.cell ((Ext.refl _).drew) p_102, Ext.cell ((Ext.refl _).drew) p_103, Ext.cell ((Ext.refl _).drew) p_104⟩ | exact ⟨Ext.cell (Ext.trans ((Ext.refl _).drew) E_106) p_101, Ext.cell (Ext.trans ((Ext.refl _).drew) E_106) p_102, Ext.cell (Ext.trans ((Ext.refl _).drew) E_106) p_103, Ext.cell (Ext.trans ((Ext.refl _).drew) E_106) p_104⟩ | exact ⟨Ext.cell (Ext.trans (Ext.trans ((Ext.refl _).drew) E_106) E_108) p_101, Ext.cell (Ext.trans (Ext.trans ((Ext.refl _).drew) E_106) E_108) p_102, Ext.cell (Ext.trans (Ext.trans ((Ext.refl _).drew) E_106) E_108) p_103, Ext.cell (Ext.trans (Ext.trans ((Ext.refl _).drew) E_106) E_108) p_104⟩)
      (first
        | (go_at_call 15; refine (to_G z0 a0 n0 c0 x0 _ ((R_1.ext X_93).ext ((Ext.refl _).drew)) (by have := h0.len; omega) (by omega)).mono ?_; rintro e w10 ⟨aq_107, nq_107, cq_107, rq_107, rfl, O_105, E_106⟩)
        | (go_at_call 18; refine (eq_G _ _ _ _ _ _ _ _ x0 x0 true _ ((R_42.ext X_97).ext (Ext.trans ((Ext.refl _).drew) E_106)) O_105.rd rfl (by simp)).mono ?_; rintro e w11 ⟨rfl, E_108⟩))
    have E_109 : Ext w9 w11 := (Ext.trans (Ext.trans ((Ext.refl _).drew) E_106) E_108)
    clear p_101 p_102 p_103 p_104
    have X_110 := Ext.trans X_92 E_109
    clear X_92
    have X_111 := Ext.trans X_93 E_109
    clear X_93
    have X_112 := Ext.trans X_94 E_109
    clear X_94
    have X_113 := Ext.trans X_95 E_109
    clear X_95
    have X_114 := Ext.trans X_96 E_109
    clear X_96
    have X_115 := Ext.trans X_97 E_109
    clear X_97
    have X_116 := Ext.trans X_98 E_109
    clear X_98
    have X_117 := Ext.trans X_99 E_109
    clear X_99
    have X_118 := Ext.trans X_100 E_109
    clear X_100
    have p_119 := (kb_51.ext X_116).1
    have p_120 := (kb_51.ext X_116).2
    go_wp2_with fail
    have O_121 := O_40.ext X_115
    refine (mark_G _ _ _ _ _ x0 _ 1 _ O_121 (by omega) (by omega) (by omega)).mono ?_
    rintro e w12 ⟨rfl, O_122, L_123⟩
    clear p_119 p_120
    have X_124 := Ext.only X_110 L_123 (fun b hb => Nat.le_trans (Ext.size X_32) (O_121.lt hb).1)
    clear X_110
    have X_125 := Ext.only X_111 L_123 (fun b hb => Nat.le_trans (Ext.size X_33) (O_121.lt hb).1)
    clear X_111
    have X_126 := Ext.only X_112 L_123 (fun b hb => Nat.le_trans (Ext.size X_34) (O_121.lt hb).1)
    clear X_112
    have X_127 := Ext.only X_113 L_123 (fun b hb => Nat.le_trans (Ext.size X_35) (O_121.lt hb).1)
    clear X_113
    have X_128 := Ext.only X_114 L_123 (fun b hb => Nat.le_trans (Ext.size X_36) (O_121.lt hb).1)
    clear X_114
    have kb_129 := Bx.only (kb_51.ext X_116) L_123 (fun e => by have y1 := (O_40.lt e).2; have y3 := Ext.size X_48; omega)
    have X_130 := Ext.refl w12
    have O_131 := OwnR.only (O_62.ext X_117) L_123 (fun g hg e => by have y1 := (O_40.lt e).2; have y2 := ((O_62.ext X_117).lt hg).1; have y3 := Ext.size X_57; omega)
    have R_132 := O_131.rd
    have X_133 := Ext.refl w12
    have kb_134 := Bx.only (kb_77.ext X_118) L_123 (fun e => by have y1 := (O_40.lt e).2; have y3 := Ext.size X_69; omega)
    have X_135 := Ext.refl w12
    have R_136 := O_122.rd
    have X_137 := Ext.refl w12
    have p_138 := (kb_134.ext X_135).1
    have p_139 := (kb_134.ext X_135).2
    have p_140 := (kb_31.ext X_128).1
    have p_141 := (kb_31.ext X_128).2
    go_wp2_with fail
    refine (eq_G _ _ _ _ _ _ _ _ (sgM (soC z0 x0 (0 ≤ z1 ∧ z1 ≤ z0 - 1)) (x0.filter (stF z1.toNat))) (sgM (soC z0 x0 (0 ≤ z1 ∧ z1 ≤ z0 - 1)) (x0.filter (stF z1.toNat))) true _ (R_132.ext X_133) (R_20.ext X_127) rfl (by simp)).mono ?_
    rintro e w13 ⟨rfl, Q_142⟩
    clear p_138 p_139 p_140 p_141
    have X_143 := Ext.trans X_124 Q_142
    clear X_124
    have X_144 := Ext.trans X_125 Q_142
    clear X_125
    have X_145 := Ext.trans X_126 Q_142
    clear X_126
    have X_146 := Ext.trans X_127 Q_142
    clear X_127
    have X_147 := Ext.trans X_128 Q_142
    clear X_128
    have X_148 := Ext.trans X_133 Q_142
    clear X_133
    have X_149 := Ext.trans X_135 Q_142
    clear X_135
    have p_150 := (kb_134.ext X_149).1
    have p_151 := (kb_134.ext X_149).2
    go_wp2_with fail
    have O_152 := O_131.ext X_148
    refine (mark_G _ _ _ _ _ (sgM (soC z0 x0 (0 ≤ z1 ∧ z1 ≤ z0 - 1)) (x0.filter (stF z1.toNat))) _ 1 _ O_152 (by omega) (by omega) (by omega)).mono ?_
    rintro e w14 ⟨rfl, O_153, L_154⟩
    clear p_150 p_151
    have X_155 := Ext.only X_143 L_154 (fun b hb => Nat.le_trans (Ext.size X_52) (O_152.lt hb).1)
    clear X_143
    have X_156 := Ext.only X_144 L_154 (fun b hb => Nat.le_trans (Ext.size X_53) (O_152.lt hb).1)
    clear X_144
    have X_157 := Ext.only X_145 L_154 (fun b hb => Nat.le_trans (Ext.size X_54) (O_152.lt hb).1)
    clear X_145
    have X_158 := Ext.only X_146 L_154 (fun b hb => Nat.le_trans (Ext.size X_55) (O_152.lt hb).1)
    clear X_146
    have X_159 := Ext.only X_147 L_154 (fun b hb => Nat.le_trans (Ext.size X_56) (O_152.lt hb).1)
    clear X_147
    have kb_160 := Bx.only (kb_134.ext X_149) L_154 (fun e => by have y1 := (O_62.lt e).2; have y3 := Ext.size X_71; omega)
    have X_161 := Ext.refl w14
    have R_162 := O_153.rd
    have X_163 := Ext.refl w14
    have neg1 : ¬ ((1 : Int) + (tot (sgM (soC z0 x0 (0 ≤ z1 ∧ z1 ≤ z0 - 1)) (x0.filter (stF z1.toNat))) : Nat) < 0) := by omega
    have neq1 : ((1 : Int) + (tot (sgM (soC z0 x0 (0 ≤ z1 ∧ z1 ≤ z0 - 1)) (x0.filter (stF z1.toNat))) : Nat) != 1 + (tot (sgM (soC z0 x0 (0 ≤ z1 ∧ z1 ≤ z0 - 1)) (x0.filter (stF z1.toNat))) : Nat)) = false := by simp
    have p_164 := (kb_160.ext X_161).1
    have p_165 := (kb_160.ext X_161).2
    go_wp2_with fail
    refine (held_G _ _ _ _ (sgM (soC z0 x0 (0 ≤ z1 ∧ z1 ≤ z0 - 1)) (x0.filter (stF z1.toNat))) 1 _ (R_162.ext X_163) (by omega) (by omega) (by omega)).mono ?_
    rintro e w15 ⟨rfl, Q_166⟩
    clear p_164 p_165
    have X_167 := Ext.trans X_155 Q_166
    clear X_155
    have X_168 := Ext.trans X_156 Q_166
    clear X_156
    have X_169 := Ext.trans X_157 Q_166
    clear X_157
    have X_170 := Ext.trans X_158 Q_166
    clear X_158
    have X_171 := Ext.trans X_159 Q_166
    clear X_159
    have X_172 := Ext.trans X_163 Q_166
    clear X_163
    have X_173 := Ext.trans X_161 Q_166
    clear X_161
    have p_174 := (kb0.ext X_169).1
    have p_175 := (kb0.ext X_169).2
    go_wp2_with fail
    refine (to_G z0 a0 n0 c0 x0 _ (R_1.ext X_168) (by have := h0.len; omega) (by omega)).mono ?_
    rintro e w16 ⟨a_c176, n_c176, c_c176, r_c176, rfl, O_177, E_178⟩
    clear p_174 p_175
    have R_179 := O_177.rd
    have X_180 := Ext.trans X_167 E_178
    have X_181 := Ext.trans X_168 E_178
    have X_182 := Ext.trans X_169 E_178
    have X_183 := Ext.trans X_170 E_178
    have X_184 := Ext.trans X_171 E_178
    have X_185 := Ext.trans X_172 E_178
    have X_186 := Ext.trans X_173 E_178
    have X_187 := Ext.refl w16
    go_wp2_with fail
    refine (implStb _ _ _ _ x0 _ _ (R_179.ext X_187) t0 lo0 hi0 lo1 hi1).mono ?_
    rintro e w17 ⟨a_res17, n_res17, c_res17, r_res17, rfl, O_189, E_188⟩
    have R_190 := O_189.rd
    have X_191 := Ext.trans X_180 E_188
    have X_192 := Ext.trans X_181 E_188
    have X_193 := Ext.trans X_182 E_188
    have X_194 := Ext.trans X_183 E_188
    have X_195 := Ext.trans X_184 E_188
    have X_196 := Ext.trans X_185 E_188
    have X_197 := Ext.trans X_186 E_188
    have X_198 := Ext.trans X_187 E_188
    have X_199 := Ext.refl w17
    have p_200 := (kb_31.ext X_195).1
    have p_201 := (kb_31.ext X_195).2
    have lt_202 : w3.heap.size < w17.heap.size := World.block_lt_of_cell? _ _ p_200
    have lt_202n : w3.heap.size ≠ w17.heap.size := Nat.ne_of_lt lt_202
    go_wp2_with fail
    obtain ⟨w18, hW_203⟩ : ∃ W, w17.alloc (.cells #[.int .i64 (sgZ (soC z0 x0 (0 ≤ z1 ∧ z1 ≤ z0 - 1)) z0), .slice a_res17 n_res17 c_res17] 29) = W := ⟨_, rfl⟩
    have E_204 : Ext w17 w18 := by rw [← hW_203]; exact (Ext.refl _).alloc _
    have kb_205 : Bx w18 w17.heap.size (sgZ (soC z0 x0 (0 ≤ z1 ∧ z1 ≤ z0 - 1)) z0) a_res17 n_res17 c_res17 := by rw [← hW_203]; exact ⟨(World.cell?_alloc_at _ _ _ _ rfl).trans rfl, (World.cell?_alloc_at _ _ _ _ rfl).trans rfl⟩
    rw [hW_203]; clear hW_203
    have X_206 := Ext.trans X_191 E_204
    have X_207 := Ext.trans X_192 E_204
    have X_208 := Ext.trans X_193 E_204
    have X_209 := Ext.trans X_194 E_204
    have X_210 := Ext.trans X_195 E_204
    have X_211 := Ext.trans X_196 E_204
    have X_212 := Ext.trans X_197 E_204
    have X_213 := Ext.trans X_199 E_204
    have X_214 := Ext.refl w18
    clear p_200 p_201 lt_202 lt_202n
    have p_215 := (kb_205.ext X_214).1
    have p_216 := (kb_205.ext X_214).2
    have p_217 := (kb_31.ext X_210).1
    have p_218 := (kb_31.ext X_210).2
    refine (eq_G _ _ _ _ _ _ _ _ (sgM (soC z0 x0 (0 ≤ z1 ∧ z1 ≤ z0 - 1)) (x0.filter (stF z1.toNat))) (sgM (soC z0 x0 (0 ≤ z1 ∧ z1 ≤ z0 - 1)) (x0.filter (stF z1.toNat))) true _ (R_190.ext X_213) (R_20.ext X_209) rfl (by simp)).mono ?_
    rintro e w19 ⟨rfl, Q_219⟩
    clear p_215 p_216 p_217 p_218
    have X_220 := Ext.trans X_206 Q_219
    clear X_206
    have X_221 := Ext.trans X_207 Q_219
    clear X_207
    have X_222 := Ext.trans X_208 Q_219
    clear X_208
    have X_223 := Ext.trans X_209 Q_219
    clear X_209
    have X_224 := Ext.trans X_210 Q_219
    clear X_210
    have X_225 := Ext.trans X_211 Q_219
    clear X_211
    have X_226 := Ext.trans X_212 Q_219
    clear X_212
    have X_227 := Ext.trans X_213 Q_219
    clear X_213
    have X_228 := Ext.trans X_214 Q_219
    clear X_214
    have p_229 := (kb_160.ext X_226).1
    have p_230 := (kb_160.ext X_226).2
    go_wp2_with fail
    refine (held_G _ _ _ _ (sgM (soC z0 x0 (0 ≤ z1 ∧ z1 ≤ z0 - 1)) (x0.filter (stF z1.toNat))) 1 _ (R_162.ext X_225) (by omega) (by omega) (by omega)).mono ?_
    rintro e w20 ⟨rfl, Q_231⟩
    clear p_229 p_230
    have X_232 := Ext.trans X_220 Q_231
    clear X_220
    have X_233 := Ext.trans X_221 Q_231
    clear X_221
    have X_234 := Ext.trans X_222 Q_231
    clear X_222
    have X_235 := Ext.trans X_223 Q_231
    clear X_223
    have X_236 := Ext.trans X_224 Q_231
    clear X_224
    have X_237 := Ext.trans X_225 Q_231
    clear X_225
    have X_238 := Ext.trans X_226 Q_231
    clear X_226
    have X_239 := Ext.trans X_227 Q_231
    clear X_227
    have X_240 := Ext.trans X_228 Q_231
    clear X_228
    go_wp2
    go_ret
    exact ⟨rfl, X_232⟩
  · skip
    go_enter Try.func10, Try.ntmps10
    go_wp2_with fail
    obtain ⟨W, hW⟩ : ∃ W, (w.alloc (.cells #[.int .i64 z0, .slice a0 n0 c0] 24)) = W := ⟨_, rfl⟩
    have XW : Ext w W := by rw [← hW]; exact (Ext.refl _).alloc _
    have kb0 : Bx W (w.heap.size) z0 a0 n0 c0 := by rw [← hW]; exact ⟨(World.cell?_alloc_at _ _ _ _ (by simp)).trans rfl, (World.cell?_alloc_at _ _ _ _ (by simp)).trans rfl⟩
    rw [hW]; clear hW
    refine (szG_no _ _ _ _ x0 1048576 _ (h0.ext XW) (by omega) (by omega) (by omega)).mono ?_
    rintro e v0 ⟨rfl, F0⟩
    have G0 := Ext.trans XW F0
    have EW := F0
    go_wp2
    go_ret
    exact ⟨rfl, G0⟩
end Go.Proofs.Ytjlfngnmmmaefaa
