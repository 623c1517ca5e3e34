/- The walk of the law FnExactMakeGroup: it returns true. Conditions: none. -/
import Derived.Test.YtjlfngnmmmaefaaMkg
import Derived.Test.YtjlfngnmmmaefaaGrp
import Derived.Test.YtjlfngnmmmaefaaTo
import Derived.Test.YtjlfngnmmmaefaaEq
import Derived.Test.YtjlfngnmmmaefaaMark
import Derived.Test.YtjlfngnmmmaefaaSz
namespace Go.Proofs.Ytjlfngnmmmaefaa
open Go.RowKit

set_option maxRecDepth 100000 in
set_option maxHeartbeats 3200000 in
theorem lawMakeGroup (z0 : Int) (a1 : Option Addr) (n1 c1 : Nat) (x1 : List (List Int)) (w : World) (lo0 : -9223372036854775808 ≤ z0) (hi0 : z0 ≤ 9223372036854775807) (h1 : RdR w a1 n1 c1 x1) :
    Calls Try.prog 6 #[.int .i64 z0, .slice a1 n1 c1] w fun e w' => e = .returned (.bool true) ∧ Ext w w' := by
  by_cases s1 : ((x1.length + tot x1 : Nat) : Int) ≤ 1048576
  · obtain ⟨l1, hl1⟩ : ∃ l : Int, 1048576 - ((x1.length + tot x1 : Nat) : Int) = l := ⟨_, rfl⟩
    have b1 : 0 ≤ l1 ∧ l1 ≤ 1048576 := by omega
    obtain ⟨bl1, bh1⟩ := b1
    have Hl1 := Lib.hid hl1
    have t1 : x1.length + tot x1 ≤ 1048576 := by omega
    clear hl1 s1
    have sc0 : (mgC z0 x1 != mgC z0 x1) = false := by simp
    have bnd := mgM_tot z0 x1
    go_enter Try.func6, Try.ntmps6
    have X_1 := Ext.refl w
    have X_2 := Ext.refl w
    go_wp2_with fail
    refine (sz_ok _ _ _ x1 1048576 _ (h1.ext X_2) _ (by omega) (by omega) Hl1.out).mono ?_
    rintro e w' ⟨rfl, rfl⟩
    go_wp2_with fail
    refine (to_SS a1 n1 c1 x1 _ (h1.ext X_2) (by have := h1.len; omega) (by omega)).mono ?_
    rintro e w1 ⟨a_c3, n_c3, c_c3, r_c3, rfl, O_4, E_5⟩
    have R_6 := O_4.rd
    have X_7 := Ext.trans X_1 E_5
    have X_8 := Ext.trans X_2 E_5
    have X_9 := Ext.refl w1
    go_wp2_with fail
    refine (specMkg _ _ _ _ x1 _ lo0 hi0 (R_6.ext X_9) t1).mono ?_
    rintro e w2 ⟨a_res2, n_res2, c_res2, r_res2, rfl, O_11, E_10⟩
    have R_12 := O_11.rd
    have X_13 := Ext.trans X_7 E_10
    have X_14 := Ext.trans X_8 E_10
    have X_15 := Ext.trans X_9 E_10
    have X_16 := Ext.refl w2
    go_wp2_with fail
    obtain ⟨w3, hW_17⟩ : ∃ W, w2.alloc (.cells #[.int .i64 (mgZ z0 x1), .slice a_res2 n_res2 c_res2] 29) = W := ⟨_, rfl⟩
    have E_18 : Ext w2 w3 := by rw [← hW_17]; exact (Ext.refl _).alloc _
    have kb_19 : Bx w3 w2.heap.size (mgZ z0 x1) a_res2 n_res2 c_res2 := by rw [← hW_17]; exact ⟨(World.cell?_alloc_at _ _ _ _ rfl).trans rfl, (World.cell?_alloc_at _ _ _ _ rfl).trans rfl⟩
    rw [hW_17]; clear hW_17
    have X_20 := Ext.trans X_13 E_18
    have X_21 := Ext.trans X_14 E_18
    have X_22 := Ext.trans X_16 E_18
    have X_23 := Ext.refl w3
    refine (to_SS a1 n1 c1 x1 _ (h1.ext X_21) (by have := h1.len; omega) (by omega)).mono ?_
    rintro e w4 ⟨a_c24, n_c24, c_c24, r_c24, rfl, O_25, E_26⟩
    have R_27 := O_25.rd
    have X_28 := Ext.trans X_20 E_26
    have X_29 := Ext.trans X_21 E_26
    have X_30 := Ext.trans X_22 E_26
    have X_31 := Ext.trans X_23 E_26
    have X_32 := Ext.refl w4
    go_wp2_with fail
    refine (implMkg _ _ _ _ x1 _ lo0 hi0 (R_27.ext X_32) t1).mono ?_
    rintro e w5 ⟨a_res5, n_res5, c_res5, r_res5, rfl, O_34, E_33⟩
    have R_35 := O_34.rd
    have X_36 := Ext.trans X_28 E_33
    have X_37 := Ext.trans X_29 E_33
    have X_38 := Ext.trans X_30 E_33
    have X_39 := Ext.trans X_31 E_33
    have X_40 := Ext.trans X_32 E_33
    have X_41 := Ext.refl w5
    have p_42 := (kb_19.ext X_39).1
    have p_43 := (kb_19.ext X_39).2
    have lt_44 : w2.heap.size < w5.heap.size := World.block_lt_of_cell? _ _ p_42
    have lt_44n : w2.heap.size ≠ w5.heap.size := Nat.ne_of_lt lt_44
    go_wp2_with fail
    obtain ⟨w6, hW_45⟩ : ∃ W, w5.alloc (.cells #[.int .i64 (mgZ z0 x1), .slice a_res5 n_res5 c_res5] 29) = W := ⟨_, rfl⟩
    have E_46 : Ext w5 w6 := by rw [← hW_45]; exact (Ext.refl _).alloc _
    have kb_47 : Bx w6 w5.heap.size (mgZ z0 x1) a_res5 n_res5 c_res5 := by rw [← hW_45]; exact ⟨(World.cell?_alloc_at _ _ _ _ rfl).trans rfl, (World.cell?_alloc_at _ _ _ _ rfl).trans rfl⟩
    rw [hW_45]; clear hW_45
    have X_48 := Ext.trans X_36 E_46
    have X_49 := Ext.trans X_37 E_46
    have X_50 := Ext.trans X_38 E_46
    have X_51 := Ext.trans X_39 E_46
    have X_52 := Ext.trans X_40 E_46
    have X_53 := Ext.trans X_41 E_46
    have X_54 := Ext.refl w6
    clear p_42 p_43 lt_44 lt_44n
    have p_55 := (kb_47.ext X_54).1
    have p_56 := (kb_47.ext X_54).2
    have p_57 := (kb_19.ext X_51).1
    have p_58 := (kb_19.ext X_51).2
    refine (eq_G _ _ _ _ _ _ _ _ (mgM z0 x1) (mgM z0 x1) true _ (R_35.ext X_53) (R_12.ext X_50) rfl (by simp)).mono ?_
    rintro e w7 ⟨rfl, Q_59⟩
    clear p_55 p_56 p_57 p_58
    have X_60 := Ext.trans X_48 Q_59
    clear X_48
    have X_61 := Ext.trans X_49 Q_59
    clear X_49
    have X_62 := Ext.trans X_50 Q_59
    clear X_50
    have X_63 := Ext.trans X_51 Q_59
    clear X_51
    have X_64 := Ext.trans X_52 Q_59
    clear X_52
    have X_65 := Ext.trans X_53 Q_59
    clear X_53
    have X_66 := Ext.trans X_54 Q_59
    clear X_54
    go_wp2_with fail
    refine (to_SS a1 n1 c1 x1 _ (h1.ext X_61) (by have := h1.len; omega) (by omega)).mono ?_
    rintro e w8 ⟨a_c67, n_c67, c_c67, r_c67, rfl, O_68, E_69⟩
    have R_70 := O_68.rd
    have X_71 := Ext.trans X_60 E_69
    have X_72 := Ext.trans X_61 E_69
    have X_73 := Ext.trans X_62 E_69
    have X_74 := Ext.trans X_63 E_69
    have X_75 := Ext.trans X_64 E_69
    have X_76 := Ext.trans X_65 E_69
    have X_77 := Ext.trans X_66 E_69
    have X_78 := Ext.refl w8
    go_wp2_with fail
    refine (eq_SS _ _ _ _ _ _ x1 x1 true _ (R_27.ext X_75) (R_70.ext X_78) (by simp)).mono ?_
    rintro e w9 ⟨rfl, Q_79⟩
    have X_80 := Ext.trans X_71 (Q.ext Q_79)
    clear X_71
    have X_81 := Ext.trans X_72 (Q.ext Q_79)
    clear X_72
    have X_82 := Ext.trans X_73 (Q.ext Q_79)
    clear X_73
    have X_83 := Ext.trans X_74 (Q.ext Q_79)
    clear X_74
    have X_84 := Ext.trans X_75 (Q.ext Q_79)
    clear X_75
    have X_85 := Ext.trans X_76 (Q.ext Q_79)
    clear X_76
    have X_86 := Ext.trans X_77 (Q.ext Q_79)
    clear X_77
    have X_87 := Ext.trans X_78 (Q.ext Q_79)
    clear X_78
    go_wp2_with fail
    have O_88 := O_25.ext X_84
    refine (mark_SS _ _ _ _ x1 _ 1 _ O_88 (by omega) (by omega) (by omega)).mono ?_
    rintro e w10 ⟨rfl, O_89, L_90⟩
    have X_91 := Ext.only X_80 L_90 (fun b hb => Nat.le_trans (Ext.size X_20) (O_88.lt hb).1)
    clear X_80
    have X_92 := Ext.only X_81 L_90 (fun b hb => Nat.le_trans (Ext.size X_21) (O_88.lt hb).1)
    clear X_81
    have X_93 := Ext.only X_82 L_90 (fun b hb => Nat.le_trans (Ext.size X_22) (O_88.lt hb).1)
    clear X_82
    have X_94 := Ext.only X_83 L_90 (fun b hb => Nat.le_trans (Ext.size X_23) (O_88.lt hb).1)
    clear X_83
    have O_95 := OwnR.only (O_34.ext X_85) L_90 (fun g hg e => by have y1 := (O_25.lt e).2; have y2 := ((O_34.ext X_85).lt hg).1; have y3 := Ext.size X_32; omega)
    have R_96 := O_95.rd
    have X_97 := Ext.refl w10
    have kb_98 := Bx.only (kb_47.ext X_86) L_90 (fun e => by have y1 := (O_25.lt e).2; have y3 := Ext.size X_40; omega)
    have X_99 := Ext.refl w10
    have R_100 := O_89.rd
    have X_101 := Ext.refl w10
    have p_102 := (kb_98.ext X_99).1
    have p_103 := (kb_98.ext X_99).2
    have p_104 := (kb_19.ext X_94).1
    have p_105 := (kb_19.ext X_94).2
    go_wp2_with fail
    refine (eq_G _ _ _ _ _ _ _ _ (mgM z0 x1) (mgM z0 x1) true _ (R_96.ext X_97) (R_12.ext X_93) rfl (by simp)).mono ?_
    rintro e w11 ⟨rfl, Q_106⟩
    clear p_102 p_103 p_104 p_105
    have X_107 := Ext.trans X_91 Q_106
    clear X_91
    have X_108 := Ext.trans X_92 Q_106
    clear X_92
    have X_109 := Ext.trans X_93 Q_106
    clear X_93
    have X_110 := Ext.trans X_94 Q_106
    clear X_94
    have X_111 := Ext.trans X_97 Q_106
    clear X_97
    have X_112 := Ext.trans X_99 Q_106
    clear X_99
    have p_113 := (kb_98.ext X_112).1
    have p_114 := (kb_98.ext X_112).2
    go_wp2_with fail
    have O_115 := O_95.ext X_111
    refine (mark_G _ _ _ _ _ (mgM z0 x1) _ 1 _ O_115 (by omega) (by omega) (by omega)).mono ?_
    rintro e w12 ⟨rfl, O_116, L_117⟩
    clear p_113 p_114
    have X_118 := Ext.only X_107 L_117 (fun b hb => Nat.le_trans (Ext.size X_28) (O_115.lt hb).1)
    clear X_107
    have X_119 := Ext.only X_108 L_117 (fun b hb => Nat.le_trans (Ext.size X_29) (O_115.lt hb).1)
    clear X_108
    have X_120 := Ext.only X_109 L_117 (fun b hb => Nat.le_trans (Ext.size X_30) (O_115.lt hb).1)
    clear X_109
    have X_121 := Ext.only X_110 L_117 (fun b hb => Nat.le_trans (Ext.size X_31) (O_115.lt hb).1)
    clear X_110
    have kb_122 := Bx.only (kb_98.ext X_112) L_117 (fun e => by have y1 := (O_34.lt e).2; have y3 := Ext.size X_41; omega)
    have X_123 := Ext.refl w12
    have R_124 := O_116.rd
    have X_125 := Ext.refl w12
    have neg1 : ¬ ((1 : Int) + (tot (mgM z0 x1) : Nat) < 0) := by omega
    have neq1 : ((1 : Int) + (tot (mgM z0 x1) : Nat) != 1 + (tot (mgM z0 x1) : Nat)) = false := by simp
    have p_126 := (kb_122.ext X_123).1
    have p_127 := (kb_122.ext X_123).2
    go_wp2_with fail
    refine (held_G _ _ _ _ (mgM z0 x1) 1 _ (R_124.ext X_125) (by omega) (by omega) (by omega)).mono ?_
    rintro e w13 ⟨rfl, Q_128⟩
    clear p_126 p_127
    have X_129 := Ext.trans X_118 Q_128
    clear X_118
    have X_130 := Ext.trans X_119 Q_128
    clear X_119
    have X_131 := Ext.trans X_120 Q_128
    clear X_120
    have X_132 := Ext.trans X_121 Q_128
    clear X_121
    have X_133 := Ext.trans X_125 Q_128
    clear X_125
    have X_134 := Ext.trans X_123 Q_128
    clear X_123
    go_wp2_with fail
    refine (to_SS a1 n1 c1 x1 _ (h1.ext X_130) (by have := h1.len; omega) (by omega)).mono ?_
    rintro e w14 ⟨a_c135, n_c135, c_c135, r_c135, rfl, O_136, E_137⟩
    have R_138 := O_136.rd
    have X_139 := Ext.trans X_129 E_137
    have X_140 := Ext.trans X_130 E_137
    have X_141 := Ext.trans X_131 E_137
    have X_142 := Ext.trans X_132 E_137
    have X_143 := Ext.trans X_133 E_137
    have X_144 := Ext.trans X_134 E_137
    have X_145 := Ext.refl w14
    go_wp2_with fail
    refine (implMkg _ _ _ _ x1 _ lo0 hi0 (R_138.ext X_145) t1).mono ?_
    rintro e w15 ⟨a_res15, n_res15, c_res15, r_res15, rfl, O_147, E_146⟩
    have R_148 := O_147.rd
    have X_149 := Ext.trans X_139 E_146
    have X_150 := Ext.trans X_140 E_146
    have X_151 := Ext.trans X_141 E_146
    have X_152 := Ext.trans X_142 E_146
    have X_153 := Ext.trans X_143 E_146
    have X_154 := Ext.trans X_144 E_146
    have X_155 := Ext.trans X_145 E_146
    have X_156 := Ext.refl w15
    have p_157 := (kb_19.ext X_152).1
    have p_158 := (kb_19.ext X_152).2
    have lt_159 : w2.heap.size < w15.heap.size := World.block_lt_of_cell? _ _ p_157
    have lt_159n : w2.heap.size ≠ w15.heap.size := Nat.ne_of_lt lt_159
    go_wp2_with fail
    obtain ⟨w16, hW_160⟩ : ∃ W, w15.alloc (.cells #[.int .i64 (mgZ z0 x1), .slice a_res15 n_res15 c_res15] 29) = W := ⟨_, rfl⟩
    have E_161 : Ext w15 w16 := by rw [← hW_160]; exact (Ext.refl _).alloc _
    have kb_162 : Bx w16 w15.heap.size (mgZ z0 x1) a_res15 n_res15 c_res15 := by rw [← hW_160]; exact ⟨(World.cell?_alloc_at _ _ _ _ rfl).trans rfl, (World.cell?_alloc_at _ _ _ _ rfl).trans rfl⟩
    rw [hW_160]; clear hW_160
    have X_163 := Ext.trans X_149 E_161
    have X_164 := Ext.trans X_150 E_161
    have X_165 := Ext.trans X_151 E_161
    have X_166 := Ext.trans X_152 E_161
    have X_167 := Ext.trans X_153 E_161
    have X_168 := Ext.trans X_154 E_161
    have X_169 := Ext.trans X_156 E_161
    have X_170 := Ext.refl w16
    clear p_157 p_158 lt_159 lt_159n
    have p_171 := (kb_162.ext X_170).1
    have p_172 := (kb_162.ext X_170).2
    have p_173 := (kb_19.ext X_166).1
    have p_174 := (kb_19.ext X_166).2
    refine (eq_G _ _ _ _ _ _ _ _ (mgM z0 x1) (mgM z0 x1) true _ (R_148.ext X_169) (R_12.ext X_165) rfl (by simp)).mono ?_
    rintro e w17 ⟨rfl, Q_175⟩
    clear p_171 p_172 p_173 p_174
    have X_176 := Ext.trans X_163 Q_175
    clear X_163
    have X_177 := Ext.trans X_164 Q_175
    clear X_164
    have X_178 := Ext.trans X_165 Q_175
    clear X_165
    have X_179 := Ext.trans X_166 Q_175
    clear X_166
    have X_180 := Ext.trans X_167 Q_175
    clear X_167
    have X_181 := Ext.trans X_168 Q_175
    clear X_168
    have X_182 := Ext.trans X_169 Q_175
    clear X_169
    have X_183 := Ext.trans X_170 Q_175
    clear X_170
    have p_184 := (kb_122.ext X_181).1
    have p_185 := (kb_122.ext X_181).2
    go_wp2_with fail
    refine (held_G _ _ _ _ (mgM z0 x1) 1 _ (R_124.ext X_180) (by omega) (by omega) (by omega)).mono ?_
    rintro e w18 ⟨rfl, Q_186⟩
    clear p_184 p_185
    have X_187 := Ext.trans X_176 Q_186
    clear X_176
    have X_188 := Ext.trans X_177 Q_186
    clear X_177
    have X_189 := Ext.trans X_178 Q_186
    clear X_178
    have X_190 := Ext.trans X_179 Q_186
    clear X_179
    have X_191 := Ext.trans X_180 Q_186
    clear X_180
    have X_192 := Ext.trans X_181 Q_186
    clear X_181
    have X_193 := Ext.trans X_182 Q_186
    clear X_182
    have X_194 := Ext.trans X_183 Q_186
    clear X_183
    go_wp2
    go_ret
    exact ⟨rfl, X_187⟩
  · skip
    go_enter Try.func6, Try.ntmps6
    go_wp2_with fail
    refine (sz_no _ _ _ x1 1048576 _ h1 (by omega) (by omega) (by omega)).mono ?_
    rintro e w' ⟨rfl, rfl⟩
    go_wp2
    go_ret
    exact ⟨rfl, Ext.refl _⟩
end Go.Proofs.Ytjlfngnmmmaefaa
