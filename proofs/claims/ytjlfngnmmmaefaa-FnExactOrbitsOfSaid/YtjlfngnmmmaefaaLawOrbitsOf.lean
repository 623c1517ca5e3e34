/- The walk of the law FnExactOrbitsOf: it returns true. Conditions: none. -/
import Derived.Test.YtjlfngnmmmaefaaOrs
import Derived.Test.YtjlfngnmmmaefaaGrp
import Derived.Test.YtjlfngnmmmaefaaTo
import Derived.Test.YtjlfngnmmmaefaaEq
import Derived.Test.YtjlfngnmmmaefaaMark
import Derived.Test.YtjlfngnmmmaefaaSz
namespace Go.Proofs.Ytjlfngnmmmaefaa
open Go.RowKit

set_option maxRecDepth 100000 in
set_option maxHeartbeats 3200000 in
theorem lawOrbitsOf (z0 : Int) (a0 : Option Addr) (n0 c0 : Nat) (x0 : List (List Int)) (w : World) (lo0 : -9223372036854775808 ≤ z0) (hi0 : z0 ≤ 9223372036854775807) (h0 : RdR w a0 n0 c0 x0) :
    Calls Try.prog 4 #[.agg #[.int .i64 z0, .slice a0 n0 c0]] w fun e w' => e = .returned (.bool true) ∧ Ext w w' := by
  by_cases s0 : ((x0.length + tot x0 : Nat) : Int) ≤ 1048576
  · obtain ⟨l0, hl0⟩ : ∃ l : Int, 1048576 - ((x0.length + tot x0 : Nat) : Int) = l := ⟨_, rfl⟩
    have b0 : 0 ≤ l0 ∧ l0 ≤ 1048576 := by omega
    obtain ⟨bl0, bh0⟩ := b0
    have Hl0 := Lib.hid hl0
    have t0 : x0.length + tot x0 ≤ 1048576 := by omega
    clear hl0 s0
    have bnd := osM_tot z0 x0
    go_enter Try.func4, Try.ntmps4
    go_wp2_with fail
    obtain ⟨W, hW⟩ : ∃ W, (w.alloc (.cells #[.int .i64 z0, .slice a0 n0 c0] 24)) = W := ⟨_, rfl⟩
    have XW : Ext w W := by rw [← hW]; exact (Ext.refl _).alloc _
    have kb0 : Bx W (w.heap.size) z0 a0 n0 c0 := by rw [← hW]; exact ⟨(World.cell?_alloc_at _ _ _ _ (by simp)).trans rfl, (World.cell?_alloc_at _ _ _ _ (by simp)).trans rfl⟩
    rw [hW]; clear hW
    have R_1 := h0.ext XW
    have X_2 := Ext.refl W
    have X_3 := Ext.refl W
    refine (szG_ok _ _ _ _ x0 1048576 _ (R_1.ext X_2) _ (by omega) (by omega) Hl0.out).mono ?_
    rintro e w1 ⟨rfl, E_4⟩
    have X_5 := Ext.trans XW E_4
    have X_6 := Ext.trans X_2 E_4
    clear X_2
    have X_7 := Ext.trans X_3 E_4
    clear X_3
    have p_8 := (kb0.ext X_7).1
    have p_9 := (kb0.ext X_7).2
    go_wp2_with fail
    refine (to_G z0 a0 n0 c0 x0 _ (R_1.ext X_6) (by have := h0.len; omega) (by omega)).mono ?_
    rintro e w2 ⟨a_c10, n_c10, c_c10, r_c10, rfl, O_11, E_12⟩
    clear p_8 p_9
    have R_13 := O_11.rd
    have X_14 := Ext.trans X_5 E_12
    have X_15 := Ext.trans X_6 E_12
    have X_16 := Ext.trans X_7 E_12
    have X_17 := Ext.refl w2
    go_wp2_with fail
    refine (specOrs _ _ _ _ x0 _ (R_13.ext X_17) t0 lo0 hi0).mono ?_
    rintro e w3 ⟨a_res3, n_res3, c_res3, r_res3, rfl, O_19, E_18⟩
    have R_20 := O_19.rd
    have X_21 := Ext.trans X_14 E_18
    have X_22 := Ext.trans X_15 E_18
    have X_23 := Ext.trans X_16 E_18
    have X_24 := Ext.trans X_17 E_18
    have X_25 := Ext.refl w3
    have p_26 := (kb0.ext X_23).1
    have p_27 := (kb0.ext X_23).2
    go_wp2_with fail
    refine (to_G z0 a0 n0 c0 x0 _ (R_1.ext X_22) (by have := h0.len; omega) (by omega)).mono ?_
    rintro e w4 ⟨a_c28, n_c28, c_c28, r_c28, rfl, O_29, E_30⟩
    clear p_26 p_27
    have R_31 := O_29.rd
    have X_32 := Ext.trans X_21 E_30
    have X_33 := Ext.trans X_22 E_30
    have X_34 := Ext.trans X_23 E_30
    have X_35 := Ext.trans X_25 E_30
    have X_36 := Ext.refl w4
    go_wp2_with fail
    obtain ⟨w5, hW_37⟩ : ∃ W, w4.alloc (.cells #[.int .i64 z0, .slice a_c28 n_c28 c_c28] 29) = W := ⟨_, rfl⟩
    have E_38 : Ext w4 w5 := by rw [← hW_37]; exact (Ext.refl _).alloc _
    have kb_39 : Bx w5 w4.heap.size z0 a_c28 n_c28 c_c28 := by rw [← hW_37]; exact ⟨(World.cell?_alloc_at _ _ _ _ rfl).trans rfl, (World.cell?_alloc_at _ _ _ _ rfl).trans rfl⟩
    rw [hW_37]; clear hW_37
    have X_40 := Ext.trans X_32 E_38
    have X_41 := Ext.trans X_33 E_38
    have X_42 := Ext.trans X_34 E_38
    have X_43 := Ext.trans X_35 E_38
    have X_44 := Ext.trans X_36 E_38
    have X_45 := Ext.refl w5
    have p_46 := (kb_39.ext X_45).1
    have p_47 := (kb_39.ext X_45).2
    refine (implOrs _ _ _ _ x0 _ (R_31.ext X_44) t0 lo0 hi0).mono ?_
    rintro e w6 ⟨a_res6, n_res6, c_res6, r_res6, rfl, O_49, E_48⟩
    clear p_46 p_47
    have R_50 := O_49.rd
    have X_51 := Ext.trans X_40 E_48
    have X_52 := Ext.trans X_41 E_48
    have X_53 := Ext.trans X_42 E_48
    have X_54 := Ext.trans X_43 E_48
    have X_55 := Ext.trans X_44 E_48
    have X_56 := Ext.trans X_45 E_48
    have X_57 := Ext.refl w6
    go_wp2_with fail
    refine (eq_SS _ _ _ _ _ _ (osM z0 x0) (osM z0 x0) true _ (R_50.ext X_57) (R_20.ext X_54) (by simp)).mono ?_
    rintro e w7 ⟨rfl, Q_58⟩
    have X_59 := Ext.trans X_51 (Q.ext Q_58)
    clear X_51
    have X_60 := Ext.trans X_52 (Q.ext Q_58)
    clear X_52
    have X_61 := Ext.trans X_53 (Q.ext Q_58)
    clear X_53
    have X_62 := Ext.trans X_54 (Q.ext Q_58)
    clear X_54
    have X_63 := Ext.trans X_55 (Q.ext Q_58)
    clear X_55
    have X_64 := Ext.trans X_56 (Q.ext Q_58)
    clear X_56
    have X_65 := Ext.trans X_57 (Q.ext Q_58)
    clear X_57
    have p_66 := (kb_39.ext X_64).1
    have p_67 := (kb_39.ext X_64).2
    have p_68 := (kb0.ext X_61).1
    have p_69 := (kb0.ext X_61).2
    go_wp2_with fail
    go_region_held3 (fun w' => w'.cell? ⟨w4.heap.size, 0, none⟩ = some (.int .i64 z0) ∧ w'.cell? ⟨w4.heap.size, 1, none⟩ = some (.slice a_c28 n_c28 c_c28) ∧ w'.cell? ⟨(w.heap.size), 0, none⟩ = some (.int .i64 z0) ∧ w'.cell? ⟨(w.heap.size), 1, none⟩ = some (.slice a0 n0 c0))
      (first | exact ⟨p_66, p_67, p_68, p_69⟩ | exact ⟨Ext.cell ((Ext.refl _).drew) p_66, Ext.cell ((Ext.refl _).drew) p_67, Ext.cell ((Ext.refl _).drew) p_68, Ext.cell ((Ext.refl _).drew) p_69⟩ | exact ⟨Ext.cell (Ext.trans ((Ext.refl _).drew) E_71) p_66, Ext.cell (Ext.trans ((Ext.refl _).drew) E_71) p_67, Ext.cell (Ext.trans ((Ext.refl _).drew) E_71) p_68, Ext.cell (Ext.trans ((Ext.refl _).drew) E_71) p_69⟩ | exact ⟨Ext.cell (Ext.trans (Ext.trans ((Ext.refl _).drew) E_71) E_73) p_66, Ext.cell (Ext.trans (Ext.trans ((Ext.refl _).drew) E_71) E_73) p_67, Ext.cell (Ext.trans (Ext.trans ((Ext.refl _).drew) E_71) E_73) p_68, Ext.cell (Ext.trans (Ext.trans ((Ext.refl _).drew) E_71) E_73) p_69⟩)
      (first
        | (go_at_call 15; refine (to_G z0 a0 n0 c0 x0 _ ((R_1.ext X_60).ext ((Ext.refl _).drew)) (by have := h0.len; omega) (by omega)).mono ?_; rintro e w8 ⟨aq_72, nq_72, cq_72, rq_72, rfl, O_70, E_71⟩)
        | (go_at_call 18; refine (eq_G _ _ _ _ _ _ _ _ x0 x0 true _ ((R_31.ext X_63).ext (Ext.trans ((Ext.refl _).drew) E_71)) O_70.rd rfl (by simp)).mono ?_; rintro e w9 ⟨rfl, E_73⟩))
    have E_74 : Ext w7 w9 := (Ext.trans (Ext.trans ((Ext.refl _).drew) E_71) E_73)
    clear p_66 p_67 p_68 p_69
    have X_75 := Ext.trans X_59 E_74
    clear X_59
    have X_76 := Ext.trans X_60 E_74
    clear X_60
    have X_77 := Ext.trans X_61 E_74
    clear X_61
    have X_78 := Ext.trans X_62 E_74
    clear X_62
    have X_79 := Ext.trans X_63 E_74
    clear X_63
    have X_80 := Ext.trans X_64 E_74
    clear X_64
    have X_81 := Ext.trans X_65 E_74
    clear X_65
    have p_82 := (kb_39.ext X_80).1
    have p_83 := (kb_39.ext X_80).2
    go_wp2_with fail
    have O_84 := O_29.ext X_79
    refine (mark_G _ _ _ _ _ x0 _ 1 _ O_84 (by omega) (by omega) (by omega)).mono ?_
    rintro e w10 ⟨rfl, O_85, L_86⟩
    clear p_82 p_83
    have X_87 := Ext.only X_75 L_86 (fun b hb => Nat.le_trans (Ext.size X_21) (O_84.lt hb).1)
    clear X_75
    have X_88 := Ext.only X_76 L_86 (fun b hb => Nat.le_trans (Ext.size X_22) (O_84.lt hb).1)
    clear X_76
    have X_89 := Ext.only X_77 L_86 (fun b hb => Nat.le_trans (Ext.size X_23) (O_84.lt hb).1)
    clear X_77
    have X_90 := Ext.only X_78 L_86 (fun b hb => Nat.le_trans (Ext.size X_25) (O_84.lt hb).1)
    clear X_78
    have kb_91 := Bx.only (kb_39.ext X_80) L_86 (fun e => by have y1 := (O_29.lt e).2; have y3 := Ext.size X_36; omega)
    have X_92 := Ext.refl w10
    have O_93 := OwnR.only (O_49.ext X_81) L_86 (fun g hg e => by have y1 := (O_29.lt e).2; have y2 := ((O_49.ext X_81).lt hg).1; have y3 := Ext.size X_44; omega)
    have R_94 := O_93.rd
    have X_95 := Ext.refl w10
    have R_96 := O_85.rd
    have X_97 := Ext.refl w10
    go_wp2_with fail
    refine (eq_SS _ _ _ _ _ _ (osM z0 x0) (osM z0 x0) true _ (R_94.ext X_95) (R_20.ext X_90) (by simp)).mono ?_
    rintro e w11 ⟨rfl, Q_98⟩
    have X_99 := Ext.trans X_87 (Q.ext Q_98)
    clear X_87
    have X_100 := Ext.trans X_88 (Q.ext Q_98)
    clear X_88
    have X_101 := Ext.trans X_89 (Q.ext Q_98)
    clear X_89
    have X_102 := Ext.trans X_90 (Q.ext Q_98)
    clear X_90
    have X_103 := Ext.trans X_95 (Q.ext Q_98)
    clear X_95
    go_wp2_with fail
    have O_104 := O_93.ext X_103
    refine (mark_SS _ _ _ _ (osM z0 x0) _ 1 _ O_104 (by omega) (by omega) (by omega)).mono ?_
    rintro e w12 ⟨rfl, O_105, L_106⟩
    have X_107 := Ext.only X_99 L_106 (fun b hb => Nat.le_trans (Ext.size X_40) (O_104.lt hb).1)
    clear X_99
    have X_108 := Ext.only X_100 L_106 (fun b hb => Nat.le_trans (Ext.size X_41) (O_104.lt hb).1)
    clear X_100
    have X_109 := Ext.only X_101 L_106 (fun b hb => Nat.le_trans (Ext.size X_42) (O_104.lt hb).1)
    clear X_101
    have X_110 := Ext.only X_102 L_106 (fun b hb => Nat.le_trans (Ext.size X_43) (O_104.lt hb).1)
    clear X_102
    have R_111 := O_105.rd
    have X_112 := Ext.refl w12
    have neg1 : ¬ ((1 : Int) + (tot (osM z0 x0) : Nat) < 0) := by omega
    have neq1 : ((1 : Int) + (tot (osM z0 x0) : Nat) != 1 + (tot (osM z0 x0) : Nat)) = false := by simp
    go_wp2_with fail
    refine (held_SS _ _ _ (osM z0 x0) 1 _ (R_111.ext X_112) (by omega) (by omega) (by omega)).mono ?_
    rintro e w13 ⟨rfl, Q_113⟩
    have X_114 := Ext.trans X_107 (Q.ext Q_113)
    clear X_107
    have X_115 := Ext.trans X_108 (Q.ext Q_113)
    clear X_108
    have X_116 := Ext.trans X_109 (Q.ext Q_113)
    clear X_109
    have X_117 := Ext.trans X_110 (Q.ext Q_113)
    clear X_110
    have X_118 := Ext.trans X_112 (Q.ext Q_113)
    clear X_112
    have p_119 := (kb0.ext X_116).1
    have p_120 := (kb0.ext X_116).2
    go_wp2_with fail
    refine (to_G z0 a0 n0 c0 x0 _ (R_1.ext X_115) (by have := h0.len; omega) (by omega)).mono ?_
    rintro e w14 ⟨a_c121, n_c121, c_c121, r_c121, rfl, O_122, E_123⟩
    clear p_119 p_120
    have R_124 := O_122.rd
    have X_125 := Ext.trans X_114 E_123
    have X_126 := Ext.trans X_115 E_123
    have X_127 := Ext.trans X_116 E_123
    have X_128 := Ext.trans X_117 E_123
    have X_129 := Ext.trans X_118 E_123
    have X_130 := Ext.refl w14
    go_wp2_with fail
    refine (implOrs _ _ _ _ x0 _ (R_124.ext X_130) t0 lo0 hi0).mono ?_
    rintro e w15 ⟨a_res15, n_res15, c_res15, r_res15, rfl, O_132, E_131⟩
    have R_133 := O_132.rd
    have X_134 := Ext.trans X_125 E_131
    have X_135 := Ext.trans X_126 E_131
    have X_136 := Ext.trans X_127 E_131
    have X_137 := Ext.trans X_128 E_131
    have X_138 := Ext.trans X_129 E_131
    have X_139 := Ext.trans X_130 E_131
    have X_140 := Ext.refl w15
    go_wp2_with fail
    refine (eq_SS _ _ _ _ _ _ (osM z0 x0) (osM z0 x0) true _ (R_133.ext X_140) (R_20.ext X_137) (by simp)).mono ?_
    rintro e w16 ⟨rfl, Q_141⟩
    have X_142 := Ext.trans X_134 (Q.ext Q_141)
    clear X_134
    have X_143 := Ext.trans X_135 (Q.ext Q_141)
    clear X_135
    have X_144 := Ext.trans X_136 (Q.ext Q_141)
    clear X_136
    have X_145 := Ext.trans X_137 (Q.ext Q_141)
    clear X_137
    have X_146 := Ext.trans X_138 (Q.ext Q_141)
    clear X_138
    have X_147 := Ext.trans X_140 (Q.ext Q_141)
    clear X_140
    go_wp2_with fail
    refine (held_SS _ _ _ (osM z0 x0) 1 _ (R_111.ext X_146) (by omega) (by omega) (by omega)).mono ?_
    rintro e w17 ⟨rfl, Q_148⟩
    have X_149 := Ext.trans X_142 (Q.ext Q_148)
    clear X_142
    have X_150 := Ext.trans X_143 (Q.ext Q_148)
    clear X_143
    have X_151 := Ext.trans X_144 (Q.ext Q_148)
    clear X_144
    have X_152 := Ext.trans X_145 (Q.ext Q_148)
    clear X_145
    have X_153 := Ext.trans X_146 (Q.ext Q_148)
    clear X_146
    have X_154 := Ext.trans X_147 (Q.ext Q_148)
    clear X_147
    go_wp2
    go_ret
    exact ⟨rfl, X_149⟩
  · skip
    go_enter Try.func4, Try.ntmps4
    go_wp2_with fail
    obtain ⟨W, hW⟩ : ∃ W, (w.alloc (.cells #[.int .i64 z0, .slice a0 n0 c0] 24)) = W := ⟨_, rfl⟩
    have XW : Ext w W := by rw [← hW]; exact (Ext.refl _).alloc _
    have kb0 : Bx W (w.heap.size) z0 a0 n0 c0 := by rw [← hW]; exact ⟨(World.cell?_alloc_at _ _ _ _ (by simp)).trans rfl, (World.cell?_alloc_at _ _ _ _ (by simp)).trans rfl⟩
    rw [hW]; clear hW
    refine (szG_no _ _ _ _ x0 1048576 _ (h0.ext XW) (by omega) (by omega) (by omega)).mono ?_
    rintro e v0 ⟨rfl, F0⟩
    have G0 := Ext.trans XW F0
    have EW := F0
    go_wp2
    go_ret
    exact ⟨rfl, G0⟩
end Go.Proofs.Ytjlfngnmmmaefaa
