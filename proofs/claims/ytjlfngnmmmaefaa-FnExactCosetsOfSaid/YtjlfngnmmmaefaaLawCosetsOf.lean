/- The walk of the law FnExactCosetsOf: it returns true. Conditions: none. -/
import Derived.Test.YtjlfngnmmmaefaaCos
import Derived.Test.YtjlfngnmmmaefaaCoss
import Derived.Test.YtjlfngnmmmaefaaGrp
import Derived.Test.YtjlfngnmmmaefaaTo
import Derived.Test.YtjlfngnmmmaefaaEq
import Derived.Test.YtjlfngnmmmaefaaMark
import Derived.Test.YtjlfngnmmmaefaaSz
namespace Go.Proofs.Ytjlfngnmmmaefaa
open Go.RowKit

set_option maxRecDepth 100000 in
set_option maxHeartbeats 3200000 in
theorem lawCosetsOf (z0 : Int) (a0 : Option Addr) (n0 c0 : Nat) (x0 : List (List Int)) (z1 : Int) (a1 : Option Addr) (n1 c1 : Nat) (x1 : List (List Int)) (w : World) (lo0 : -9223372036854775808 ≤ z0) (hi0 : z0 ≤ 9223372036854775807) (h0 : RdR w a0 n0 c0 x0) (lo1 : -9223372036854775808 ≤ z1) (hi1 : z1 ≤ 9223372036854775807) (h1 : RdR w a1 n1 c1 x1) :
    Calls Try.prog 12 #[.agg #[.int .i64 z0, .slice a0 n0 c0], .agg #[.int .i64 z1, .slice a1 n1 c1]] w fun e w' => e = .returned (.bool true) ∧ Ext w w' := by
  by_cases s0 : ((x0.length + tot x0 : Nat) : Int) ≤ 1048576
  · obtain ⟨l0, hl0⟩ : ∃ l : Int, 1048576 - ((x0.length + tot x0 : Nat) : Int) = l := ⟨_, rfl⟩
    have b0 : 0 ≤ l0 ∧ l0 ≤ 1048576 := by omega
    obtain ⟨bl0, bh0⟩ := b0
    have Hl0 := Lib.hid hl0
    have t0 : x0.length + tot x0 ≤ 1048576 := by omega
    clear hl0 s0
    by_cases s1 : ((x1.length + tot x1 : Nat) : Int) ≤ l0
    · obtain ⟨l1, hl1⟩ : ∃ l : Int, l0 - ((x1.length + tot x1 : Nat) : Int) = l := ⟨_, rfl⟩
      have b1 : 0 ≤ l1 ∧ l1 ≤ 1048576 := by omega
      obtain ⟨bl1, bh1⟩ := b1
      have Hl1 := Lib.hid hl1
      have t1 : x1.length + tot x1 ≤ 1048576 := by omega
      clear hl1 s1
      have sc0 : (csC z0 x0 z1 x1 != csC z0 x0 z1 x1) = false := by simp
      have bnd := csM_tot z0 x0 z1 x1
      go_enter Try.func12, Try.ntmps12
      go_wp2_with fail
      obtain ⟨W, hW⟩ : ∃ W, ((w.alloc (.cells #[.int .i64 z0, .slice a0 n0 c0] 24)).alloc (.cells #[.int .i64 z1, .slice a1 n1 c1] 24)) = W := ⟨_, rfl⟩
      have XW : Ext w W := by rw [← hW]; exact ((Ext.refl _).alloc _).alloc _
      have kb0 : Bx W (w.heap.size) z0 a0 n0 c0 := by rw [← hW]; exact ⟨(World.cell?_alloc_past _ _ _ (by simp)).trans ((World.cell?_alloc_at _ _ _ _ rfl).trans rfl), (World.cell?_alloc_past _ _ _ (by simp)).trans ((World.cell?_alloc_at _ _ _ _ rfl).trans rfl)⟩
      have kb1 : Bx W (w.heap.size + 1) z1 a1 n1 c1 := by rw [← hW]; exact ⟨(World.cell?_alloc_at _ _ _ _ (by simp)).trans rfl, (World.cell?_alloc_at _ _ _ _ (by simp)).trans rfl⟩
      rw [hW]; clear hW
      have R_1 := h0.ext XW
      have X_2 := Ext.refl W
      have R_3 := h1.ext XW
      have X_4 := Ext.refl W
      have X_5 := Ext.refl W
      have X_6 := Ext.refl W
      refine (szG_ok _ _ _ _ x0 1048576 _ (R_1.ext X_2) _ (by omega) (by omega) Hl0.out).mono ?_
      rintro e w1 ⟨rfl, E_7⟩
      have X_8 := Ext.trans XW E_7
      have X_9 := Ext.trans X_2 E_7
      clear X_2
      have X_10 := Ext.trans X_4 E_7
      clear X_4
      have X_11 := Ext.trans X_5 E_7
      clear X_5
      have X_12 := Ext.trans X_6 E_7
      clear X_6
      have p_13 := (kb1.ext X_12).1
      have p_14 := (kb1.ext X_12).2
      go_wp2_with fail
      refine (szG_ok _ _ _ _ x1 l0 _ (R_3.ext X_10) _ (by omega) (by omega) Hl1.out).mono ?_
      rintro e w2 ⟨rfl, E_15⟩
      have X_16 := Ext.trans X_8 E_15
      clear X_8
      have X_17 := Ext.trans X_9 E_15
      clear X_9
      have X_18 := Ext.trans X_10 E_15
      clear X_10
      have X_19 := Ext.trans X_11 E_15
      clear X_11
      have X_20 := Ext.trans X_12 E_15
      clear X_12
      clear p_13 p_14
      have p_21 := (kb0.ext X_19).1
      have p_22 := (kb0.ext X_19).2
      have p_23 := (kb1.ext X_20).1
      have p_24 := (kb1.ext X_20).2
      go_wp2_with fail
      have s_25a : n0 ≤ 1048576 := by have := h0.len; omega
      have s_25b : tot x0 ≤ 1048576 := by omega
      have s_26a : n1 ≤ 1048576 := by have := h1.len; omega
      have s_26b : tot x1 ≤ 1048576 := by omega
      go_region_held3 (fun w' => w'.cell? ⟨(w.heap.size), 0, none⟩ = some (.int .i64 z0) ∧ w'.cell? ⟨(w.heap.size), 1, none⟩ = some (.slice a0 n0 c0) ∧ w'.cell? ⟨(w.heap.size + 1), 0, none⟩ = some (.int .i64 z1) ∧ w'.cell? ⟨(w.heap.size + 1), 1, none⟩ = some (.slice a1 n1 c1))
        (first | exact ⟨p_21, p_22, p_23, p_24⟩ | exact ⟨Ext.cell ((Ext.refl _).drew) p_21, Ext.cell ((Ext.refl _).drew) p_22, Ext.cell ((Ext.refl _).drew) p_23, Ext.cell ((Ext.refl _).drew) p_24⟩ | exact ⟨Ext.cell (Ext.trans ((Ext.refl _).drew) E_28) p_21, Ext.cell (Ext.trans ((Ext.refl _).drew) E_28) p_22, Ext.cell (Ext.trans ((Ext.refl _).drew) E_28) p_23, Ext.cell (Ext.trans ((Ext.refl _).drew) E_28) p_24⟩ | exact ⟨Ext.cell (Ext.trans ((Ext.refl _).drew) E_31) p_21, Ext.cell (Ext.trans ((Ext.refl _).drew) E_31) p_22, Ext.cell (Ext.trans ((Ext.refl _).drew) E_31) p_23, Ext.cell (Ext.trans ((Ext.refl _).drew) E_31) p_24⟩ | exact ⟨Ext.cell (Ext.trans (Ext.trans ((Ext.refl _).drew) E_28) E_31) p_21, Ext.cell (Ext.trans (Ext.trans ((Ext.refl _).drew) E_28) E_31) p_22, Ext.cell (Ext.trans (Ext.trans ((Ext.refl _).drew) E_28) E_31) p_23, Ext.cell (Ext.trans (Ext.trans ((Ext.refl _).drew) E_28) E_31) p_24⟩ | exact ⟨Ext.cell (Ext.trans (Ext.trans ((Ext.refl _).drew) E_31) E_28) p_21, Ext.cell (Ext.trans (Ext.trans ((Ext.refl _).drew) E_31) E_28) p_22, Ext.cell (Ext.trans (Ext.trans ((Ext.refl _).drew) E_31) E_28) p_23, Ext.cell (Ext.trans (Ext.trans ((Ext.refl _).drew) E_31) E_28) p_24⟩ | exact ⟨Ext.cell (Ext.trans (Ext.trans (Ext.trans ((Ext.refl _).drew) E_28) E_31) E_33) p_21, Ext.cell (Ext.trans (Ext.trans (Ext.trans ((Ext.refl _).drew) E_28) E_31) E_33) p_22, Ext.cell (Ext.trans (Ext.trans (Ext.trans ((Ext.refl _).drew) E_28) E_31) E_33) p_23, Ext.cell (Ext.trans (Ext.trans (Ext.trans ((Ext.refl _).drew) E_28) E_31) E_33) p_24⟩ | exact ⟨Ext.cell (Ext.trans (Ext.trans (Ext.trans ((Ext.refl _).drew) E_31) E_28) E_33) p_21, Ext.cell (Ext.trans (Ext.trans (Ext.trans ((Ext.refl _).drew) E_31) E_28) E_33) p_22, Ext.cell (Ext.trans (Ext.trans (Ext.trans ((Ext.refl _).drew) E_31) E_28) E_33) p_23, Ext.cell (Ext.trans (Ext.trans (Ext.trans ((Ext.refl _).drew) E_31) E_28) E_33) p_24⟩)
        (first
          | (go_at_call 15; (with_reducible refine (to_G z0 a0 n0 c0 x0 _ ((R_1.ext X_17).ext ((Ext.refl _).drew)) s_25a s_25b).mono ?_); rintro e w3 ⟨aq_29, nq_29, cq_29, rq_29, rfl, O_27, E_28⟩)
          | (go_at_call 15; (with_reducible refine (to_G z0 a0 n0 c0 x0 _ ((R_1.ext X_17).ext (Ext.trans ((Ext.refl _).drew) E_31)) s_25a s_25b).mono ?_); rintro e w3 ⟨aq_29, nq_29, cq_29, rq_29, rfl, O_27, E_28⟩)
          | (go_at_call 15; (with_reducible refine (to_G z1 a1 n1 c1 x1 _ ((R_3.ext X_18).ext ((Ext.refl _).drew)) s_26a s_26b).mono ?_); rintro e w4 ⟨aq_32, nq_32, cq_32, rq_32, rfl, O_30, E_31⟩)
          | (go_at_call 15; (with_reducible refine (to_G z1 a1 n1 c1 x1 _ ((R_3.ext X_18).ext (Ext.trans ((Ext.refl _).drew) E_28)) s_26a s_26b).mono ?_); rintro e w4 ⟨aq_32, nq_32, cq_32, rq_32, rfl, O_30, E_31⟩)
          | (go_at_call 45; (with_reducible refine (specCos _ _ _ _ x0 _ _ _ _ x1 _ (O_27.rd.ext E_31) t0 lo0 hi0 (O_30.rd) t1 lo1 hi1).mono ?_); rintro e w5 ⟨a_res5, n_res5, c_res5, r_res5, rfl, O_34, E_33⟩)
          | (go_at_call 45; (with_reducible refine (specCos _ _ _ _ x0 _ _ _ _ x1 _ (O_27.rd) t0 lo0 hi0 (O_30.rd.ext E_28) t1 lo1 hi1).mono ?_); rintro e w5 ⟨a_res5, n_res5, c_res5, r_res5, rfl, O_34, E_33⟩))
      all_goals (
        have E_35 : Ext w2 w5 := by first | exact (Ext.trans (Ext.trans (Ext.trans ((Ext.refl _).drew) E_28) E_31) E_33) | exact (Ext.trans (Ext.trans (Ext.trans ((Ext.refl _).drew) E_31) E_28) E_33)
        clear p_21 p_22 p_23 p_24
        have O_36 := O_34.base (show w2.heap.size ≤ _ by first | exact Ext.size (Ext.trans (Ext.trans ((Ext.refl _).drew) E_28) E_31) | exact Ext.size (Ext.trans (Ext.trans ((Ext.refl _).drew) E_31) E_28))
        have R_37 := O_36.rd
        have X_38 := Ext.trans X_16 E_35
        have X_39 := Ext.trans X_17 E_35
        have X_40 := Ext.trans X_18 E_35
        have X_41 := Ext.trans X_19 E_35
        have X_42 := Ext.trans X_20 E_35
        have X_43 := Ext.refl w5
        have p_44 := (kb0.ext X_41).1
        have p_45 := (kb0.ext X_41).2
        go_wp2_with fail
        refine (to_G z0 a0 n0 c0 x0 _ (R_1.ext X_39) (by have := h0.len; omega) (by omega)).mono ?_
        rintro e w6 ⟨a_c46, n_c46, c_c46, r_c46, rfl, O_47, E_48⟩
        clear p_44 p_45
        have R_49 := O_47.rd
        have X_50 := Ext.trans X_38 E_48
        have X_51 := Ext.trans X_39 E_48
        have X_52 := Ext.trans X_40 E_48
        have X_53 := Ext.trans X_41 E_48
        have X_54 := Ext.trans X_42 E_48
        have X_55 := Ext.trans X_43 E_48
        have X_56 := Ext.refl w6
        have p_57 := (kb1.ext X_54).1
        have p_58 := (kb1.ext X_54).2
        have lt_59 : (w.heap.size + 1) < w6.heap.size := World.block_lt_of_cell? _ _ p_57
        have lt_59n : (w.heap.size + 1) ≠ w6.heap.size := Nat.ne_of_lt lt_59
        go_wp2_with fail
        obtain ⟨w7, hW_60⟩ : ∃ W, w6.alloc (.cells #[.int .i64 z0, .slice a_c46 n_c46 c_c46] 29) = W := ⟨_, rfl⟩
        have E_61 : Ext w6 w7 := by rw [← hW_60]; exact (Ext.refl _).alloc _
        have kb_62 : Bx w7 w6.heap.size z0 a_c46 n_c46 c_c46 := by rw [← hW_60]; exact ⟨(World.cell?_alloc_at _ _ _ _ rfl).trans rfl, (World.cell?_alloc_at _ _ _ _ rfl).trans rfl⟩
        rw [hW_60]; clear hW_60
        have X_63 := Ext.trans X_50 E_61
        have X_64 := Ext.trans X_51 E_61
        have X_65 := Ext.trans X_52 E_61
        have X_66 := Ext.trans X_53 E_61
        have X_67 := Ext.trans X_54 E_61
        have X_68 := Ext.trans X_55 E_61
        have X_69 := Ext.trans X_56 E_61
        have X_70 := Ext.refl w7
        clear p_57 p_58 lt_59 lt_59n
        have p_71 := (kb1.ext X_67).1
        have p_72 := (kb1.ext X_67).2
        refine (to_G z1 a1 n1 c1 x1 _ (R_3.ext X_65) (by have := h1.len; omega) (by omega)).mono ?_
        rintro e w8 ⟨a_c73, n_c73, c_c73, r_c73, rfl, O_74, E_75⟩
        clear p_71 p_72
        have R_76 := O_74.rd
        have X_77 := Ext.trans X_63 E_75
        have X_78 := Ext.trans X_64 E_75
        have X_79 := Ext.trans X_65 E_75
        have X_80 := Ext.trans X_66 E_75
        have X_81 := Ext.trans X_67 E_75
        have X_82 := Ext.trans X_68 E_75
        have X_83 := Ext.trans X_69 E_75
        have X_84 := Ext.trans X_70 E_75
        have X_85 := Ext.refl w8
        have p_86 := (kb_62.ext X_84).1
        have p_87 := (kb_62.ext X_84).2
        have lt_88 : w6.heap.size < w8.heap.size := World.block_lt_of_cell? _ _ p_86
        have lt_88n : w6.heap.size ≠ w8.heap.size := Nat.ne_of_lt lt_88
        go_wp2_with fail
        obtain ⟨w9, hW_89⟩ : ∃ W, w8.alloc (.cells #[.int .i64 z1, .slice a_c73 n_c73 c_c73] 29) = W := ⟨_, rfl⟩
        have E_90 : Ext w8 w9 := by rw [← hW_89]; exact (Ext.refl _).alloc _
        have kb_91 : Bx w9 w8.heap.size z1 a_c73 n_c73 c_c73 := by rw [← hW_89]; exact ⟨(World.cell?_alloc_at _ _ _ _ rfl).trans rfl, (World.cell?_alloc_at _ _ _ _ rfl).trans rfl⟩
        rw [hW_89]; clear hW_89
        have X_92 := Ext.trans X_77 E_90
        have X_93 := Ext.trans X_78 E_90
        have X_94 := Ext.trans X_79 E_90
        have X_95 := Ext.trans X_80 E_90
        have X_96 := Ext.trans X_81 E_90
        have X_97 := Ext.trans X_82 E_90
        have X_98 := Ext.trans X_83 E_90
        have X_99 := Ext.trans X_84 E_90
        have X_100 := Ext.trans X_85 E_90
        have X_101 := Ext.refl w9
        clear p_86 p_87 lt_88 lt_88n
        have p_102 := (kb_62.ext X_99).1
        have p_103 := (kb_62.ext X_99).2
        have p_104 := (kb_91.ext X_101).1
        have p_105 := (kb_91.ext X_101).2
        refine (implCos _ _ _ _ x0 _ _ _ _ x1 _ (R_49.ext X_98) t0 lo0 hi0 (R_76.ext X_100) t1 lo1 hi1).mono ?_
        rintro e w10 ⟨a_res10, n_res10, c_res10, r_res10, rfl, O_107, E_106⟩
        clear p_102 p_103 p_104 p_105
        have R_108 := O_107.rd
        have X_109 := Ext.trans X_92 E_106
        have X_110 := Ext.trans X_93 E_106
        have X_111 := Ext.trans X_94 E_106
        have X_112 := Ext.trans X_95 E_106
        have X_113 := Ext.trans X_96 E_106
        have X_114 := Ext.trans X_97 E_106
        have X_115 := Ext.trans X_98 E_106
        have X_116 := Ext.trans X_99 E_106
        have X_117 := Ext.trans X_100 E_106
        have X_118 := Ext.trans X_101 E_106
        have X_119 := Ext.refl w10
        go_wp2_with fail
        refine (eq_SS _ _ _ _ _ _ (csM z0 x0 z1 x1) (csM z0 x0 z1 x1) true _ (R_108.ext X_119) (R_37.ext X_114) (by simp)).mono ?_
        rintro e w11 ⟨rfl, Q_120⟩
        have X_121 := Ext.trans X_109 (Q.ext Q_120)
        clear X_109
        have X_122 := Ext.trans X_110 (Q.ext Q_120)
        clear X_110
        have X_123 := Ext.trans X_111 (Q.ext Q_120)
        clear X_111
        have X_124 := Ext.trans X_112 (Q.ext Q_120)
        clear X_112
        have X_125 := Ext.trans X_113 (Q.ext Q_120)
        clear X_113
        have X_126 := Ext.trans X_114 (Q.ext Q_120)
        clear X_114
        have X_127 := Ext.trans X_115 (Q.ext Q_120)
        clear X_115
        have X_128 := Ext.trans X_116 (Q.ext Q_120)
        clear X_116
        have X_129 := Ext.trans X_117 (Q.ext Q_120)
        clear X_117
        have X_130 := Ext.trans X_118 (Q.ext Q_120)
        clear X_118
        have X_131 := Ext.trans X_119 (Q.ext Q_120)
        clear X_119
        have p_132 := (kb_62.ext X_128).1
        have p_133 := (kb_62.ext X_128).2
        have p_134 := (kb0.ext X_124).1
        have p_135 := (kb0.ext X_124).2
        go_wp2_with fail
        go_region_held3 (fun w' => w'.cell? ⟨w6.heap.size, 0, none⟩ = some (.int .i64 z0) ∧ w'.cell? ⟨w6.heap.size, 1, none⟩ = some (.slice a_c46 n_c46 c_c46) ∧ w'.cell? ⟨(w.heap.size), 0, none⟩ = some (.int .i64 z0) ∧ w'.cell? ⟨(w.heap.size), 1, none⟩ = some (.slice a0 n0 c0))
          (first | exact ⟨p_132, p_133, p_134, p_135⟩ | exact ⟨Ext.cell ((Ext.refl _).drew) p_132, Ext.cell ((Ext.refl _).drew) p_133, Ext.cell ((Ext.refl _).drew) p_134, Ext.cell ((Ext.refl _).drew) p_135⟩ | exact ⟨Ext.cell (Ext.trans ((Ext.refl _).drew) E_137) p_132, Ext.cell (Ext.trans ((Ext.refl _).drew) E_137) p_133, Ext.cell (Ext.trans ((Ext.refl _).drew) E_137) p_134, Ext.cell (Ext.trans ((Ext.refl _).drew) E_137) p_135⟩ | exact ⟨Ext.cell (Ext.trans (Ext.trans ((Ext.refl _).drew) E_137) E_139) p_132, Ext.cell (Ext.trans (Ext.trans ((Ext.refl _).drew) E_137) E_139) p_133, Ext.cell (Ext.trans (Ext.trans ((Ext.refl _).drew) E_137) E_139) p_134, Ext.cell (Ext.trans (Ext.trans ((Ext.refl _).drew) E_137) E_139) p_135⟩)
          (first
            | (go_at_call 15; refine (to_G z0 a0 n0 c0 x0 _ ((R_1.ext X_122).ext ((Ext.refl _).drew)) (by have := h0.len; omega) (by omega)).mono ?_; rintro e w12 ⟨aq_138, nq_138, cq_138, rq_138, rfl, O_136, E_137⟩)
            | (go_at_call 18; refine (eq_G _ _ _ _ _ _ _ _ x0 x0 true _ ((R_49.ext X_127).ext (Ext.trans ((Ext.refl _).drew) E_137)) O_136.rd rfl (by simp)).mono ?_; rintro e w13 ⟨rfl, E_139⟩))
        have E_140 : Ext w11 w13 := (Ext.trans (Ext.trans ((Ext.refl _).drew) E_137) E_139)
        clear p_132 p_133 p_134 p_135
        have X_141 := Ext.trans X_121 E_140
        clear X_121
        have X_142 := Ext.trans X_122 E_140
        clear X_122
        have X_143 := Ext.trans X_123 E_140
        clear X_123
        have X_144 := Ext.trans X_124 E_140
        clear X_124
        have X_145 := Ext.trans X_125 E_140
        clear X_125
        have X_146 := Ext.trans X_126 E_140
        clear X_126
        have X_147 := Ext.trans X_127 E_140
        clear X_127
        have X_148 := Ext.trans X_128 E_140
        clear X_128
        have X_149 := Ext.trans X_129 E_140
        clear X_129
        have X_150 := Ext.trans X_130 E_140
        clear X_130
        have X_151 := Ext.trans X_131 E_140
        clear X_131
        have p_152 := (kb_91.ext X_150).1
        have p_153 := (kb_91.ext X_150).2
        have p_154 := (kb1.ext X_145).1
        have p_155 := (kb1.ext X_145).2
        go_wp2_with fail
        go_region_held3 (fun w' => w'.cell? ⟨w8.heap.size, 0, none⟩ = some (.int .i64 z1) ∧ w'.cell? ⟨w8.heap.size, 1, none⟩ = some (.slice a_c73 n_c73 c_c73) ∧ w'.cell? ⟨(w.heap.size + 1), 0, none⟩ = some (.int .i64 z1) ∧ w'.cell? ⟨(w.heap.size + 1), 1, none⟩ = some (.slice a1 n1 c1))
          (first | exact ⟨p_152, p_153, p_154, p_155⟩ | exact ⟨Ext.cell ((Ext.refl _).drew) p_152, Ext.cell ((Ext.refl _).drew) p_153, Ext.cell ((Ext.refl _).drew) p_154, Ext.cell ((Ext.refl _).drew) p_155⟩ | exact ⟨Ext.cell (Ext.trans ((Ext.refl _).drew) E_157) p_152, Ext.cell (Ext.trans ((Ext.refl _).drew) E_157) p_153, Ext.cell (Ext.trans ((Ext.refl _).drew) E_157) p_154, Ext.cell (Ext.trans ((Ext.refl _).drew) E_157) p_155⟩ | exact ⟨Ext.cell (Ext.trans (Ext.trans ((Ext.refl _).drew) E_157) E_159) p_152, Ext.cell (Ext.trans (Ext.trans ((Ext.refl _).drew) E_157) E_159) p_153, Ext.cell (Ext.trans (Ext.trans ((Ext.refl _).drew) E_157) E_159) p_154, Ext.cell (Ext.trans (Ext.trans ((Ext.refl _).drew) E_157) E_159) p_155⟩)
          (first
            | (go_at_call 15; refine (to_G z1 a1 n1 c1 x1 _ ((R_3.ext X_143).ext ((Ext.refl _).drew)) (by have := h1.len; omega) (by omega)).mono ?_; rintro e w14 ⟨aq_158, nq_158, cq_158, rq_158, rfl, O_156, E_157⟩)
            | (go_at_call 18; refine (eq_G _ _ _ _ _ _ _ _ x1 x1 true _ ((R_76.ext X_149).ext (Ext.trans ((Ext.refl _).drew) E_157)) O_156.rd rfl (by simp)).mono ?_; rintro e w15 ⟨rfl, E_159⟩))
        have E_160 : Ext w13 w15 := (Ext.trans (Ext.trans ((Ext.refl _).drew) E_157) E_159)
        clear p_152 p_153 p_154 p_155
        have X_161 := Ext.trans X_141 E_160
        clear X_141
        have X_162 := Ext.trans X_142 E_160
        clear X_142
        have X_163 := Ext.trans X_143 E_160
        clear X_143
        have X_164 := Ext.trans X_144 E_160
        clear X_144
        have X_165 := Ext.trans X_145 E_160
        clear X_145
        have X_166 := Ext.trans X_146 E_160
        clear X_146
        have X_167 := Ext.trans X_147 E_160
        clear X_147
        have X_168 := Ext.trans X_148 E_160
        clear X_148
        have X_169 := Ext.trans X_149 E_160
        clear X_149
        have X_170 := Ext.trans X_150 E_160
        clear X_150
        have X_171 := Ext.trans X_151 E_160
        clear X_151
        have p_172 := (kb_62.ext X_168).1
        have p_173 := (kb_62.ext X_168).2
        go_wp2_with fail
        have O_174 := O_47.ext X_167
        refine (mark_G _ _ _ _ _ x0 _ 1 _ O_174 (by omega) (by omega) (by omega)).mono ?_
        rintro e w16 ⟨rfl, O_175, L_176⟩
        clear p_172 p_173
        have X_177 := Ext.only X_161 L_176 (fun b hb => Nat.le_trans (Ext.size X_38) (O_174.lt hb).1)
        clear X_161
        have X_178 := Ext.only X_162 L_176 (fun b hb => Nat.le_trans (Ext.size X_39) (O_174.lt hb).1)
        clear X_162
        have X_179 := Ext.only X_163 L_176 (fun b hb => Nat.le_trans (Ext.size X_40) (O_174.lt hb).1)
        clear X_163
        have X_180 := Ext.only X_164 L_176 (fun b hb => Nat.le_trans (Ext.size X_41) (O_174.lt hb).1)
        clear X_164
        have X_181 := Ext.only X_165 L_176 (fun b hb => Nat.le_trans (Ext.size X_42) (O_174.lt hb).1)
        clear X_165
        have X_182 := Ext.only X_166 L_176 (fun b hb => Nat.le_trans (Ext.size X_43) (O_174.lt hb).1)
        clear X_166
        have kb_183 := Bx.only (kb_62.ext X_168) L_176 (fun e => by have y1 := (O_47.lt e).2; have y3 := Ext.size X_56; omega)
        have X_184 := Ext.refl w16
        have O_185 := OwnR.only (O_74.ext X_169) L_176 (fun g hg e => by have y1 := (O_47.lt e).2; have y2 := ((O_74.ext X_169).lt hg).1; have y3 := Ext.size X_69; omega)
        have R_186 := O_185.rd
        have X_187 := Ext.refl w16
        have kb_188 := Bx.only (kb_91.ext X_170) L_176 (fun e => by have y1 := (O_47.lt e).2; have y3 := Ext.size X_83; omega)
        have X_189 := Ext.refl w16
        have O_190 := OwnR.only (O_107.ext X_171) L_176 (fun g hg e => by have y1 := (O_47.lt e).2; have y2 := ((O_107.ext X_171).lt hg).1; have y3 := Ext.size X_98; omega)
        have R_191 := O_190.rd
        have X_192 := Ext.refl w16
        have R_193 := O_175.rd
        have X_194 := Ext.refl w16
        have p_195 := (kb_188.ext X_189).1
        have p_196 := (kb_188.ext X_189).2
        go_wp2_with fail
        have O_197 := O_185.ext X_187
        refine (mark_G _ _ _ _ _ x1 _ (1 + (tot x0 : Nat)) _ O_197 (by omega) (by omega) (by omega)).mono ?_
        rintro e w17 ⟨rfl, O_198, L_199⟩
        clear p_195 p_196
        have X_200 := Ext.only X_177 L_199 (fun b hb => Nat.le_trans (Ext.size X_63) (O_197.lt hb).1)
        clear X_177
        have X_201 := Ext.only X_178 L_199 (fun b hb => Nat.le_trans (Ext.size X_64) (O_197.lt hb).1)
        clear X_178
        have X_202 := Ext.only X_179 L_199 (fun b hb => Nat.le_trans (Ext.size X_65) (O_197.lt hb).1)
        clear X_179
        have X_203 := Ext.only X_180 L_199 (fun b hb => Nat.le_trans (Ext.size X_66) (O_197.lt hb).1)
        clear X_180
        have X_204 := Ext.only X_181 L_199 (fun b hb => Nat.le_trans (Ext.size X_67) (O_197.lt hb).1)
        clear X_181
        have X_205 := Ext.only X_182 L_199 (fun b hb => Nat.le_trans (Ext.size X_68) (O_197.lt hb).1)
        clear X_182
        have kb_206 := Bx.only (kb_188.ext X_189) L_199 (fun e => by have y1 := (O_74.lt e).2; have y3 := Ext.size X_85; omega)
        have X_207 := Ext.refl w17
        have O_208 := OwnR.only (O_190.ext X_192) L_199 (fun g hg e => by have y1 := (O_74.lt e).2; have y2 := ((O_190.ext X_192).lt hg).1; have y3 := Ext.size X_100; omega)
        have R_209 := O_208.rd
        have X_210 := Ext.refl w17
        have R_211 := O_198.rd
        have X_212 := Ext.refl w17
        go_wp2_with fail
        refine (eq_SS _ _ _ _ _ _ (csM z0 x0 z1 x1) (csM z0 x0 z1 x1) true _ (R_209.ext X_210) (R_37.ext X_205) (by simp)).mono ?_
        rintro e w18 ⟨rfl, Q_213⟩
        have X_214 := Ext.trans X_200 (Q.ext Q_213)
        clear X_200
        have X_215 := Ext.trans X_201 (Q.ext Q_213)
        clear X_201
        have X_216 := Ext.trans X_202 (Q.ext Q_213)
        clear X_202
        have X_217 := Ext.trans X_203 (Q.ext Q_213)
        clear X_203
        have X_218 := Ext.trans X_204 (Q.ext Q_213)
        clear X_204
        have X_219 := Ext.trans X_205 (Q.ext Q_213)
        clear X_205
        have X_220 := Ext.trans X_210 (Q.ext Q_213)
        clear X_210
        go_wp2_with fail
        have O_221 := O_208.ext X_220
        refine (mark_SS _ _ _ _ (csM z0 x0 z1 x1) _ 1 _ O_221 (by omega) (by omega) (by omega)).mono ?_
        rintro e w19 ⟨rfl, O_222, L_223⟩
        have X_224 := Ext.only X_214 L_223 (fun b hb => Nat.le_trans (Ext.size X_92) (O_221.lt hb).1)
        clear X_214
        have X_225 := Ext.only X_215 L_223 (fun b hb => Nat.le_trans (Ext.size X_93) (O_221.lt hb).1)
        clear X_215
        have X_226 := Ext.only X_216 L_223 (fun b hb => Nat.le_trans (Ext.size X_94) (O_221.lt hb).1)
        clear X_216
        have X_227 := Ext.only X_217 L_223 (fun b hb => Nat.le_trans (Ext.size X_95) (O_221.lt hb).1)
        clear X_217
        have X_228 := Ext.only X_218 L_223 (fun b hb => Nat.le_trans (Ext.size X_96) (O_221.lt hb).1)
        clear X_218
        have X_229 := Ext.only X_219 L_223 (fun b hb => Nat.le_trans (Ext.size X_97) (O_221.lt hb).1)
        clear X_219
        have R_230 := O_222.rd
        have X_231 := Ext.refl w19
        have neg1 : ¬ ((1 : Int) + (tot (csM z0 x0 z1 x1) : Nat) < 0) := by omega
        have neq1 : ((1 : Int) + (tot (csM z0 x0 z1 x1) : Nat) != 1 + (tot (csM z0 x0 z1 x1) : Nat)) = false := by simp
        go_wp2_with fail
        refine (held_SS _ _ _ (csM z0 x0 z1 x1) 1 _ (R_230.ext X_231) (by omega) (by omega) (by omega)).mono ?_
        rintro e w20 ⟨rfl, Q_232⟩
        have X_233 := Ext.trans X_224 (Q.ext Q_232)
        clear X_224
        have X_234 := Ext.trans X_225 (Q.ext Q_232)
        clear X_225
        have X_235 := Ext.trans X_226 (Q.ext Q_232)
        clear X_226
        have X_236 := Ext.trans X_227 (Q.ext Q_232)
        clear X_227
        have X_237 := Ext.trans X_228 (Q.ext Q_232)
        clear X_228
        have X_238 := Ext.trans X_229 (Q.ext Q_232)
        clear X_229
        have X_239 := Ext.trans X_231 (Q.ext Q_232)
        clear X_231
        have p_240 := (kb0.ext X_236).1
        have p_241 := (kb0.ext X_236).2
        have p_242 := (kb1.ext X_237).1
        have p_243 := (kb1.ext X_237).2
        go_wp2_with fail
        have s_244a : n0 ≤ 1048576 := by have := h0.len; omega
        have s_244b : tot x0 ≤ 1048576 := by omega
        have s_245a : n1 ≤ 1048576 := by have := h1.len; omega
        have s_245b : tot x1 ≤ 1048576 := by omega
        go_region_held3 (fun w' => w'.cell? ⟨(w.heap.size), 0, none⟩ = some (.int .i64 z0) ∧ w'.cell? ⟨(w.heap.size), 1, none⟩ = some (.slice a0 n0 c0) ∧ w'.cell? ⟨(w.heap.size + 1), 0, none⟩ = some (.int .i64 z1) ∧ w'.cell? ⟨(w.heap.size + 1), 1, none⟩ = some (.slice a1 n1 c1))
          (first | exact ⟨p_240, p_241, p_242, p_243⟩ | exact ⟨Ext.cell ((Ext.refl _).drew) p_240, Ext.cell ((Ext.refl _).drew) p_241, Ext.cell ((Ext.refl _).drew) p_242, Ext.cell ((Ext.refl _).drew) p_243⟩ | exact ⟨Ext.cell (Ext.trans ((Ext.refl _).drew) E_247) p_240, Ext.cell (Ext.trans ((Ext.refl _).drew) E_247) p_241, Ext.cell (Ext.trans ((Ext.refl _).drew) E_247) p_242, Ext.cell (Ext.trans ((Ext.refl _).drew) E_247) p_243⟩ | exact ⟨Ext.cell (Ext.trans ((Ext.refl _).drew) E_250) p_240, Ext.cell (Ext.trans ((Ext.refl _).drew) E_250) p_241, Ext.cell (Ext.trans ((Ext.refl _).drew) E_250) p_242, Ext.cell (Ext.trans ((Ext.refl _).drew) E_250) p_243⟩ | exact ⟨Ext.cell (Ext.trans (Ext.trans ((Ext.refl _).drew) E_247) E_250) p_240, Ext.cell (Ext.trans (Ext.trans ((Ext.refl _).drew) E_247) E_250) p_241, Ext.cell (Ext.trans (Ext.trans ((Ext.refl _).drew) E_247) E_250) p_242, Ext.cell (Ext.trans (Ext.trans ((Ext.refl _).drew) E_247) E_250) p_243⟩ | exact ⟨Ext.cell (Ext.trans (Ext.trans ((Ext.refl _).drew) E_250) E_247) p_240, Ext.cell (Ext.trans (Ext.trans ((Ext.refl _).drew) E_250) E_247) p_241, Ext.cell (Ext.trans (Ext.trans ((Ext.refl _).drew) E_250) E_247) p_242, Ext.cell (Ext.trans (Ext.trans ((Ext.refl _).drew) E_250) E_247) p_243⟩ | exact ⟨Ext.cell (Ext.trans (Ext.trans (Ext.trans ((Ext.refl _).drew) E_247) E_250) E_252) p_240, Ext.cell (Ext.trans (Ext.trans (Ext.trans ((Ext.refl _).drew) E_247) E_250) E_252) p_241, Ext.cell (Ext.trans (Ext.trans (Ext.trans ((Ext.refl _).drew) E_247) E_250) E_252) p_242, Ext.cell (Ext.trans (Ext.trans (Ext.trans ((Ext.refl _).drew) E_247) E_250) E_252) p_243⟩ | exact ⟨Ext.cell (Ext.trans (Ext.trans (Ext.trans ((Ext.refl _).drew) E_250) E_247) E_252) p_240, Ext.cell (Ext.trans (Ext.trans (Ext.trans ((Ext.refl _).drew) E_250) E_247) E_252) p_241, Ext.cell (Ext.trans (Ext.trans (Ext.trans ((Ext.refl _).drew) E_250) E_247) E_252) p_242, Ext.cell (Ext.trans (Ext.trans (Ext.trans ((Ext.refl _).drew) E_250) E_247) E_252) p_243⟩)
          (first
            | (go_at_call 15; (with_reducible refine (to_G z0 a0 n0 c0 x0 _ ((R_1.ext X_234).ext ((Ext.refl _).drew)) s_244a s_244b).mono ?_); rintro e w21 ⟨aq_248, nq_248, cq_248, rq_248, rfl, O_246, E_247⟩)
            | (go_at_call 15; (with_reducible refine (to_G z0 a0 n0 c0 x0 _ ((R_1.ext X_234).ext (Ext.trans ((Ext.refl _).drew) E_250)) s_244a s_244b).mono ?_); rintro e w21 ⟨aq_248, nq_248, cq_248, rq_248, rfl, O_246, E_247⟩)
            | (go_at_call 15; (with_reducible refine (to_G z1 a1 n1 c1 x1 _ ((R_3.ext X_235).ext ((Ext.refl _).drew)) s_245a s_245b).mono ?_); rintro e w22 ⟨aq_251, nq_251, cq_251, rq_251, rfl, O_249, E_250⟩)
            | (go_at_call 15; (with_reducible refine (to_G z1 a1 n1 c1 x1 _ ((R_3.ext X_235).ext (Ext.trans ((Ext.refl _).drew) E_247)) s_245a s_245b).mono ?_); rintro e w22 ⟨aq_251, nq_251, cq_251, rq_251, rfl, O_249, E_250⟩)
            | (go_at_call 46; (with_reducible refine (implCos _ _ _ _ x0 _ _ _ _ x1 _ (O_246.rd.ext E_250) t0 lo0 hi0 (O_249.rd) t1 lo1 hi1).mono ?_); rintro e w23 ⟨a_res23, n_res23, c_res23, r_res23, rfl, O_253, E_252⟩)
            | (go_at_call 46; (with_reducible refine (implCos _ _ _ _ x0 _ _ _ _ x1 _ (O_246.rd) t0 lo0 hi0 (O_249.rd.ext E_247) t1 lo1 hi1).mono ?_); rintro e w23 ⟨a_res23, n_res23, c_res23, r_res23, rfl, O_253, E_252⟩))
        all_goals (
          have E_254 : Ext w20 w23 := by first | exact (Ext.trans (Ext.trans (Ext.trans ((Ext.refl _).drew) E_247) E_250) E_252) | exact (Ext.trans (Ext.trans (Ext.trans ((Ext.refl _).drew) E_250) E_247) E_252)
          clear p_240 p_241 p_242 p_243
          have O_255 := O_253.base (show w20.heap.size ≤ _ by first | exact Ext.size (Ext.trans (Ext.trans ((Ext.refl _).drew) E_247) E_250) | exact Ext.size (Ext.trans (Ext.trans ((Ext.refl _).drew) E_250) E_247))
          have R_256 := O_255.rd
          have X_257 := Ext.trans X_233 E_254
          have X_258 := Ext.trans X_234 E_254
          have X_259 := Ext.trans X_235 E_254
          have X_260 := Ext.trans X_236 E_254
          have X_261 := Ext.trans X_237 E_254
          have X_262 := Ext.trans X_238 E_254
          have X_263 := Ext.trans X_239 E_254
          have X_264 := Ext.refl w23
          go_wp2_with fail
          refine (eq_SS _ _ _ _ _ _ (csM z0 x0 z1 x1) (csM z0 x0 z1 x1) true _ (R_256.ext X_264) (R_37.ext X_262) (by simp)).mono ?_
          rintro e w24 ⟨rfl, Q_265⟩
          have X_266 := Ext.trans X_257 (Q.ext Q_265)
          clear X_257
          have X_267 := Ext.trans X_258 (Q.ext Q_265)
          clear X_258
          have X_268 := Ext.trans X_259 (Q.ext Q_265)
          clear X_259
          have X_269 := Ext.trans X_260 (Q.ext Q_265)
          clear X_260
          have X_270 := Ext.trans X_261 (Q.ext Q_265)
          clear X_261
          have X_271 := Ext.trans X_262 (Q.ext Q_265)
          clear X_262
          have X_272 := Ext.trans X_263 (Q.ext Q_265)
          clear X_263
          have X_273 := Ext.trans X_264 (Q.ext Q_265)
          clear X_264
          go_wp2_with fail
          refine (held_SS _ _ _ (csM z0 x0 z1 x1) 1 _ (R_230.ext X_272) (by omega) (by omega) (by omega)).mono ?_
          rintro e w25 ⟨rfl, Q_274⟩
          have X_275 := Ext.trans X_266 (Q.ext Q_274)
          clear X_266
          have X_276 := Ext.trans X_267 (Q.ext Q_274)
          clear X_267
          have X_277 := Ext.trans X_268 (Q.ext Q_274)
          clear X_268
          have X_278 := Ext.trans X_269 (Q.ext Q_274)
          clear X_269
          have X_279 := Ext.trans X_270 (Q.ext Q_274)
          clear X_270
          have X_280 := Ext.trans X_271 (Q.ext Q_274)
          clear X_271
          have X_281 := Ext.trans X_272 (Q.ext Q_274)
          clear X_272
          have X_282 := Ext.trans X_273 (Q.ext Q_274)
          clear X_273
          go_wp2
          go_ret
          exact ⟨rfl, X_275⟩))
    · skip
      go_enter Try.func12, Try.ntmps12
      go_wp2_with fail
      obtain ⟨W, hW⟩ : ∃ W, ((w.alloc (.cells #[.int .i64 z0, .slice a0 n0 c0] 24)).alloc (.cells #[.int .i64 z1, .slice a1 n1 c1] 24)) = W := ⟨_, rfl⟩
      have XW : Ext w W := by rw [← hW]; exact ((Ext.refl _).alloc _).alloc _
      have kb0 : Bx W (w.heap.size) z0 a0 n0 c0 := by rw [← hW]; exact ⟨(World.cell?_alloc_past _ _ _ (by simp)).trans ((World.cell?_alloc_at _ _ _ _ rfl).trans rfl), (World.cell?_alloc_past _ _ _ (by simp)).trans ((World.cell?_alloc_at _ _ _ _ rfl).trans rfl)⟩
      have kb1 : Bx W (w.heap.size + 1) z1 a1 n1 c1 := by rw [← hW]; exact ⟨(World.cell?_alloc_at _ _ _ _ (by simp)).trans rfl, (World.cell?_alloc_at _ _ _ _ (by simp)).trans rfl⟩
      rw [hW]; clear hW
      refine (szG_ok _ _ _ _ x0 1048576 _ (h0.ext XW) _ (by omega) (by omega) Hl0.out).mono ?_
      rintro e v0 ⟨rfl, F0⟩
      have G0 := Ext.trans XW F0
      have EW := F0
      have p1 := (kb1.ext F0).1
      have r1 := (kb1.ext F0).2
      go_wp2_with fail
      refine (szG_no _ _ _ _ x1 l0 _ (h1.ext G0) (by omega) (by omega) (by omega)).mono ?_
      rintro e v1 ⟨rfl, F1⟩
      have G1 := Ext.trans G0 F1
      go_wp2
      go_ret
      exact ⟨rfl, G1⟩
  · skip
    go_enter Try.func12, Try.ntmps12
    go_wp2_with fail
    obtain ⟨W, hW⟩ : ∃ W, ((w.alloc (.cells #[.int .i64 z0, .slice a0 n0 c0] 24)).alloc (.cells #[.int .i64 z1, .slice a1 n1 c1] 24)) = W := ⟨_, rfl⟩
    have XW : Ext w W := by rw [← hW]; exact ((Ext.refl _).alloc _).alloc _
    have kb0 : Bx W (w.heap.size) z0 a0 n0 c0 := by rw [← hW]; exact ⟨(World.cell?_alloc_past _ _ _ (by simp)).trans ((World.cell?_alloc_at _ _ _ _ rfl).trans rfl), (World.cell?_alloc_past _ _ _ (by simp)).trans ((World.cell?_alloc_at _ _ _ _ rfl).trans rfl)⟩
    have kb1 : Bx W (w.heap.size + 1) z1 a1 n1 c1 := by rw [← hW]; exact ⟨(World.cell?_alloc_at _ _ _ _ (by simp)).trans rfl, (World.cell?_alloc_at _ _ _ _ (by simp)).trans rfl⟩
    rw [hW]; clear hW
    refine (szG_no _ _ _ _ x0 1048576 _ (h0.ext XW) (by omega) (by omega) (by omega)).mono ?_
    rintro e v0 ⟨rfl, F0⟩
    have G0 := Ext.trans XW F0
    have EW := F0
    go_wp2
    go_ret
    exact ⟨rfl, G0⟩
end Go.Proofs.Ytjlfngnmmmaefaa
