/- The walk of the law FnExactSameGroup: it returns true. Conditions: none. -/
import Derived.Test.YtmcdhhcoofcbiaaSameG
import Derived.Test.YtmcdhhcoofcbiaaGrp
import Derived.Test.YtmcdhhcoofcbiaaSz
import Derived.Test.YtmcdhhcoofcbiaaTo
import Derived.Test.YtmcdhhcoofcbiaaEq
import Derived.Test.YtmcdhhcoofcbiaaMark
namespace Go.Proofs.Ytmcdhhcoofcbiaa
open Go.RowKit

set_option maxRecDepth 100000 in
set_option maxHeartbeats 3200000 in
theorem lawSameGroup (z0 : Int) (a0 : Option Addr) (n0 c0 : Nat) (x0 : List (List Int)) (z1 : Int) (a1 : Option Addr) (n1 c1 : Nat) (x1 : List (List Int)) (w : World) (lo0 : -9223372036854775808 ≤ z0) (hi0 : z0 ≤ 9223372036854775807) (h0 : RdR w a0 n0 c0 x0) (lo1 : -9223372036854775808 ≤ z1) (hi1 : z1 ≤ 9223372036854775807) (h1 : RdR w a1 n1 c1 x1) :
    Calls Try.prog 8 #[.agg #[.int .i64 z0, .slice a0 n0 c0], .agg #[.int .i64 z1, .slice a1 n1 c1]] w fun e w' => e = .returned (.bool true) ∧ Ext w w' := by
  by_cases s0 : ((x0.length + tot x0 : Nat) : Int) ≤ 1048576
  · obtain ⟨l0, hl0⟩ : ∃ l : Int, 1048576 - ((x0.length + tot x0 : Nat) : Int) = l := ⟨_, rfl⟩
    have b0 : 0 ≤ l0 ∧ l0 ≤ 1048576 := by omega
    obtain ⟨bl0, bh0⟩ := b0
    have Hl0 := Lib.hid hl0
    have t0 : x0.length + tot x0 ≤ 1048576 := by omega
    clear hl0 s0
    by_cases s1 : ((x1.length + tot x1 : Nat) : Int) ≤ l0
    · obtain ⟨l1, hl1⟩ : ∃ l : Int, l0 - ((x1.length + tot x1 : Nat) : Int) = l := ⟨_, rfl⟩
      have b1 : 0 ≤ l1 ∧ l1 ≤ 1048576 := by omega
      obtain ⟨bl1, bh1⟩ := b1
      have Hl1 := Lib.hid hl1
      have t1 : x1.length + tot x1 ≤ 1048576 := by omega
      clear hl1 s1
      have sc0 : (pb (z0 = z1 ∧ x0 = x1) != pb (z0 = z1 ∧ x0 = x1)) = false := by simp
      go_enter Try.func8, Try.ntmps8
      go_wp2_with fail
      obtain ⟨W, hW⟩ : ∃ W, ((w.alloc (.cells #[.int .i64 z0, .slice a0 n0 c0] 39)).alloc (.cells #[.int .i64 z1, .slice a1 n1 c1] 39)) = W := ⟨_, rfl⟩
      have XW : Ext w W := by rw [← hW]; exact ((Ext.refl _).alloc _).alloc _
      have kb0 : Bx W (w.heap.size) z0 a0 n0 c0 := by rw [← hW]; exact ⟨(World.cell?_alloc_past _ _ _ (by simp)).trans ((World.cell?_alloc_at _ _ _ _ rfl).trans rfl), (World.cell?_alloc_past _ _ _ (by simp)).trans ((World.cell?_alloc_at _ _ _ _ rfl).trans rfl)⟩
      have kb1 : Bx W (w.heap.size + 1) z1 a1 n1 c1 := by rw [← hW]; exact ⟨(World.cell?_alloc_at _ _ _ _ (by simp)).trans rfl, (World.cell?_alloc_at _ _ _ _ (by simp)).trans rfl⟩
      rw [hW]; clear hW
      have R_1 := h0.ext XW
      have X_2 := Ext.refl W
      have R_3 := h1.ext XW
      have X_4 := Ext.refl W
      have X_5 := Ext.refl W
      have X_6 := Ext.refl W
      refine (szG_ok _ _ _ _ x0 1048576 _ (R_1.ext X_2) _ (by omega) (by omega) Hl0.out).mono ?_
      rintro e w1 ⟨rfl, E_7⟩
      have X_8 := Ext.trans XW E_7
      have X_9 := Ext.trans X_2 E_7
      clear X_2
      have X_10 := Ext.trans X_4 E_7
      clear X_4
      have X_11 := Ext.trans X_5 E_7
      clear X_5
      have X_12 := Ext.trans X_6 E_7
      clear X_6
      have p_13 := (kb1.ext X_12).1
      have p_14 := (kb1.ext X_12).2
      go_wp2_with fail
      refine (szG_ok _ _ _ _ x1 l0 _ (R_3.ext X_10) _ (by omega) (by omega) Hl1.out).mono ?_
      rintro e w2 ⟨rfl, E_15⟩
      have X_16 := Ext.trans X_8 E_15
      clear X_8
      have X_17 := Ext.trans X_9 E_15
      clear X_9
      have X_18 := Ext.trans X_10 E_15
      clear X_10
      have X_19 := Ext.trans X_11 E_15
      clear X_11
      have X_20 := Ext.trans X_12 E_15
      clear X_12
      clear p_13 p_14
      have p_21 := (kb0.ext X_19).1
      have p_22 := (kb0.ext X_19).2
      have p_23 := (kb1.ext X_20).1
      have p_24 := (kb1.ext X_20).2
      go_wp2_with fail
      have s_25a : n0 ≤ 1048576 := by have := h0.len; omega
      have s_25b : tot x0 ≤ 1048576 := by omega
      have s_26a : n1 ≤ 1048576 := by have := h1.len; omega
      have s_26b : tot x1 ≤ 1048576 := by omega
      go_region_held3 (fun w' => w'.cell? ⟨(w.heap.size), 0, none⟩ = some (.int .i64 z0) ∧ w'.cell? ⟨(w.heap.size), 1, none⟩ = some (.slice a0 n0 c0) ∧ w'.cell? ⟨(w.heap.size + 1), 0, none⟩ = some (.int .i64 z1) ∧ w'.cell? ⟨(w.heap.size + 1), 1, none⟩ = some (.slice a1 n1 c1))
        (first | exact ⟨p_21, p_22, p_23, p_24⟩ | exact ⟨Ext.cell ((Ext.refl _).drew) p_21, Ext.cell ((Ext.refl _).drew) p_22, Ext.cell ((Ext.refl _).drew) p_23, Ext.cell ((Ext.refl _).drew) p_24⟩ | exact ⟨Ext.cell (Ext.trans ((Ext.refl _).drew) E_28) p_21, Ext.cell (Ext.trans ((Ext.refl _).drew) E_28) p_22, Ext.cell (Ext.trans ((Ext.refl _).drew) E_28) p_23, Ext.cell (Ext.trans ((Ext.refl _).drew) E_28) p_24⟩ | exact ⟨Ext.cell (Ext.trans ((Ext.refl _).drew) E_31) p_21, Ext.cell (Ext.trans ((Ext.refl _).drew) E_31) p_22, Ext.cell (Ext.trans ((Ext.refl _).drew) E_31) p_23, Ext.cell (Ext.trans ((Ext.refl _).drew) E_31) p_24⟩ | exact ⟨Ext.cell (Ext.trans (Ext.trans ((Ext.refl _).drew) E_28) E_31) p_21, Ext.cell (Ext.trans (Ext.trans ((Ext.refl _).drew) E_28) E_31) p_22, Ext.cell (Ext.trans (Ext.trans ((Ext.refl _).drew) E_28) E_31) p_23, Ext.cell (Ext.trans (Ext.trans ((Ext.refl _).drew) E_28) E_31) p_24⟩ | exact ⟨Ext.cell (Ext.trans (Ext.trans ((Ext.refl _).drew) E_31) E_28) p_21, Ext.cell (Ext.trans (Ext.trans ((Ext.refl _).drew) E_31) E_28) p_22, Ext.cell (Ext.trans (Ext.trans ((Ext.refl _).drew) E_31) E_28) p_23, Ext.cell (Ext.trans (Ext.trans ((Ext.refl _).drew) E_31) E_28) p_24⟩ | exact ⟨Ext.cell (Ext.trans (Ext.trans (Ext.trans ((Ext.refl _).drew) E_28) E_31) E_33) p_21, Ext.cell (Ext.trans (Ext.trans (Ext.trans ((Ext.refl _).drew) E_28) E_31) E_33) p_22, Ext.cell (Ext.trans (Ext.trans (Ext.trans ((Ext.refl _).drew) E_28) E_31) E_33) p_23, Ext.cell (Ext.trans (Ext.trans (Ext.trans ((Ext.refl _).drew) E_28) E_31) E_33) p_24⟩ | exact ⟨Ext.cell (Ext.trans (Ext.trans (Ext.trans ((Ext.refl _).drew) E_31) E_28) E_33) p_21, Ext.cell (Ext.trans (Ext.trans (Ext.trans ((Ext.refl _).drew) E_31) E_28) E_33) p_22, Ext.cell (Ext.trans (Ext.trans (Ext.trans ((Ext.refl _).drew) E_31) E_28) E_33) p_23, Ext.cell (Ext.trans (Ext.trans (Ext.trans ((Ext.refl _).drew) E_31) E_28) E_33) p_24⟩)
        (first
          | (go_at_call 35; (with_reducible refine (to_G z0 a0 n0 c0 x0 _ ((R_1.ext X_17).ext ((Ext.refl _).drew)) s_25a s_25b).mono ?_); rintro e w3 ⟨aq_29, nq_29, cq_29, rq_29, rfl, O_27, E_28⟩)
          | (go_at_call 35; (with_reducible refine (to_G z0 a0 n0 c0 x0 _ ((R_1.ext X_17).ext (Ext.trans ((Ext.refl _).drew) E_31)) s_25a s_25b).mono ?_); rintro e w3 ⟨aq_29, nq_29, cq_29, rq_29, rfl, O_27, E_28⟩)
          | (go_at_call 35; (with_reducible refine (to_G z1 a1 n1 c1 x1 _ ((R_3.ext X_18).ext ((Ext.refl _).drew)) s_26a s_26b).mono ?_); rintro e w4 ⟨aq_32, nq_32, cq_32, rq_32, rfl, O_30, E_31⟩)
          | (go_at_call 35; (with_reducible refine (to_G z1 a1 n1 c1 x1 _ ((R_3.ext X_18).ext (Ext.trans ((Ext.refl _).drew) E_28)) s_26a s_26b).mono ?_); rintro e w4 ⟨aq_32, nq_32, cq_32, rq_32, rfl, O_30, E_31⟩)
          | (go_at_call 34; (with_reducible refine (specSameG _ _ _ _ x0 _ _ _ _ x1 _ (O_27.rd.ext E_31) t0 lo0 hi0 (O_30.rd) t1 lo1 hi1).mono ?_); rintro e w5 ⟨rfl, E_33⟩)
          | (go_at_call 34; (with_reducible refine (specSameG _ _ _ _ x0 _ _ _ _ x1 _ (O_27.rd) t0 lo0 hi0 (O_30.rd.ext E_28) t1 lo1 hi1).mono ?_); rintro e w5 ⟨rfl, E_33⟩))
      all_goals (
        have E_35 : Ext w2 w5 := by first | exact (Ext.trans (Ext.trans (Ext.trans ((Ext.refl _).drew) E_28) E_31) E_33) | exact (Ext.trans (Ext.trans (Ext.trans ((Ext.refl _).drew) E_31) E_28) E_33)
        clear p_21 p_22 p_23 p_24
        have X_36 := Ext.trans X_16 E_35
        clear X_16
        have X_37 := Ext.trans X_17 E_35
        clear X_17
        have X_38 := Ext.trans X_18 E_35
        clear X_18
        have X_39 := Ext.trans X_19 E_35
        clear X_19
        have X_40 := Ext.trans X_20 E_35
        clear X_20
        have p_41 := (kb0.ext X_39).1
        have p_42 := (kb0.ext X_39).2
        go_wp2_with fail
        refine (to_G z0 a0 n0 c0 x0 _ (R_1.ext X_37) (by have := h0.len; omega) (by omega)).mono ?_
        rintro e w6 ⟨a_c43, n_c43, c_c43, r_c43, rfl, O_44, E_45⟩
        clear p_41 p_42
        have R_46 := O_44.rd
        have X_47 := Ext.trans X_36 E_45
        have X_48 := Ext.trans X_37 E_45
        have X_49 := Ext.trans X_38 E_45
        have X_50 := Ext.trans X_39 E_45
        have X_51 := Ext.trans X_40 E_45
        have X_52 := Ext.refl w6
        have p_53 := (kb1.ext X_51).1
        have p_54 := (kb1.ext X_51).2
        have lt_55 : (w.heap.size + 1) < w6.heap.size := World.block_lt_of_cell? _ _ p_53
        have lt_55n : (w.heap.size + 1) ≠ w6.heap.size := Nat.ne_of_lt lt_55
        go_wp2_with fail
        obtain ⟨w7, hW_56⟩ : ∃ W, w6.alloc (.cells #[.int .i64 z0, .slice a_c43 n_c43 c_c43] 42) = W := ⟨_, rfl⟩
        have E_57 : Ext w6 w7 := by rw [← hW_56]; exact (Ext.refl _).alloc _
        have kb_58 : Bx w7 w6.heap.size z0 a_c43 n_c43 c_c43 := by rw [← hW_56]; exact ⟨(World.cell?_alloc_at _ _ _ _ rfl).trans rfl, (World.cell?_alloc_at _ _ _ _ rfl).trans rfl⟩
        rw [hW_56]; clear hW_56
        have X_59 := Ext.trans X_47 E_57
        have X_60 := Ext.trans X_48 E_57
        have X_61 := Ext.trans X_49 E_57
        have X_62 := Ext.trans X_50 E_57
        have X_63 := Ext.trans X_51 E_57
        have X_64 := Ext.trans X_52 E_57
        have X_65 := Ext.refl w7
        clear p_53 p_54 lt_55 lt_55n
        have p_66 := (kb1.ext X_63).1
        have p_67 := (kb1.ext X_63).2
        refine (to_G z1 a1 n1 c1 x1 _ (R_3.ext X_61) (by have := h1.len; omega) (by omega)).mono ?_
        rintro e w8 ⟨a_c68, n_c68, c_c68, r_c68, rfl, O_69, E_70⟩
        clear p_66 p_67
        have R_71 := O_69.rd
        have X_72 := Ext.trans X_59 E_70
        have X_73 := Ext.trans X_60 E_70
        have X_74 := Ext.trans X_61 E_70
        have X_75 := Ext.trans X_62 E_70
        have X_76 := Ext.trans X_63 E_70
        have X_77 := Ext.trans X_64 E_70
        have X_78 := Ext.trans X_65 E_70
        have X_79 := Ext.refl w8
        have p_80 := (kb_58.ext X_78).1
        have p_81 := (kb_58.ext X_78).2
        have lt_82 : w6.heap.size < w8.heap.size := World.block_lt_of_cell? _ _ p_80
        have lt_82n : w6.heap.size ≠ w8.heap.size := Nat.ne_of_lt lt_82
        go_wp2_with fail
        obtain ⟨w9, hW_83⟩ : ∃ W, w8.alloc (.cells #[.int .i64 z1, .slice a_c68 n_c68 c_c68] 42) = W := ⟨_, rfl⟩
        have E_84 : Ext w8 w9 := by rw [← hW_83]; exact (Ext.refl _).alloc _
        have kb_85 : Bx w9 w8.heap.size z1 a_c68 n_c68 c_c68 := by rw [← hW_83]; exact ⟨(World.cell?_alloc_at _ _ _ _ rfl).trans rfl, (World.cell?_alloc_at _ _ _ _ rfl).trans rfl⟩
        rw [hW_83]; clear hW_83
        have X_86 := Ext.trans X_72 E_84
        have X_87 := Ext.trans X_73 E_84
        have X_88 := Ext.trans X_74 E_84
        have X_89 := Ext.trans X_75 E_84
        have X_90 := Ext.trans X_76 E_84
        have X_91 := Ext.trans X_77 E_84
        have X_92 := Ext.trans X_78 E_84
        have X_93 := Ext.trans X_79 E_84
        have X_94 := Ext.refl w9
        clear p_80 p_81 lt_82 lt_82n
        have p_95 := (kb_58.ext X_92).1
        have p_96 := (kb_58.ext X_92).2
        have p_97 := (kb_85.ext X_94).1
        have p_98 := (kb_85.ext X_94).2
        refine (implSameG _ _ _ _ x0 _ _ _ _ x1 _ (R_46.ext X_91) t0 lo0 hi0 (R_71.ext X_93) t1 lo1 hi1).mono ?_
        rintro e w10 ⟨rfl, E_99⟩
        clear p_95 p_96 p_97 p_98
        have X_101 := Ext.trans X_86 E_99
        clear X_86
        have X_102 := Ext.trans X_87 E_99
        clear X_87
        have X_103 := Ext.trans X_88 E_99
        clear X_88
        have X_104 := Ext.trans X_89 E_99
        clear X_89
        have X_105 := Ext.trans X_90 E_99
        clear X_90
        have X_106 := Ext.trans X_91 E_99
        clear X_91
        have X_107 := Ext.trans X_92 E_99
        clear X_92
        have X_108 := Ext.trans X_93 E_99
        clear X_93
        have X_109 := Ext.trans X_94 E_99
        clear X_94
        have p_110 := (kb_58.ext X_107).1
        have p_111 := (kb_58.ext X_107).2
        have p_112 := (kb0.ext X_104).1
        have p_113 := (kb0.ext X_104).2
        go_wp2_with fail
        go_region_held3 (fun w' => w'.cell? ⟨w6.heap.size, 0, none⟩ = some (.int .i64 z0) ∧ w'.cell? ⟨w6.heap.size, 1, none⟩ = some (.slice a_c43 n_c43 c_c43) ∧ w'.cell? ⟨(w.heap.size), 0, none⟩ = some (.int .i64 z0) ∧ w'.cell? ⟨(w.heap.size), 1, none⟩ = some (.slice a0 n0 c0))
          (first | exact ⟨p_110, p_111, p_112, p_113⟩ | exact ⟨Ext.cell ((Ext.refl _).drew) p_110, Ext.cell ((Ext.refl _).drew) p_111, Ext.cell ((Ext.refl _).drew) p_112, Ext.cell ((Ext.refl _).drew) p_113⟩ | exact ⟨Ext.cell (Ext.trans ((Ext.refl _).drew) E_115) p_110, Ext.cell (Ext.trans ((Ext.refl _).drew) E_115) p_111, Ext.cell (Ext.trans ((Ext.refl _).drew) E_115) p_112, Ext.cell (Ext.trans ((Ext.refl _).drew) E_115) p_113⟩ | exact ⟨Ext.cell (Ext.trans (Ext.trans ((Ext.refl _).drew) E_115) E_117) p_110, Ext.cell (Ext.trans (Ext.trans ((Ext.refl _).drew) E_115) E_117) p_111, Ext.cell (Ext.trans (Ext.trans ((Ext.refl _).drew) E_115) E_117) p_112, Ext.cell (Ext.trans (Ext.trans ((Ext.refl _).drew) E_115) E_117) p_113⟩)
          (first
            | (go_at_call 35; refine (to_G z0 a0 n0 c0 x0 _ ((R_1.ext X_102).ext ((Ext.refl _).drew)) (by have := h0.len; omega) (by omega)).mono ?_; rintro e w11 ⟨aq_116, nq_116, cq_116, rq_116, rfl, O_114, E_115⟩)
            | (go_at_call 37; refine (eq_G _ _ _ _ _ _ _ _ x0 x0 true _ ((R_46.ext X_106).ext (Ext.trans ((Ext.refl _).drew) E_115)) O_114.rd rfl (by simp)).mono ?_; rintro e w12 ⟨rfl, E_117⟩))
        have E_118 : Ext w10 w12 := (Ext.trans (Ext.trans ((Ext.refl _).drew) E_115) E_117)
        clear p_110 p_111 p_112 p_113
        have X_119 := Ext.trans X_101 E_118
        clear X_101
        have X_120 := Ext.trans X_102 E_118
        clear X_102
        have X_121 := Ext.trans X_103 E_118
        clear X_103
        have X_122 := Ext.trans X_104 E_118
        clear X_104
        have X_123 := Ext.trans X_105 E_118
        clear X_105
        have X_124 := Ext.trans X_106 E_118
        clear X_106
        have X_125 := Ext.trans X_107 E_118
        clear X_107
        have X_126 := Ext.trans X_108 E_118
        clear X_108
        have X_127 := Ext.trans X_109 E_118
        clear X_109
        have p_128 := (kb_85.ext X_127).1
        have p_129 := (kb_85.ext X_127).2
        have p_130 := (kb1.ext X_123).1
        have p_131 := (kb1.ext X_123).2
        go_wp2_with fail
        go_region_held3 (fun w' => w'.cell? ⟨w8.heap.size, 0, none⟩ = some (.int .i64 z1) ∧ w'.cell? ⟨w8.heap.size, 1, none⟩ = some (.slice a_c68 n_c68 c_c68) ∧ w'.cell? ⟨(w.heap.size + 1), 0, none⟩ = some (.int .i64 z1) ∧ w'.cell? ⟨(w.heap.size + 1), 1, none⟩ = some (.slice a1 n1 c1))
          (first | exact ⟨p_128, p_129, p_130, p_131⟩ | exact ⟨Ext.cell ((Ext.refl _).drew) p_128, Ext.cell ((Ext.refl _).drew) p_129, Ext.cell ((Ext.refl _).drew) p_130, Ext.cell ((Ext.refl _).drew) p_131⟩ | exact ⟨Ext.cell (Ext.trans ((Ext.refl _).drew) E_133) p_128, Ext.cell (Ext.trans ((Ext.refl _).drew) E_133) p_129, Ext.cell (Ext.trans ((Ext.refl _).drew) E_133) p_130, Ext.cell (Ext.trans ((Ext.refl _).drew) E_133) p_131⟩ | exact ⟨Ext.cell (Ext.trans (Ext.trans ((Ext.refl _).drew) E_133) E_135) p_128, Ext.cell (Ext.trans (Ext.trans ((Ext.refl _).drew) E_133) E_135) p_129, Ext.cell (Ext.trans (Ext.trans ((Ext.refl _).drew) E_133) E_135) p_130, Ext.cell (Ext.trans (Ext.trans ((Ext.refl _).drew) E_133) E_135) p_131⟩)
          (first
            | (go_at_call 35; refine (to_G z1 a1 n1 c1 x1 _ ((R_3.ext X_121).ext ((Ext.refl _).drew)) (by have := h1.len; omega) (by omega)).mono ?_; rintro e w13 ⟨aq_134, nq_134, cq_134, rq_134, rfl, O_132, E_133⟩)
            | (go_at_call 37; refine (eq_G _ _ _ _ _ _ _ _ x1 x1 true _ ((R_71.ext X_126).ext (Ext.trans ((Ext.refl _).drew) E_133)) O_132.rd rfl (by simp)).mono ?_; rintro e w14 ⟨rfl, E_135⟩))
        have E_136 : Ext w12 w14 := (Ext.trans (Ext.trans ((Ext.refl _).drew) E_133) E_135)
        clear p_128 p_129 p_130 p_131
        have X_137 := Ext.trans X_119 E_136
        clear X_119
        have X_138 := Ext.trans X_120 E_136
        clear X_120
        have X_139 := Ext.trans X_121 E_136
        clear X_121
        have X_140 := Ext.trans X_122 E_136
        clear X_122
        have X_141 := Ext.trans X_123 E_136
        clear X_123
        have X_142 := Ext.trans X_124 E_136
        clear X_124
        have X_143 := Ext.trans X_125 E_136
        clear X_125
        have X_144 := Ext.trans X_126 E_136
        clear X_126
        have X_145 := Ext.trans X_127 E_136
        clear X_127
        go_wp2
        go_ret
        exact ⟨rfl, X_137⟩)
    · skip
      go_enter Try.func8, Try.ntmps8
      go_wp2_with fail
      obtain ⟨W, hW⟩ : ∃ W, ((w.alloc (.cells #[.int .i64 z0, .slice a0 n0 c0] 39)).alloc (.cells #[.int .i64 z1, .slice a1 n1 c1] 39)) = W := ⟨_, rfl⟩
      have XW : Ext w W := by rw [← hW]; exact ((Ext.refl _).alloc _).alloc _
      have kb0 : Bx W (w.heap.size) z0 a0 n0 c0 := by rw [← hW]; exact ⟨(World.cell?_alloc_past _ _ _ (by simp)).trans ((World.cell?_alloc_at _ _ _ _ rfl).trans rfl), (World.cell?_alloc_past _ _ _ (by simp)).trans ((World.cell?_alloc_at _ _ _ _ rfl).trans rfl)⟩
      have kb1 : Bx W (w.heap.size + 1) z1 a1 n1 c1 := by rw [← hW]; exact ⟨(World.cell?_alloc_at _ _ _ _ (by simp)).trans rfl, (World.cell?_alloc_at _ _ _ _ (by simp)).trans rfl⟩
      rw [hW]; clear hW
      refine (szG_ok _ _ _ _ x0 1048576 _ (h0.ext XW) _ (by omega) (by omega) Hl0.out).mono ?_
      rintro e v0 ⟨rfl, F0⟩
      have G0 := Ext.trans XW F0
      have EW := F0
      have p1 := (kb1.ext F0).1
      have r1 := (kb1.ext F0).2
      go_wp2_with fail
      refine (szG_no _ _ _ _ x1 l0 _ (h1.ext G0) (by omega) (by omega) (by omega)).mono ?_
      rintro e v1 ⟨rfl, F1⟩
      have G1 := Ext.trans G0 F1
      go_wp2
      go_ret
      exact ⟨rfl, G1⟩
  · skip
    go_enter Try.func8, Try.ntmps8
    go_wp2_with fail
    obtain ⟨W, hW⟩ : ∃ W, ((w.alloc (.cells #[.int .i64 z0, .slice a0 n0 c0] 39)).alloc (.cells #[.int .i64 z1, .slice a1 n1 c1] 39)) = W := ⟨_, rfl⟩
    have XW : Ext w W := by rw [← hW]; exact ((Ext.refl _).alloc _).alloc _
    have kb0 : Bx W (w.heap.size) z0 a0 n0 c0 := by rw [← hW]; exact ⟨(World.cell?_alloc_past _ _ _ (by simp)).trans ((World.cell?_alloc_at _ _ _ _ rfl).trans rfl), (World.cell?_alloc_past _ _ _ (by simp)).trans ((World.cell?_alloc_at _ _ _ _ rfl).trans rfl)⟩
    have kb1 : Bx W (w.heap.size + 1) z1 a1 n1 c1 := by rw [← hW]; exact ⟨(World.cell?_alloc_at _ _ _ _ (by simp)).trans rfl, (World.cell?_alloc_at _ _ _ _ (by simp)).trans rfl⟩
    rw [hW]; clear hW
    refine (szG_no _ _ _ _ x0 1048576 _ (h0.ext XW) (by omega) (by omega) (by omega)).mono ?_
    rintro e v0 ⟨rfl, F0⟩
    have G0 := Ext.trans XW F0
    have EW := F0
    go_wp2
    go_ret
    exact ⟨rfl, G0⟩
end Go.Proofs.Ytmcdhhcoofcbiaa
