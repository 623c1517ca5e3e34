/- The walk of the law FnExactGroupHas: it returns true. Conditions: none. -/
import Derived.Test.YtjlfngnmmmaefaaVg
import Derived.Test.YtjlfngnmmmaefaaGrp
import Derived.Test.YtjlfngnmmmaefaaTo
import Derived.Test.YtjlfngnmmmaefaaEq
import Derived.Test.YtjlfngnmmmaefaaMark
import Derived.Test.YtjlfngnmmmaefaaSz
namespace Go.Proofs.Ytjlfngnmmmaefaa
open Go.RowKit

set_option maxRecDepth 100000 in
set_option maxHeartbeats 3200000 in
theorem lawGroupHas (z0 : Int) (a0 : Option Addr) (n0 c0 : Nat) (x0 : List (List Int)) (a1 : Option Addr) (n1 c1 : Nat) (x1 : List Int) (w : World) (lo0 : -9223372036854775808 ≤ z0) (hi0 : z0 ≤ 9223372036854775807) (h0 : RdR w a0 n0 c0 x0) (h1 : RdI w a1 n1 c1 x1) :
    Calls Try.prog 8 #[.agg #[.int .i64 z0, .slice a0 n0 c0], .slice a1 n1 c1] w fun e w' => e = .returned (.bool true) ∧ Ext w w' := by
  have le1 := h1.le
  have mx1 := h1.max
  by_cases s1 : n1 ≤ 1048576
  · have q1 : ¬ ((1048576 : Int) < (n1 : Int)) := by omega
    by_cases s0 : ((x0.length + tot x0 : Nat) : Int) ≤ 1048576
    · obtain ⟨l0, hl0⟩ : ∃ l : Int, 1048576 - ((x0.length + tot x0 : Nat) : Int) = l := ⟨_, rfl⟩
      have b0 : 0 ≤ l0 ∧ l0 ≤ 1048576 := by omega
      obtain ⟨bl0, bh0⟩ := b0
      have Hl0 := Lib.hid hl0
      have t0 : x0.length + tot x0 ≤ 1048576 := by omega
      clear hl0 s0
      have sc0 : (pb (GrpOk z0 x0 ∧ x1 ∈ x0) != pb (GrpOk z0 x0 ∧ x1 ∈ x0)) = false := by simp
      go_enter Try.func8, Try.ntmps8
      go_wp2_with fail
      obtain ⟨W, hW⟩ : ∃ W, (w.alloc (.cells #[.int .i64 z0, .slice a0 n0 c0] 24)) = W := ⟨_, rfl⟩
      have XW : Ext w W := by rw [← hW]; exact (Ext.refl _).alloc _
      have kb0 : Bx W (w.heap.size) z0 a0 n0 c0 := by rw [← hW]; exact ⟨(World.cell?_alloc_at _ _ _ _ (by simp)).trans rfl, (World.cell?_alloc_at _ _ _ _ (by simp)).trans rfl⟩
      rw [hW]; clear hW
      have R_1 := h0.ext XW
      have X_2 := Ext.refl W
      have R_3 := h1.ext XW
      have X_4 := Ext.refl W
      have X_5 := Ext.refl W
      refine (szG_ok _ _ _ _ x0 1048576 _ (R_1.ext X_2) _ (by omega) (by omega) Hl0.out).mono ?_
      rintro e w1 ⟨rfl, E_6⟩
      have X_7 := Ext.trans XW E_6
      have X_8 := Ext.trans X_2 E_6
      clear X_2
      have X_9 := Ext.trans X_4 E_6
      clear X_4
      have X_10 := Ext.trans X_5 E_6
      clear X_5
      have p_11 := (kb0.ext X_10).1
      have p_12 := (kb0.ext X_10).2
      go_wp2_with fail
      refine (to_G z0 a0 n0 c0 x0 _ (R_1.ext X_8) (by have := h0.len; omega) (by omega)).mono ?_
      rintro e w2 ⟨a_c13, n_c13, c_c13, r_c13, rfl, O_14, E_15⟩
      clear p_11 p_12
      have R_16 := O_14.rd
      have X_17 := Ext.trans X_7 E_15
      have X_18 := Ext.trans X_8 E_15
      have X_19 := Ext.trans X_9 E_15
      have X_20 := Ext.trans X_10 E_15
      have X_21 := Ext.refl w2
      go_wp2_with fail
      refine (to_S a1 n1 c1 x1 _ (R_3.ext X_19) (by omega)).mono ?_
      rintro e w3 ⟨a_c22, n_c22, c_c22, rfl, O_23, E_24⟩
      have R_25 := O_23.rdI
      have X_26 := Ext.trans X_17 E_24
      have X_27 := Ext.trans X_18 E_24
      have X_28 := Ext.trans X_19 E_24
      have X_29 := Ext.trans X_20 E_24
      have X_30 := Ext.trans X_21 E_24
      have X_31 := Ext.refl w3
      go_wp2_with fail
      refine (specHas _ _ _ _ x0 _ _ _ x1 _ (R_16.ext X_30) t0 lo0 hi0 (R_25.ext X_31) (by have := h1.len; have := ((R_25.ext X_31)).len; omega)).mono ?_
      rintro e w4 ⟨rfl, E_32⟩
      have X_34 := Ext.trans X_26 E_32
      clear X_26
      have X_35 := Ext.trans X_27 E_32
      clear X_27
      have X_36 := Ext.trans X_28 E_32
      clear X_28
      have X_37 := Ext.trans X_29 E_32
      clear X_29
      have X_38 := Ext.trans X_30 E_32
      clear X_30
      have X_39 := Ext.trans X_31 E_32
      clear X_31
      have p_40 := (kb0.ext X_37).1
      have p_41 := (kb0.ext X_37).2
      go_wp2_with fail
      refine (to_G z0 a0 n0 c0 x0 _ (R_1.ext X_35) (by have := h0.len; omega) (by omega)).mono ?_
      rintro e w5 ⟨a_c42, n_c42, c_c42, r_c42, rfl, O_43, E_44⟩
      clear p_40 p_41
      have R_45 := O_43.rd
      have X_46 := Ext.trans X_34 E_44
      have X_47 := Ext.trans X_35 E_44
      have X_48 := Ext.trans X_36 E_44
      have X_49 := Ext.trans X_37 E_44
      have X_50 := Ext.refl w5
      go_wp2_with fail
      obtain ⟨w6, hW_51⟩ : ∃ W, w5.alloc (.cells #[.int .i64 z0, .slice a_c42 n_c42 c_c42] 29) = W := ⟨_, rfl⟩
      have E_52 : Ext w5 w6 := by rw [← hW_51]; exact (Ext.refl _).alloc _
      have kb_53 : Bx w6 w5.heap.size z0 a_c42 n_c42 c_c42 := by rw [← hW_51]; exact ⟨(World.cell?_alloc_at _ _ _ _ rfl).trans rfl, (World.cell?_alloc_at _ _ _ _ rfl).trans rfl⟩
      rw [hW_51]; clear hW_51
      have X_54 := Ext.trans X_46 E_52
      have X_55 := Ext.trans X_47 E_52
      have X_56 := Ext.trans X_48 E_52
      have X_57 := Ext.trans X_49 E_52
      have X_58 := Ext.trans X_50 E_52
      have X_59 := Ext.refl w6
      refine (to_S a1 n1 c1 x1 _ (R_3.ext X_56) (by omega)).mono ?_
      rintro e w7 ⟨a_c60, n_c60, c_c60, rfl, O_61, E_62⟩
      have R_63 := O_61.rdI
      have X_64 := Ext.trans X_54 E_62
      have X_65 := Ext.trans X_55 E_62
      have X_66 := Ext.trans X_56 E_62
      have X_67 := Ext.trans X_57 E_62
      have X_68 := Ext.trans X_58 E_62
      have X_69 := Ext.trans X_59 E_62
      have X_70 := Ext.refl w7
      have p_71 := (kb_53.ext X_69).1
      have p_72 := (kb_53.ext X_69).2
      go_wp2_with fail
      refine (implHas _ _ _ _ x0 _ _ _ x1 _ (R_45.ext X_68) t0 lo0 hi0 (R_63.ext X_70) (by have := h1.len; have := ((R_63.ext X_70)).len; omega)).mono ?_
      rintro e w8 ⟨rfl, E_73⟩
      clear p_71 p_72
      have X_75 := Ext.trans X_64 E_73
      clear X_64
      have X_76 := Ext.trans X_65 E_73
      clear X_65
      have X_77 := Ext.trans X_66 E_73
      clear X_66
      have X_78 := Ext.trans X_67 E_73
      clear X_67
      have X_79 := Ext.trans X_68 E_73
      clear X_68
      have X_80 := Ext.trans X_69 E_73
      clear X_69
      have X_81 := Ext.trans X_70 E_73
      clear X_70
      have p_82 := (kb_53.ext X_80).1
      have p_83 := (kb_53.ext X_80).2
      have p_84 := (kb0.ext X_78).1
      have p_85 := (kb0.ext X_78).2
      go_wp2_with fail
      go_region_held3 (fun w' => w'.cell? ⟨w5.heap.size, 0, none⟩ = some (.int .i64 z0) ∧ w'.cell? ⟨w5.heap.size, 1, none⟩ = some (.slice a_c42 n_c42 c_c42) ∧ w'.cell? ⟨(w.heap.size), 0, none⟩ = some (.int .i64 z0) ∧ w'.cell? ⟨(w.heap.size), 1, none⟩ = some (.slice a0 n0 c0))
        (first | exact ⟨p_82, p_83, p_84, p_85⟩ | exact ⟨Ext.cell ((Ext.refl _).drew) p_82, Ext.cell ((Ext.refl _).drew) p_83, Ext.cell ((Ext.refl _).drew) p_84, Ext.cell ((Ext.refl _).drew) p_85⟩ | exact ⟨Ext.cell (Ext.trans ((Ext.refl _).drew) E_87) p_82, Ext.cell (Ext.trans ((Ext.refl _).drew) E_87) p_83, Ext.cell (Ext.trans ((Ext.refl _).drew) E_87) p_84, Ext.cell (Ext.trans ((Ext.refl _).drew) E_87) p_85⟩ | exact ⟨Ext.cell (Ext.trans (Ext.trans ((Ext.refl _).drew) E_87) E_89) p_82, Ext.cell (Ext.trans (Ext.trans ((Ext.refl _).drew) E_87) E_89) p_83, Ext.cell (Ext.trans (Ext.trans ((Ext.refl _).drew) E_87) E_89) p_84, Ext.cell (Ext.trans (Ext.trans ((Ext.refl _).drew) E_87) E_89) p_85⟩)
        (first
          | (go_at_call 15; refine (to_G z0 a0 n0 c0 x0 _ ((R_1.ext X_76).ext ((Ext.refl _).drew)) (by have := h0.len; omega) (by omega)).mono ?_; rintro e w9 ⟨aq_88, nq_88, cq_88, rq_88, rfl, O_86, E_87⟩)
          | (go_at_call 18; refine (eq_G _ _ _ _ _ _ _ _ x0 x0 true _ ((R_45.ext X_79).ext (Ext.trans ((Ext.refl _).drew) E_87)) O_86.rd rfl (by simp)).mono ?_; rintro e w10 ⟨rfl, E_89⟩))
      have E_90 : Ext w8 w10 := (Ext.trans (Ext.trans ((Ext.refl _).drew) E_87) E_89)
      clear p_82 p_83 p_84 p_85
      have X_91 := Ext.trans X_75 E_90
      clear X_75
      have X_92 := Ext.trans X_76 E_90
      clear X_76
      have X_93 := Ext.trans X_77 E_90
      clear X_77
      have X_94 := Ext.trans X_78 E_90
      clear X_78
      have X_95 := Ext.trans X_79 E_90
      clear X_79
      have X_96 := Ext.trans X_80 E_90
      clear X_80
      have X_97 := Ext.trans X_81 E_90
      clear X_81
      go_wp2_with fail
      refine (to_S a1 n1 c1 x1 _ (R_3.ext X_93) (by omega)).mono ?_
      rintro e w11 ⟨a_c98, n_c98, c_c98, rfl, O_99, E_100⟩
      have R_101 := O_99.rdI
      have X_102 := Ext.trans X_91 E_100
      have X_103 := Ext.trans X_92 E_100
      have X_104 := Ext.trans X_93 E_100
      have X_105 := Ext.trans X_94 E_100
      have X_106 := Ext.trans X_95 E_100
      have X_107 := Ext.trans X_96 E_100
      have X_108 := Ext.trans X_97 E_100
      have X_109 := Ext.refl w11
      go_wp2_with fail
      refine (eq_S _ _ _ _ _ _ x1 x1 true _ (R_63.ext X_108) (R_101.ext X_109) (by simp)).mono ?_
      rintro e w12 ⟨rfl, Q_110⟩
      have X_111 := Ext.trans X_102 (Q.ext Q_110)
      clear X_102
      have X_112 := Ext.trans X_103 (Q.ext Q_110)
      clear X_103
      have X_113 := Ext.trans X_104 (Q.ext Q_110)
      clear X_104
      have X_114 := Ext.trans X_105 (Q.ext Q_110)
      clear X_105
      have X_115 := Ext.trans X_106 (Q.ext Q_110)
      clear X_106
      have X_116 := Ext.trans X_107 (Q.ext Q_110)
      clear X_107
      have X_117 := Ext.trans X_108 (Q.ext Q_110)
      clear X_108
      have X_118 := Ext.trans X_109 (Q.ext Q_110)
      clear X_109
      go_wp2
      go_ret
      exact ⟨rfl, X_111⟩
    · skip
      go_enter Try.func8, Try.ntmps8
      go_wp2_with fail
      obtain ⟨W, hW⟩ : ∃ W, (w.alloc (.cells #[.int .i64 z0, .slice a0 n0 c0] 24)) = W := ⟨_, rfl⟩
      have XW : Ext w W := by rw [← hW]; exact (Ext.refl _).alloc _
      have kb0 : Bx W (w.heap.size) z0 a0 n0 c0 := by rw [← hW]; exact ⟨(World.cell?_alloc_at _ _ _ _ (by simp)).trans rfl, (World.cell?_alloc_at _ _ _ _ (by simp)).trans rfl⟩
      rw [hW]; clear hW
      refine (szG_no _ _ _ _ x0 1048576 _ (h0.ext XW) (by omega) (by omega) (by omega)).mono ?_
      rintro e v0 ⟨rfl, F0⟩
      have G0 := Ext.trans XW F0
      have EW := F0
      go_wp2
      go_ret
      exact ⟨rfl, G0⟩
  · have q1 : ((1048576 : Int) < (n1 : Int)) := by omega
    go_enter Try.func8, Try.ntmps8
    go_wp2
    go_ret
    exact ⟨rfl, (Ext.refl _).alloc _⟩
end Go.Proofs.Ytjlfngnmmmaefaa
