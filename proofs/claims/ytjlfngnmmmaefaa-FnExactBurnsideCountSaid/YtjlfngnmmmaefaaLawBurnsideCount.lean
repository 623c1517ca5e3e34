/- The walk of the law FnExactBurnsideCount: it returns true. Conditions: none. -/
import Derived.Test.YtjlfngnmmmaefaaBur
import Derived.Test.YtjlfngnmmmaefaaGrp
import Derived.Test.YtjlfngnmmmaefaaTo
import Derived.Test.YtjlfngnmmmaefaaEq
import Derived.Test.YtjlfngnmmmaefaaMark
import Derived.Test.YtjlfngnmmmaefaaSz
namespace Go.Proofs.Ytjlfngnmmmaefaa
open Go.RowKit

set_option maxRecDepth 100000 in
set_option maxHeartbeats 3200000 in
theorem lawBurnsideCount (z0 : Int) (a0 : Option Addr) (n0 c0 : Nat) (x0 : List (List Int)) (z1 : Int) (w : World) (lo0 : -9223372036854775808 ≤ z0) (hi0 : z0 ≤ 9223372036854775807) (h0 : RdR w a0 n0 c0 x0) (lo1 : -9223372036854775808 ≤ z1) (hi1 : z1 ≤ 9223372036854775807) :
    Calls Try.prog 11 #[.agg #[.int .i64 z0, .slice a0 n0 c0], .int .i64 z1] w fun e w' => e = .returned (.bool true) ∧ Ext w w' := by
  by_cases s0 : ((x0.length + tot x0 : Nat) : Int) ≤ 1048576
  · obtain ⟨l0, hl0⟩ : ∃ l : Int, 1048576 - ((x0.length + tot x0 : Nat) : Int) = l := ⟨_, rfl⟩
    have b0 : 0 ≤ l0 ∧ l0 ≤ 1048576 := by omega
    obtain ⟨bl0, bh0⟩ := b0
    have Hl0 := Lib.hid hl0
    have t0 : x0.length + tot x0 ≤ 1048576 := by omega
    clear hl0 s0
    have sc0 : (bnV z0 x0 z1 != bnV z0 x0 z1) = false := by simp
    have sc1 : (bnC z0 x0 z1 != bnC z0 x0 z1) = false := by simp
    go_enter Try.func11, Try.ntmps11
    go_wp2_with fail
    obtain ⟨W, hW⟩ : ∃ W, (w.alloc (.cells #[.int .i64 z0, .slice a0 n0 c0] 24)) = W := ⟨_, rfl⟩
    have XW : Ext w W := by rw [← hW]; exact (Ext.refl _).alloc _
    have kb0 : Bx W (w.heap.size) z0 a0 n0 c0 := by rw [← hW]; exact ⟨(World.cell?_alloc_at _ _ _ _ (by simp)).trans rfl, (World.cell?_alloc_at _ _ _ _ (by simp)).trans rfl⟩
    rw [hW]; clear hW
    have R_1 := h0.ext XW
    have X_2 := Ext.refl W
    have X_3 := Ext.refl W
    refine (szG_ok _ _ _ _ x0 1048576 _ (R_1.ext X_2) _ (by omega) (by omega) Hl0.out).mono ?_
    rintro e w1 ⟨rfl, E_4⟩
    have X_5 := Ext.trans XW E_4
    have X_6 := Ext.trans X_2 E_4
    clear X_2
    have X_7 := Ext.trans X_3 E_4
    clear X_3
    have p_8 := (kb0.ext X_7).1
    have p_9 := (kb0.ext X_7).2
    go_wp2_with fail
    refine (to_G z0 a0 n0 c0 x0 _ (R_1.ext X_6) (by have := h0.len; omega) (by omega)).mono ?_
    rintro e w2 ⟨a_c10, n_c10, c_c10, r_c10, rfl, O_11, E_12⟩
    clear p_8 p_9
    have R_13 := O_11.rd
    have X_14 := Ext.trans X_5 E_12
    have X_15 := Ext.trans X_6 E_12
    have X_16 := Ext.trans X_7 E_12
    have X_17 := Ext.refl w2
    go_wp2_with fail
    refine (specBur _ _ _ _ x0 _ _ (R_13.ext X_17) t0 lo0 hi0 lo1 hi1).mono ?_
    rintro e w3 ⟨rfl, E_18⟩
    have X_20 := Ext.trans X_14 E_18
    clear X_14
    have X_21 := Ext.trans X_15 E_18
    clear X_15
    have X_22 := Ext.trans X_16 E_18
    clear X_16
    have X_23 := Ext.trans X_17 E_18
    clear X_17
    have p_24 := (kb0.ext X_22).1
    have p_25 := (kb0.ext X_22).2
    go_wp2_with fail
    refine (to_G z0 a0 n0 c0 x0 _ (R_1.ext X_21) (by have := h0.len; omega) (by omega)).mono ?_
    rintro e w4 ⟨a_c26, n_c26, c_c26, r_c26, rfl, O_27, E_28⟩
    clear p_24 p_25
    have R_29 := O_27.rd
    have X_30 := Ext.trans X_20 E_28
    have X_31 := Ext.trans X_21 E_28
    have X_32 := Ext.trans X_22 E_28
    have X_33 := Ext.refl w4
    go_wp2_with fail
    obtain ⟨w5, hW_34⟩ : ∃ W, w4.alloc (.cells #[.int .i64 z0, .slice a_c26 n_c26 c_c26] 29) = W := ⟨_, rfl⟩
    have E_35 : Ext w4 w5 := by rw [← hW_34]; exact (Ext.refl _).alloc _
    have kb_36 : Bx w5 w4.heap.size z0 a_c26 n_c26 c_c26 := by rw [← hW_34]; exact ⟨(World.cell?_alloc_at _ _ _ _ rfl).trans rfl, (World.cell?_alloc_at _ _ _ _ rfl).trans rfl⟩
    rw [hW_34]; clear hW_34
    have X_37 := Ext.trans X_30 E_35
    have X_38 := Ext.trans X_31 E_35
    have X_39 := Ext.trans X_32 E_35
    have X_40 := Ext.trans X_33 E_35
    have X_41 := Ext.refl w5
    have p_42 := (kb_36.ext X_41).1
    have p_43 := (kb_36.ext X_41).2
    refine (implBur _ _ _ _ x0 _ _ (R_29.ext X_40) t0 lo0 hi0 lo1 hi1).mono ?_
    rintro e w6 ⟨rfl, E_44⟩
    clear p_42 p_43
    have X_46 := Ext.trans X_37 E_44
    clear X_37
    have X_47 := Ext.trans X_38 E_44
    clear X_38
    have X_48 := Ext.trans X_39 E_44
    clear X_39
    have X_49 := Ext.trans X_40 E_44
    clear X_40
    have X_50 := Ext.trans X_41 E_44
    clear X_41
    have p_51 := (kb_36.ext X_50).1
    have p_52 := (kb_36.ext X_50).2
    have p_53 := (kb0.ext X_48).1
    have p_54 := (kb0.ext X_48).2
    go_wp2_with fail
    go_region_held3 (fun w' => w'.cell? ⟨w4.heap.size, 0, none⟩ = some (.int .i64 z0) ∧ w'.cell? ⟨w4.heap.size, 1, none⟩ = some (.slice a_c26 n_c26 c_c26) ∧ w'.cell? ⟨(w.heap.size), 0, none⟩ = some (.int .i64 z0) ∧ w'.cell? ⟨(w.heap.size), 1, none⟩ = some (.slice a0 n0 c0))
      (first | exact ⟨p_51, p_52, p_53, p_54⟩ | exact ⟨Ext.cell ((Ext.refl _).drew) p_51, Ext.cell ((Ext.refl _).drew) p_52, Ext.cell ((Ext.refl _).drew) p_53, Ext.cell ((Ext.refl _).drew) p_54⟩ | exact ⟨Ext.cell (Ext.trans ((Ext.refl _).drew) E_56) p_51, Ext.cell (Ext.trans ((Ext.refl _).drew) E_56) p_52, Ext.cell (Ext.trans ((Ext.refl _).drew) E_56) p_53, Ext.cell (Ext.trans ((Ext.refl _).drew) E_56) p_54⟩ | exact ⟨Ext.cell (Ext.trans (Ext.trans ((Ext.refl _).drew) E_56) E_58) p_51, Ext.cell (Ext.trans (Ext.trans ((Ext.refl _).drew) E_56) E_58) p_52, Ext.cell (Ext.trans (Ext.trans ((Ext.refl _).drew) E_56) E_58) p_53, Ext.cell (Ext.trans (Ext.trans ((Ext.refl _).drew) E_56) E_58) p_54⟩)
      (first
        | (go_at_call 15; refine (to_G z0 a0 n0 c0 x0 _ ((R_1.ext X_47).ext ((Ext.refl _).drew)) (by have := h0.len; omega) (by omega)).mono ?_; rintro e w7 ⟨aq_57, nq_57, cq_57, rq_57, rfl, O_55, E_56⟩)
        | (go_at_call 18; refine (eq_G _ _ _ _ _ _ _ _ x0 x0 true _ ((R_29.ext X_49).ext (Ext.trans ((Ext.refl _).drew) E_56)) O_55.rd rfl (by simp)).mono ?_; rintro e w8 ⟨rfl, E_58⟩))
    have E_59 : Ext w6 w8 := (Ext.trans (Ext.trans ((Ext.refl _).drew) E_56) E_58)
    clear p_51 p_52 p_53 p_54
    have X_60 := Ext.trans X_46 E_59
    clear X_46
    have X_61 := Ext.trans X_47 E_59
    clear X_47
    have X_62 := Ext.trans X_48 E_59
    clear X_48
    have X_63 := Ext.trans X_49 E_59
    clear X_49
    have X_64 := Ext.trans X_50 E_59
    clear X_50
    go_wp2
    go_ret
    exact ⟨rfl, X_60⟩
  · skip
    go_enter Try.func11, Try.ntmps11
    go_wp2_with fail
    obtain ⟨W, hW⟩ : ∃ W, (w.alloc (.cells #[.int .i64 z0, .slice a0 n0 c0] 24)) = W := ⟨_, rfl⟩
    have XW : Ext w W := by rw [← hW]; exact (Ext.refl _).alloc _
    have kb0 : Bx W (w.heap.size) z0 a0 n0 c0 := by rw [← hW]; exact ⟨(World.cell?_alloc_at _ _ _ _ (by simp)).trans rfl, (World.cell?_alloc_at _ _ _ _ (by simp)).trans rfl⟩
    rw [hW]; clear hW
    refine (szG_no _ _ _ _ x0 1048576 _ (h0.ext XW) (by omega) (by omega) (by omega)).mono ?_
    rintro e v0 ⟨rfl, F0⟩
    have G0 := Ext.trans XW F0
    have EW := F0
    go_wp2
    go_ret
    exact ⟨rfl, G0⟩
end Go.Proofs.Ytjlfngnmmmaefaa
