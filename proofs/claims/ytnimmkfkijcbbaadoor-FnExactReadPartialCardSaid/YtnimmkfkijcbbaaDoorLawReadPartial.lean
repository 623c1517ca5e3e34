/- The walk of the law FnExactReadPartial: it returns true. Conditions: none. -/
import Derived.Test.YtnimmkfkijcbbaaDoorRpt
import Derived.Test.YtnimmkfkijcbbaaDoorTo
import Derived.Test.YtnimmkfkijcbbaaDoorEq
import Derived.Test.YtnimmkfkijcbbaaDoorMark
import Derived.Test.YtnimmkfkijcbbaaDoorSz
namespace Go.Proofs.YtnimmkfkijcbbaaDoor
open Go.RowKit

set_option maxRecDepth 100000 in
set_option maxHeartbeats 1600000 in
theorem lawReadPartial (s0 : ByteArray) (m : Int) (w : World) (hm : w.cell? ⟨0, 0, none⟩ = some (.int .i64 m)) (hT : Tab w) :
    Calls Tryd.prog 4 #[.string s0] w fun e w' => e = .returned (.bool true) ∧ Ext w w' := by
  obtain ⟨l, rfl⟩ : ∃ l, s0 = bs l := ⟨s0.data.toList, by simp [bs]⟩
  by_cases hbig : l.length > 1048576
  · have hb1 : (bs l).size > 1048576 := by rw [bs_size]; exact hbig
    have hb2 : ((bs l).size : Int) > 1048576 := by omega
    clear hbig
    go_enter Tryd.func4, Tryd.ntmps4
    go_wp2
    go_ret
    exact ⟨rfl, Ext.refl _⟩
  have hl : l.length ≤ 1048576 := by omega
  have hb2 : ¬ (((bs l).size : Int) > 1048576) := by rw [bs_size]; omega
  clear hbig
  have X_1 := Ext.refl w
  have bnd := rpM_tot l
  have sc1 : (pb (POk (rdP l)) != pb (POk (rdP l))) = false := by simp
  go_enter Tryd.func4, Tryd.ntmps4
  go_wp2_with fail
  refine (specRpt l _ hl).mono ?_
  rintro e w1 ⟨a_res1, n_res1, c_res1, r_res1, rfl, O_3, E_2⟩
  have R_4 := O_3.rd
  have X_5 := Ext.trans X_1 E_2
  have X_6 := Ext.refl w1
  go_wp2_with fail
  refine (implRpt l m _ (X_5.cell hm) (hT.ext X_5) hl).mono ?_
  rintro e w2 ⟨a_res2, n_res2, c_res2, r_res2, rfl, O_8, E_7⟩
  have R_9 := O_8.rd
  have X_10 := Ext.trans X_5 E_7
  have X_11 := Ext.trans X_6 E_7
  have X_12 := Ext.refl w2
  go_wp2_with fail
  refine (eq_SS _ _ _ _ _ _ (rpM l) (rpM l) true _ (R_9.ext X_12) (R_4.ext X_11) (by simp)).mono ?_
  rintro e w3 ⟨rfl, Q_13⟩
  have X_14 := Ext.trans X_10 (Q.ext Q_13)
  clear X_10
  have X_15 := Ext.trans X_11 (Q.ext Q_13)
  clear X_11
  have X_16 := Ext.trans X_12 (Q.ext Q_13)
  clear X_12
  go_wp2_with fail
  have O_17 := O_8.ext X_16
  refine (mark_SS _ _ _ _ (rpM l) _ 1 _ O_17 (by omega) (by omega) (by omega)).mono ?_
  rintro e w4 ⟨rfl, O_18, L_19⟩
  have X_20 := Ext.only X_14 L_19 (fun b hb => Nat.le_trans (Ext.size X_5) (O_17.lt hb).1)
  clear X_14
  have X_21 := Ext.only X_15 L_19 (fun b hb => Nat.le_trans (Ext.size X_6) (O_17.lt hb).1)
  clear X_15
  have R_22 := O_18.rd
  have X_23 := Ext.refl w4
  have neg1 : ¬ ((1 : Int) + (tot (rpM l) : Nat) < 0) := by omega
  have neq1 : ((1 : Int) + (tot (rpM l) : Nat) != 1 + (tot (rpM l) : Nat)) = false := by simp
  go_wp2_with fail
  refine (held_SS _ _ _ (rpM l) 1 _ (R_22.ext X_23) (by omega) (by omega) (by omega)).mono ?_
  rintro e w5 ⟨rfl, Q_24⟩
  have X_25 := Ext.trans X_20 (Q.ext Q_24)
  clear X_20
  have X_26 := Ext.trans X_21 (Q.ext Q_24)
  clear X_21
  have X_27 := Ext.trans X_23 (Q.ext Q_24)
  clear X_23
  go_wp2_with fail
  refine (implRpt l m _ (X_25.cell hm) (hT.ext X_25) hl).mono ?_
  rintro e w6 ⟨a_res6, n_res6, c_res6, r_res6, rfl, O_29, E_28⟩
  have R_30 := O_29.rd
  have X_31 := Ext.trans X_25 E_28
  have X_32 := Ext.trans X_26 E_28
  have X_33 := Ext.trans X_27 E_28
  have X_34 := Ext.refl w6
  go_wp2_with fail
  refine (eq_SS _ _ _ _ _ _ (rpM l) (rpM l) true _ (R_30.ext X_34) (R_4.ext X_32) (by simp)).mono ?_
  rintro e w7 ⟨rfl, Q_35⟩
  have X_36 := Ext.trans X_31 (Q.ext Q_35)
  clear X_31
  have X_37 := Ext.trans X_32 (Q.ext Q_35)
  clear X_32
  have X_38 := Ext.trans X_33 (Q.ext Q_35)
  clear X_33
  have X_39 := Ext.trans X_34 (Q.ext Q_35)
  clear X_34
  go_wp2_with fail
  refine (held_SS _ _ _ (rpM l) 1 _ (R_22.ext X_38) (by omega) (by omega) (by omega)).mono ?_
  rintro e w8 ⟨rfl, Q_40⟩
  have X_41 := Ext.trans X_36 (Q.ext Q_40)
  clear X_36
  have X_42 := Ext.trans X_37 (Q.ext Q_40)
  clear X_37
  have X_43 := Ext.trans X_38 (Q.ext Q_40)
  clear X_38
  have X_44 := Ext.trans X_39 (Q.ext Q_40)
  clear X_39
  go_wp2
  go_ret
  exact ⟨rfl, X_41⟩
end Go.Proofs.YtnimmkfkijcbbaaDoor
