/- The law FnExactCyclicSquare returns true. Conditions: none. -/
import Derived.Test.YtmcdhhcoofcbiaaCyc
import Derived.Test.YtmcdhhcoofcbiaaEq
import Derived.Test.YtmcdhhcoofcbiaaMark
namespace Go.Proofs.Ytmcdhhcoofcbiaa
open Go.RowKit

theorem tot_mat_le (r c : Nat) (f : Nat → Nat → Int) : tot (mat r c f) = r * c := by
  have : ∀ l : List Nat, tot (l.map fun x => (List.range c).map fun y => f x y) = l.length * c := by
    intro l
    induction l with
    | nil => simp [tot]
    | cons x r ih => simp only [List.map_cons, tot, ih, List.length_cons]; simp [Nat.succ_mul]; omega
  rw [mat, this]; simp

theorem tot_cycM (n : Int) : tot (cycM n) ≤ 100 := by
  unfold cycM
  split
  · rename_i h
    rw [tot_mat_le]
    exact Nat.mul_le_mul (show n.toNat ≤ 10 by omega) (show n.toNat ≤ 10 by omega)
  · simp [tot]

set_option maxRecDepth 100000 in
set_option maxHeartbeats 1600000 in
theorem lawCyc (n : Int) (w : World) (_ : -9223372036854775808 ≤ n) (_ : n ≤ 9223372036854775807) : Calls Try.prog 4 #[.int .i64 n] w fun e w' => e = .returned (.bool true) ∧ Ext w w' := by
  have ht := tot_cycM n
  have h1 := specCyclic_any n
  have h2 := implCyclic_any n
  generalize cycM n = M at *
  generalize cycC n = code at *
  have hcc : (code != code) = false := by simp
  have H1 := Lib.hid h1
  have H2 := Lib.hid h2
  clear h1 h2
  go_enter Try.func4, Try.ntmps4
  go_wp2_with fail
  refine (H1.out _).mono ?_
  rintro e w1 ⟨a0, n0, c0, rs0, rfl, hO0, hE0⟩
  have hR0 := hO0.rd
  go_wp2_with fail
  refine (H2.out _).mono ?_
  rintro e w2 ⟨a1, n1, c1, rs1, rfl, hO1, hE1⟩
  go_wp2_with fail
  refine (eq_SS _ _ _ _ _ _ M M true _ hO1.rd (hR0.ext hE1) (by simp)).mono ?_
  rintro e w3 ⟨rfl, hQ3⟩
  have hE3 := hE1.trans hQ3.ext
  have hO3 := hO1.ext hQ3.ext
  go_wp2_with fail
  refine (mark_SS _ _ _ _ M rs1 1 _ hO3 (by omega) (by omega) (by omega)).mono ?_
  rintro e w4 ⟨rfl, hO4, hL4⟩
  have hE4 := hE3.only hL4 (fun b hb => (hO3.lt hb).1)
  go_wp2_with fail
  refine (held_SS _ _ _ M 1 _ hO4.rd (by omega) (by omega) (by omega)).mono ?_
  rintro e w5 ⟨rfl, hQ5⟩
  have hneg : ¬ ((1 : Int) + tot M < 0) := by omega
  have hne : ((1 : Int) + tot M != 1 + tot M) = false := by simp
  go_wp2_with fail
  refine (H2.out _).mono ?_
  rintro e w6 ⟨a2, n2, c2, rs2, rfl, hO6, hE6⟩
  have hE56 := hQ5.ext.trans hE6
  have hE06 := hE4.trans hE56
  go_wp2_with fail
  refine (eq_SS _ _ _ _ _ _ M M true _ hO6.rd (hR0.ext hE06) (by simp)).mono ?_
  rintro e w7 ⟨rfl, hQ7⟩
  go_wp2_with fail
  refine (held_SS _ _ _ M 1 _ (hO4.rd.ext (hE56.trans hQ7.ext)) (by omega) (by omega) (by omega)).mono ?_
  rintro e w8 ⟨rfl, hQ8⟩
  go_wp2
  go_ret
  exact ⟨rfl, hE0.trans (hE06.trans (hQ7.ext.trans hQ8.ext))⟩
end Go.Proofs.Ytmcdhhcoofcbiaa
