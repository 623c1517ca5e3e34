/- The cyclic squares of both. Conditions: none. -/
import Derived.Test.YtmcdhhcoofcbiaaMat
namespace Go.Proofs.Ytmcdhhcoofcbiaa
open Go.RowKit

set_option maxHeartbeats 400000 in
theorem within_any (n lo hi : Int) (b : Bool) (hb : decide (lo ≤ n ∧ n ≤ hi) = b) (w : World) :
    Calls Try.prog 57 #[.int .i64 n, .int .i64 lo, .int .i64 hi] w fun e w' => e = .returned (.bool b) ∧ w = w' := by
  have Hb := Lib.hid hb
  clear hb
  by_cases h1 : lo ≤ n
  · by_cases h2 : n ≤ hi
    · go_enter Try.func57, Try.ntmps57
      go_wp2
      go_ret
      exact ⟨ret_bool (by rw [← Hb.out]; simp [h1, h2]), rfl⟩
    · go_enter Try.func57, Try.ntmps57
      go_wp2
      go_ret
      exact ⟨ret_bool (by rw [← Hb.out]; exact (decide_eq_false (by omega)).symm), rfl⟩
  · go_enter Try.func57, Try.ntmps57
    go_wp2
    go_ret
    exact ⟨ret_bool (by rw [← Hb.out]; exact (decide_eq_false (by omega)).symm), rfl⟩

set_option maxHeartbeats 400000 in
theorem l00In_any (n lo hi : Int) (b : Bool) (hb : decide (lo ≤ n ∧ n ≤ hi) = b) (w : World) :
    Calls Try.prog 55 #[.int .i64 n, .int .i64 lo, .int .i64 hi] w fun e w' => e = .returned (.bool b) ∧ w = w' := by
  have Hb := Lib.hid hb
  clear hb
  by_cases h1 : lo ≤ n
  · by_cases h2 : n ≤ hi
    · go_enter Try.func55, Try.ntmps55
      go_wp2
      go_ret
      exact ⟨ret_bool (by rw [← Hb.out]; simp [h1, h2]), rfl⟩
    · go_enter Try.func55, Try.ntmps55
      go_wp2
      go_ret
      exact ⟨ret_bool (by rw [← Hb.out]; exact (decide_eq_false (by omega)).symm), rfl⟩
  · go_enter Try.func55, Try.ntmps55
    go_wp2
    go_ret
    exact ⟨ret_bool (by rw [← Hb.out]; exact (decide_eq_false (by omega)).symm), rfl⟩

def cycM (n : Int) : List (List Int) := if 1 ≤ n ∧ n ≤ 10 then mat n.toNat n.toNat fun x y => ((x : Int) + (y : Int)) % n else []
def cycC (n : Int) : Int := if 1 ≤ n ∧ n ≤ 10 then 0 else 2

set_option maxHeartbeats 400000 in
theorem specCyclic_any (n : Int) (w : World) :
    Calls Try.prog 17 #[.int .i64 n] w (RetRC w (cycM n) (cycC n)) := by
  by_cases h : 1 ≤ n ∧ n ≤ 10
  · obtain ⟨k, rfl⟩ := Int.eq_ofNat_of_zero_le (show 0 ≤ n by omega)
    have hk0 : 0 < k := by omega
    have hk1 : k ≤ 10 := by omega
    have H := Lib.hid h
    clear h
    go_enter Try.func17, Try.ntmps17
    go_wp2_with fail
    refine (l00In_any _ _ _ true (decide_eq_true H.out) _).mono ?_
    rintro e w1 ⟨rfl, rfl⟩
    go_wp2_with fail
    refine (l06Cyclic_any k _ (by omega) hk0).mono ?_
    rintro e w1 ⟨a, n, c, rs, rfl, hO, hE⟩
    go_wp2
    go_ret2
    exact RetRC.mk_ hO (Nat.le_refl _) (by rw [cycM, if_pos H.out]; rfl) (by rw [cycC, if_pos H.out]) hE
  · have H := Lib.hid h
    clear h
    go_enter Try.func17, Try.ntmps17
    go_wp2_with fail
    refine (l00In_any _ _ _ false (decide_eq_false H.out) _).mono ?_
    rintro e w1 ⟨rfl, rfl⟩
    go_wp2
    go_ret2
    exact RetRC.nil_ (by rw [cycM, if_neg H.out]) (by rw [cycC, if_neg H.out]) (Ext.refl _)

set_option maxHeartbeats 400000 in
theorem cycF (k b : Nat) (w : World) (hk0 : 0 < k) (hk : k ≤ 10) (hc : w.cell? ⟨b, 0, none⟩ = some (.int .i64 k)) : Gives 60 #[.pointer (some ⟨b, 0, none⟩)] k (fun x y => ((x : Int) + (y : Int)) % (k : Int)) w := by
  intro x y w1 hx hy hE
  have hc1 := hE.cell hc
  clear hc
  show Calls Try.prog 60 #[.int .i64 x, .int .i64 y, .pointer (some ⟨b, 0, none⟩)] w1 _
  go_enter Try.func60, Try.ntmps60
  go_wp2
  go_ret
  exact ⟨rfl, Q.refl _⟩

set_option maxHeartbeats 400000 in
theorem implCyclic_any (n : Int) (w : World) :
    Calls Try.prog 18 #[.int .i64 n] w (RetRC w (cycM n) (cycC n)) := by
  have hmf : ∀ (fn : Fn) (first cap : Array Value) (w : World), (Instr.makeFunc fn first cap).run Try.prog w = .ok (.func fn first cap) w := fun _ _ _ _ => rfl
  by_cases h : 1 ≤ n ∧ n ≤ 10
  · obtain ⟨k, rfl⟩ := Int.eq_ofNat_of_zero_le (show 0 ≤ n by omega)
    have hk0 : 0 < k := by omega
    have hk1 : k ≤ 10 := by omega
    have H := Lib.hid h
    clear h
    go_enter Try.func18, Try.ntmps18
    go_wp2_with fail
    refine (within_any _ _ _ true (decide_eq_true H.out) _).mono ?_
    rintro e w1 ⟨rfl, rfl⟩
    go_wp2_with fail
    refine (filled k _ _ _ _ (by omega) (enters_of Try.func60 (by kernel_rfl) (by kernel_rfl)) (cycF k _ _ hk0 hk1 (by simp))).mono ?_
    rintro e w1 ⟨a, n, c, rs, rfl, hO, hE⟩
    go_wp2
    go_ret2
    exact RetRC.mk_ hO (by simp) (by rw [cycM, if_pos H.out]; rfl) (by rw [cycC, if_pos H.out]) (Ext.trans ((Ext.refl _).alloc _) hE)
  · have H := Lib.hid h
    clear h
    go_enter Try.func18, Try.ntmps18
    go_wp2_with fail
    refine (within_any _ _ _ false (decide_eq_false H.out) _).mono ?_
    rintro e w1 ⟨rfl, rfl⟩
    go_wp2
    go_ret2
    exact RetRC.nil_ (by rw [cycM, if_neg H.out]) (by rw [cycC, if_neg H.out]) ((Ext.refl _).alloc _)
end Go.Proofs.Ytmcdhhcoofcbiaa
