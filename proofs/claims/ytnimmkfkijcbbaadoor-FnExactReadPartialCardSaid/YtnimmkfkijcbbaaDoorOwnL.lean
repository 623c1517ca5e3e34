/- Copies of lists. Conditions: none. -/
import Derived.Test.YtnimmkfkijcbbaaDoorSz
import Derived.Test.YtnimmkfkijcbbaaDoorApp
namespace Go.Proofs.YtnimmkfkijcbbaaDoor
open Go.RowKit


set_option maxHeartbeats 400000 in
theorem slClone_any (a : Option Addr) (n c : Nat) (xs : List Int) (w : World) (hx : RdI w a n c xs) (hn : n ≤ 1099511627775) :
    Calls Tryd.prog 62 #[.slice a n c] w (RetI w xs) := by
  have h0 := Own.empty 2 (Value.int .i64) w
  have hx2 := hx.ext ((Ext.refl w).alloc (.cells #[] 2))
  have hnil := fun (w : World) (a : Option Addr) (n c : Nat) => Lib.run_eql_slice_nil (P := Tryd.prog) w 32 2 a n c 0 0 Tryd.underlying32
  cases a with
  | none =>
    obtain rfl : c = 0 := hx.nil rfl
    obtain rfl : n = 0 := by have := hx.le; omega
    obtain rfl : xs = [] := List.eq_nil_of_length_eq_zero hx.len.symm
    go_enter Tryd.func62, Tryd.ntmps62
    go_wp2
    go_ret
    exact ⟨_, _, _, rfl, Own.nil_ _ _ _ _, Ext.refl _⟩
  | some xa =>
    go_enter Tryd.func62, Tryd.ntmps62
    go_wp2_with (at_builtin; refine app_list rfl _ _ rfl h0 (by simp) hx2 (by omega) rfl rfl ?_; intro a2 c2 w3 hown honly hmv)
    go_ret
    have hE := Ext.app ((Ext.refl w).alloc (.cells #[] 2)) h0 honly (Nat.le_refl _)
    rw [List.nil_append] at hown
    exact ⟨_, _, _, by first | rfl | simp, by first | exact hown | simpa using hown, hE⟩





end Go.Proofs.YtnimmkfkijcbbaaDoor
