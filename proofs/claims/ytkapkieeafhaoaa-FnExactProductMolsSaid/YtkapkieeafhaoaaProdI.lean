/- The product of two squares, by impl. Conditions: none. -/
import Derived.Test.YtkapkieeafhaoaaProd
namespace Go.Proofs.Ytkapkieeafhaoaa
open Go.RowKit

set_option maxRecDepth 100000 in
set_option maxHeartbeats 300000 in
theorem product_any (a : Option Addr) (n c : Nat) (p : List (List Int)) (a' : Option Addr) (m c' : Nat) (q : List (List Int)) (K : Nat) (w : World)
    (hp : RdR w a n c p) (hq : RdR w a' m c' q) (ht : TwoP p q n m K) :
    Calls Try.prog 99 #[.slice a n c, .slice a' m c'] w (RetR w (mat K K (prodF p q m))) := by
  have hmf : ∀ (fn : Fn) (first cap : Array Value) (w : World), (Instr.makeFunc fn first cap).run Try.prog w = .ok (.func fn first cap) w := fun _ _ _ _ => rfl
  have hb1 := hp.le
  have hb2 := hp.max
  have hb3 := hq.le
  have hb4 := hq.max
  have hn : n ≤ 10 := by have := ht.1.2.1; have := ht.2.2.1; omega
  have hm : m ≤ 10 := by have := ht.2.1.2.1; have := ht.2.2.2.1; omega
  have hK : (n : Int) * (m : Int) = (K : Int) := by have := ht.2.2.2.2.1; exact_mod_cast this
  have hK1 : K ≤ 10 := ht.2.2.2.2.2
  have e0 : (n : Int) * (m : Int) ≤ 10 := by omega
  have e1 : 0 ≤ (n : Int) * (m : Int) := by omega
  have hw0 : IntKind.i64.wrap ((n : Int) * (m : Int)) = (K : Int) := by rw [hK]; exact IntWalk.i64_in _ (by omega)
  have hwK : IntKind.i64.wrap (K : Int) = (K : Int) := IntWalk.i64_in _ (by omega)
  have Ht := Lib.hid ht
  clear ht
  go_enter Try.func99, Try.ntmps99
  go_wp2_with fail
  refine (sizeR_any _ _ _ _).mono ?_
  rintro e w2 ⟨rfl, rfl⟩
  go_wp2_with fail
  have f1 : (((w.alloc (.cells #[.slice a n c] 22)).alloc (.cells #[.slice a' m c'] 22)).alloc (.cells #[.int .i64 m] 2)).cell? ⟨w.heap.size + 1 + 1, 0, none⟩ = some (.int .i64 m) := (World.cell?_alloc_at _ _ _ _ (by simp)).trans rfl
  have f2 : (((w.alloc (.cells #[.slice a n c] 22)).alloc (.cells #[.slice a' m c'] 22)).alloc (.cells #[.int .i64 m] 2)).cell? ⟨w.heap.size, 0, none⟩ = some (.slice a n c) := (World.cell?_alloc_past _ _ _ (by simp <;> omega)).trans ((World.cell?_alloc_past _ _ _ (by simp)).trans ((World.cell?_alloc_at _ _ _ _ rfl).trans rfl))
  have f3 : (((w.alloc (.cells #[.slice a n c] 22)).alloc (.cells #[.slice a' m c'] 22)).alloc (.cells #[.int .i64 m] 2)).cell? ⟨w.heap.size + 1, 0, none⟩ = some (.slice a' m c') := (World.cell?_alloc_past _ _ _ (by simp)).trans ((World.cell?_alloc_at _ _ _ _ (by simp)).trans rfl)
  have hEx : Ext w (((w.alloc (.cells #[.slice a n c] 22)).alloc (.cells #[.slice a' m c'] 22)).alloc (.cells #[.int .i64 m] 2)) := Ext.alloc (Ext.alloc (Ext.alloc (Ext.refl _) _) _) _
  obtain ⟨W, hW⟩ : ∃ W, ((w.alloc (.cells #[.slice a n c] 22)).alloc (.cells #[.slice a' m c'] 22)).alloc (.cells #[.int .i64 m] 2) = W := ⟨_, rfl⟩
  rw [hW] at f1 f2 f3 hEx ⊢
  clear hW
  have hpW := hp.ext hEx
  have hqW := hq.ext hEx
  generalize w.heap.size + 1 + 1 = B5 at f1 f2 f3 ⊢
  generalize w.heap.size + 1 = B3 at f1 f2 f3 ⊢
  generalize hB2 : w.heap.size = B2 at f1 f2 f3 ⊢
  go_region_held3 (fun w' => w'.cell? ⟨B2, 0, none⟩ = some (.slice a n c) ∧ w'.cell? ⟨B5, 0, none⟩ = some (.int .i64 m))
    (first | exact ⟨f2, f1⟩ | exact ⟨Ext.cell ((Ext.refl _).drew) f2, Ext.cell ((Ext.refl _).drew) f1⟩ | exact ⟨Ext.cell (Ext.trans ((Ext.refl _).drew) hE2) f2, Ext.cell (Ext.trans ((Ext.refl _).drew) hE2) f1⟩)
    (first
      | (go_at_call 55; refine (sizeR_any _ _ _ _).mono ?_; rintro e w2 ⟨rfl, rfl⟩)
      | (go_at_call 90; refine (filled K _ _ (prodF p q m) _ (by omega) (enters_of Try.func131 (by kernel_rfl) (by kernel_rfl)) (prodG n m K _ _ _ a c p a' c' q _ (hpW.ext ((Ext.refl _).drew)) (hqW.ext ((Ext.refl _).drew)) Ht.out (Ext.cell ((Ext.refl _).drew) f1) (Ext.cell ((Ext.refl _).drew) f2) (Ext.cell ((Ext.refl _).drew) f3))).mono ?_; rintro e w3 ⟨a1, n1, c1, rs, rfl, hO, hE2⟩))
  all_goals (
    have hEE := hEx.trans (Ext.trans ((Ext.refl _).drew) hE2)
    have hszz := (hEx.trans ((Ext.refl _).drew)).size
    go_wp2
    go_ret
    exact ⟨_, _, _, _, rfl, hO.base hszz, hEE⟩)

end Go.Proofs.Ytkapkieeafhaoaa
