/- forPairs: a condition on all pairs of numbers of a square. Conditions: none. -/
import Derived.Test.YtkapkieeafhaoaaFAll
import Derived.Test.YtkapkieeafhaoaaUnitP
namespace Go.Proofs.Ytkapkieeafhaoaa
open Go.RowKit

/-- A function value that is asked of pairs of numbers below n: what it answers. -/
def AskP (F : FuncId) (cap : Array Value) (n : Nat) (g : Nat → Nat → Bool) (w : World) : Prop :=
  ∀ (x y : Nat) (w1 : World), x < n → y < n → Ext w w1 → Calls Try.prog F (#[.int .i64 x, .int .i64 y] ++ cap) w1 fun e w2 => e = .returned (.bool (g x y)) ∧ Ext w1 w2
theorem AskP.ext {F : FuncId} {cap : Array Value} {n : Nat} {g : Nat → Nat → Bool} {w w' : World} (h : AskP F cap n g w) (k : Ext w w') : AskP F cap n g w' :=
  fun x y w1 hx hy hE => h x y w1 hx hy (k.trans hE)

def All2 (n : Nat) (g : Nat → Nat → Bool) : Prop := ∀ x y, x < n → y < n → g x y = true

set_option maxRecDepth 100000 in
set_option maxHeartbeats 800000 in
theorem pairIn (n : Nat) (b1 b2 : Nat) (F : FuncId) (cap : Array Value) (g : Nat → Nat → Bool) (x : Nat) (w : World) (hF : Enters F) (hg : AskP F cap n g w) (hx : x < n)
    (k1 : w.cell? ⟨b1, 0, none⟩ = some (.func (.func F) #[] cap)) (k2 : w.cell? ⟨b2, 0, none⟩ = some (.int .i64 x)) :
    AskN 105 #[.pointer (some ⟨b1, 0, none⟩), .pointer (some ⟨b2, 0, none⟩)] n (g x) w := by
  intro y w1 hy hE
  have hen : ∀ (args : Array Value) (w : World), (callFunc F args).run Try.prog w = .ok (.enter F args) w := hF
  have Hg := Lib.hid (hg.ext hE)
  replace k1 := hE.cell k1
  replace k2 := hE.cell k2
  clear hg hE
  show Calls Try.prog 105 #[.int .i64 y, .pointer (some ⟨b1, 0, none⟩), .pointer (some ⟨b2, 0, none⟩)] w1 _
  go_enter Try.func105, Try.ntmps105
  go_wp2_with fail
  refine (Hg.out x y w1 hx hy (Ext.refl _)).mono ?_
  rintro e w2 ⟨rfl, hE2⟩
  go_wp2
  go_ret
  exact ⟨rfl, hE2⟩

set_option maxRecDepth 100000 in
set_option maxHeartbeats 800000 in
theorem pairOut (a : Option Addr) (n c : Nat) (b1 b2 : Nat) (F : FuncId) (cap : Array Value) (g : Nat → Nat → Bool) (w : World) (hn : n ≤ 1000000) (hF : Enters F) (hg : AskP F cap n g w)
    (k1 : w.cell? ⟨b1, 0, none⟩ = some (.slice a n c)) (k2 : w.cell? ⟨b2, 0, none⟩ = some (.func (.func F) #[] cap)) :
    AskN 104 #[.pointer (some ⟨b1, 0, none⟩), .pointer (some ⟨b2, 0, none⟩)] n (fun x => pb (AllN n (g x))) w := by
  intro x w1 hx hE
  have hmf : ∀ (fn : Fn) (first cap : Array Value) (w : World), (Instr.makeFunc fn first cap).run Try.prog w = .ok (.func fn first cap) w := fun _ _ _ _ => rfl
  have Hg := Lib.hid (hg.ext hE)
  replace k1 := hE.cell k1
  replace k2 := hE.cell k2
  have lt1 := World.block_lt_of_cell? _ _ k1
  have lt1n := Nat.ne_of_lt lt1
  have lt2 := World.block_lt_of_cell? _ _ k2
  have lt2n := Nat.ne_of_lt lt2
  clear hg hE
  show Calls Try.prog 104 #[.int .i64 x, .pointer (some ⟨b1, 0, none⟩), .pointer (some ⟨b2, 0, none⟩)] w1 _
  go_enter Try.func104, Try.ntmps104
  go_wp2_with fail
  obtain ⟨W, hW⟩ : ∃ W, w1.alloc (.cells #[.int .i64 x] 2) = W := ⟨_, rfl⟩
  have hEW : Ext w1 W := by rw [← hW]; exact (Ext.refl _).alloc _
  have k3 : W.cell? ⟨w1.heap.size, 0, none⟩ = some (.int .i64 x) := by rw [← hW]; exact (World.cell?_alloc_at _ _ _ _ rfl).trans rfl
  rw [hW]
  clear hW
  refine (forAll_any _ n _ _ _ (g x) _ (by omega) (enters_of Try.func105 (by kernel_rfl) (by kernel_rfl)) (pairIn n _ _ F cap g x W hF (Hg.out.ext hEW) hx (hEW.cell k2) k3)).mono ?_
  rintro e w2 ⟨rfl, hE2⟩
  go_wp2
  go_ret
  exact ⟨rfl, hEW.trans hE2⟩

set_option maxRecDepth 100000 in
set_option maxHeartbeats 800000 in
theorem forPairs_any (a : Option Addr) (n c : Nat) (F : FuncId) (cap : Array Value) (g : Nat → Nat → Bool) (w : World) (hn : n ≤ 1000000) (hF : Enters F) (hg : AskP F cap n g w) :
    Calls Try.prog 57 #[.slice a n c, .func (.func F) #[] cap] w fun e w' => e = .returned (.bool (pb (All2 n g))) ∧ Ext w w' := by
  have hmf : ∀ (fn : Fn) (first cap : Array Value) (w : World), (Instr.makeFunc fn first cap).run Try.prog w = .ok (.func fn first cap) w := fun _ _ _ _ => rfl
  have Hg := Lib.hid hg
  clear hg
  go_enter Try.func57, Try.ntmps57
  go_wp2_with fail
  obtain ⟨W, hW⟩ : ∃ W, (w.alloc (.cells #[.slice a n c] 22)).alloc (.cells #[.func (.func F) #[] cap] 55) = W := ⟨_, rfl⟩
  have hEW : Ext w W := by rw [← hW]; exact ((Ext.refl _).alloc _).alloc _
  have k1 : W.cell? ⟨w.heap.size, 0, none⟩ = some (.slice a n c) := by rw [← hW]; exact (World.cell?_alloc_past _ _ _ (by simp)).trans ((World.cell?_alloc_at _ _ _ _ rfl).trans rfl)
  have k2 : W.cell? ⟨w.heap.size + 1, 0, none⟩ = some (.func (.func F) #[] cap) := by rw [← hW]; exact (World.cell?_alloc_at _ _ _ _ (by simp)).trans rfl
  rw [hW]
  clear hW
  refine (forAll_any _ n _ _ _ (fun x => pb (AllN n (g x))) _ (by omega) (enters_of Try.func104 (by kernel_rfl) (by kernel_rfl)) (pairOut a n c _ _ F cap g W hn hF (Hg.out.ext hEW) k1 k2)).mono ?_
  rintro e w2 ⟨rfl, hE2⟩
  rw [show pb (AllN n fun x => pb (AllN n (g x))) = pb (All2 n g) from pb_congr ⟨fun h x y hx hy => (pb_iff.1 (h x hx)) y hy, fun h x hx => pb_true (fun y hy => h x y hx hy)⟩]
  go_wp2
  go_ret
  exact ⟨rfl, hEW.trans hE2⟩
end Go.Proofs.Ytkapkieeafhaoaa
