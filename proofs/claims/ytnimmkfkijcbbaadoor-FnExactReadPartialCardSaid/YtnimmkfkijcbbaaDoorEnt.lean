/- Function values. Conditions: none. -/
import Derived.Test.YtnimmkfkijcbbaaDoorLib
namespace Go.Proofs.YtnimmkfkijcbbaaDoor
open Go.RowKit

/-- F is a function with a body. -/
def Enters (F : FuncId) : Prop := ∀ (args : Array Value) (w : World), (callFunc F args).run Tryd.prog w = .ok (.enter F args) w

theorem enters_of {F : FuncId} {fn : Func} (h : Tryd.prog.funcs[F]? = some fn) (hn : (fn.name == "runtime.NumGoroutine") = false) (hb : fn.body.isNone = false) : Enters F := by
  intro args w
  have hn' : fn.name ≠ "runtime.NumGoroutine" := beq_eq_false_iff_ne.1 hn
  have hb' : fn.body ≠ none := fun e => by rw [e] at hb; cases hb
  simp [callFunc, h, hn', hb']


theorem mem_of_get {α : Type} {xs : List α} {k : Nat} {x : α} (h : xs[k]? = some x) : x ∈ xs := List.mem_of_getElem? h

/-- A list of which no element of the first k has a property, one step on. -/
theorem none_succ {α : Type} {xs : List α} {p : α → Prop} {k : Nat} {x : α} (h : ∀ y, y ∈ xs.take k → ¬ p y) (hx : xs[k]? = some x) (hp : ¬ p x) : ∀ y, y ∈ xs.take (k + 1) → ¬ p y := by
  intro y hy
  obtain ⟨hk, rfl⟩ := List.getElem?_eq_some_iff.1 hx
  rw [List.take_succ_eq_append_getElem hk, List.mem_append, List.mem_singleton] at hy
  rcases hy with hy | rfl
  · exact h y hy
  · exact hp


end Go.Proofs.YtnimmkfkijcbbaaDoor
