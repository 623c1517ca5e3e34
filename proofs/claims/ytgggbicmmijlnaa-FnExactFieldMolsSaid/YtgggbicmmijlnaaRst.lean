/- Results that are structs. Conditions: none. -/
import Derived.Test.YtgggbicmmijlnaaLib
namespace Go.Proofs.Ytgggbicmmijlnaa
open Go.RowKit

/-- A struct that lies in a block of its own, and a further value. -/
theorem results_row_tmp {fn : Func} {p u : Tmp} {ty : TypeId} (h : fn.results = #[.cell p ty, .tmp u]) (tmps : Array Value) (w : World) (g : Nat) (cs : Array Value)
    (hp : tmps.getD p undef = .pointer (some ⟨g, 0, none⟩)) (hl : (loadVar ty ⟨g, 0, none⟩).run Try.prog w = .ok (.agg cs) w) :
    (results fn tmps).run Try.prog w = .ok (.tuple #[.agg cs, tmps.getD u undef]) w := by
  rw [results_cell_tmp h]
  have hp' : tmps[p]?.getD undef = .pointer (some ⟨g, 0, none⟩) := by simpa using hp
  simp [hp', asAddr, hl]

theorem heap_ext {w w' : World} {g : Nat} {o : Obj} (h : Ext w w') (k : w.heap[g]? = some o) : w'.heap[g]? = some o := by
  have hl : g < w.heap.size := (Array.getElem?_eq_some_iff.1 k).1
  rw [← k]; exact Below.block h g hl
theorem cell_blk {w : World} {g k : Nat} {cs : Array Value} {t : TypeId} {v : Value} (h : w.heap[g]? = some (.cells cs t (0, 0))) (hk : cs[k]? = some v) : w.cell? ⟨g, k, none⟩ = some v := by
  simp [World.cell?, h, hk]
theorem frozen_blk {w : World} {g k : Nat} {cs : Array Value} {t : TypeId} (h : w.heap[g]? = some (.cells cs t (0, 0))) : w.frozen? ⟨g, k, none⟩ = false := by
  simp [World.frozen?, h]
theorem only_heap {w w' : World} {S : Nat → Prop} {g : Nat} {o : Obj} (h : Only S w w') (hl : g < w.heap.size) (hg : ¬ S g) (k : w.heap[g]? = some o) : w'.heap[g]? = some o := by
  rw [← k]; exact h.block g hl hg
theorem frozen_other {w w' : World} {p : Addr} (h : w'.heap[p.block]? = w.heap[p.block]?) : w'.frozen? p = w.frozen? p := by simp [World.frozen?, h]
end Go.Proofs.Ytgggbicmmijlnaa
