/- Rows of values laid anew by a sort. Conditions: none. -/
import Derived.Shelf.SlSortCmp.NoneTotal
import Derived.Test.YtnimmkfkijcbbaaDoorApp
namespace Go.Proofs.YtnimmkfkijcbbaaDoor
open Go.RowKit Go.Sort

theorem putCells_take {α : Type} [Inhabited α] (f : α → Value) (ys : List α) (cur : Array Value) (h : ys.length ≤ cur.size) : (putCells f 0 ys.toArray cur).toList.take ys.length = ys.map f := by
  apply List.ext_getElem?
  intro i
  rw [List.getElem?_take]
  by_cases hi : i < ys.length
  · have hc : i < cur.size := by omega
    simp [putCells, hi, hc]
  · simp [hi]

theorem own_put {α : Type} [Inhabited α] {E : TypeId} {f : α → Value} {w : World} {B n c g : Nat} {xs ys : List α} (h : Own E f w B (some ⟨g, 0, none⟩) n c xs) (hl : ys.length = n) (m : Nat) (os : Array Obj) :
    Own E f (grow (putRow f (Sort.ahead w m) g 0 ys.toArray) os) B (some ⟨g, 0, none⟩) n c ys ∧ Only (onlyA (some ⟨g, 0, none⟩)) w (grow (putRow f (Sort.ahead w m) g 0 ys.toArray) os) := by
  rcases h.cases with ⟨h1, _⟩ | ⟨g', cur, h1, h2, h3, h4, h5, h6, h7⟩
  · cases h1
  · simp only [Option.some.injEq, Addr.mk.injEq, and_true] at h1
    subst h1
    have hlt : g < w.heap.size := (Array.getElem?_eq_some_iff.1 h3).1
    refine ⟨Own.mk_ (cur := putCells f 0 ys.toArray cur) hl.symm h2 ?_ h4 h5 (by simp [putCells, h6]) (by rw [← hl]; exact putCells_take f ys cur (by omega)), ⟨rfl, rfl, rfl, by simp [putRow, mapBlock, Sort.ahead], fun b hb hs => ?_⟩⟩
    · rw [heap_grow_old _ _ (by simpa [putRow, mapBlock, Sort.ahead] using hlt)]
      simp [putRow, mapBlock, Sort.ahead, Array.getElem?_modify, h3, onCells]
    · have hne : ¬ g = b := fun e => hs (by subst e; rfl)
      rw [heap_grow_old _ _ (by simpa [putRow, mapBlock, Sort.ahead] using hb)]
      simp [putRow, mapBlock, Sort.ahead, Array.getElem?_modify, hne]

theorem own_holds' {α : Type} [Inhabited α] {E : TypeId} {f : α → Value} {w : World} {B n c g : Nat} {xs : List α} (h : Own E f w B (some ⟨g, 0, none⟩) n c xs) : Holds f w g 0 xs.toArray := by
  intro j hj
  have hj' : j < xs.length := by simpa using hj
  obtain ⟨g', x, h1, _, h2, h3, h4⟩ := h.at_ (k := j) (by rw [h.len]; exact hj')
  cases h1
  have e := h4.out
  rw [List.getElem?_eq_getElem hj'] at e
  cases e
  rw [Nat.zero_add]
  exact ⟨by rw [h2]; simp [hj'], h3⟩
end Go.Proofs.YtnimmkfkijcbbaaDoor
