/- slices.Sort on integers that are owned. Conditions: none. -/
import Derived.Test.YtkapkieeafhaoaaSort
import Derived.Test.YtkapkieeafhaoaaPermP
import Derived.Test.YtkapkieeafhaoaaApp
namespace Go.Proofs.Ytkapkieeafhaoaa
open Go.RowKit Go.Sort

theorem putCells_take {α : Type} [Inhabited α] (f : α → Value) (ys : List α) (cur : Array Value) (h : ys.length ≤ cur.size) : (putCells f 0 ys.toArray cur).toList.take ys.length = ys.map f := by
  apply List.ext_getElem?
  intro i
  rw [List.getElem?_take]
  by_cases hi : i < ys.length
  · have hc : i < cur.size := by omega
    simp [putCells, hi, hc]
  · simp [hi]

theorem own_put {α : Type} [Inhabited α] {E : TypeId} {f : α → Value} {w : World} {B n c g : Nat} {xs ys : List α} (h : Own E f w B (some ⟨g, 0, none⟩) n c xs) (hl : ys.length = n) (m : Nat) (os : Array Obj) :
    Own E f (grow (putRow f (Sort.ahead w m) g 0 ys.toArray) os) B (some ⟨g, 0, none⟩) n c ys ∧ Only (onlyA (some ⟨g, 0, none⟩)) w (grow (putRow f (Sort.ahead w m) g 0 ys.toArray) os) := by
  rcases h.cases with ⟨h1, _⟩ | ⟨g', cur, h1, h2, h3, h4, h5, h6, h7⟩
  · cases h1
  · simp only [Option.some.injEq, Addr.mk.injEq, and_true] at h1
    subst h1
    have hlt : g < w.heap.size := (Array.getElem?_eq_some_iff.1 h3).1
    refine ⟨Own.mk_ (cur := putCells f 0 ys.toArray cur) hl.symm h2 ?_ h4 h5 (by simp [putCells, h6]) (by rw [← hl]; exact putCells_take f ys cur (by omega)), ⟨rfl, rfl, rfl, by simp [putRow, mapBlock, Sort.ahead], fun b hb hs => ?_⟩⟩
    · rw [heap_grow_old _ _ (by simpa [putRow, mapBlock, Sort.ahead] using hlt)]
      simp [putRow, mapBlock, Sort.ahead, Array.getElem?_modify, h3, onCells]
    · have hne : ¬ g = b := fun e => hs (by subst e; rfl)
      rw [heap_grow_old _ _ (by simpa [putRow, mapBlock, Sort.ahead] using hb)]
      simp [putRow, mapBlock, Sort.ahead, Array.getElem?_modify, hne]

theorem own_holds {E : TypeId} {w : World} {B n c g : Nat} {xs : List Int} (h : Own E (Value.int .i64) w B (some ⟨g, 0, none⟩) n c xs) : Holds (Value.int .i64) w g 0 xs.toArray := by
  intro j hj
  have hj' : j < xs.length := by simpa using hj
  obtain ⟨g', x, h1, _, h2, h3, h4⟩ := h.at_ (k := j) (by rw [h.len]; exact hj')
  cases h1
  have e := h4.out
  rw [List.getElem?_eq_getElem hj'] at e
  cases e
  rw [Nat.zero_add]
  exact ⟨by rw [h2]; simp [hj'], h3⟩

/-- slices.Sort. -/
theorem slSort_any {E : TypeId} {B n c : Nat} {a : Option Addr} {xs : List Int} (w : World) (h : Own E (Value.int .i64) w B a n c xs) (hn : n ≤ 1099511627776) :
    Calls Try.prog 73 #[.slice a n c] w fun e w' => e = .returned (.tuple #[]) ∧ Own E (Value.int .i64) w' B a n c (xs.mergeSort leb) ∧ Only (onlyA a) w w' := by
  have hl := h.len
  rcases h.cases with ⟨rfl, rfl, rfl, rfl⟩ | ⟨g, cur, rfl, h2, h3, h4, h5, h6, h7⟩
  · refine (AnyG.slices_Sort_int_none Try.sortL none 0 w).mono ?_
    rintro e w' ⟨rfl, rfl⟩
    exact ⟨rfl, by simpa using h, Only.refl _ _⟩
  · subst hl
    refine (AnyG.slices_Sort_int Try.sortL g 0 c xs w (own_holds h) (Array.getElem?_eq_some_iff.1 h3).1 (by omega)).mono ?_
    rintro e w' ⟨rfl, m, os, rfl⟩
    have := own_put h (ys := xs.mergeSort leb) (by simp) m os
    exact ⟨rfl, this.1, this.2⟩
end Go.Proofs.Ytkapkieeafhaoaa
