/- slices.Sort on integers that are owned. Conditions: none. -/
import Derived.Test.YtnimmkfkijcbbaaDoorSort
import Derived.Test.YtnimmkfkijcbbaaDoorPermP
import Derived.Test.YtnimmkfkijcbbaaDoorApp
import Derived.Test.YtnimmkfkijcbbaaDoorPutR
namespace Go.Proofs.YtnimmkfkijcbbaaDoor
open Go.RowKit Go.Sort

theorem own_holds {E : TypeId} {w : World} {B n c g : Nat} {xs : List Int} (h : Own E (Value.int .i64) w B (some ⟨g, 0, none⟩) n c xs) : Holds (Value.int .i64) w g 0 xs.toArray := by
  intro j hj
  have hj' : j < xs.length := by simpa using hj
  obtain ⟨g', x, h1, _, h2, h3, h4⟩ := h.at_ (k := j) (by rw [h.len]; exact hj')
  cases h1
  have e := h4.out
  rw [List.getElem?_eq_getElem hj'] at e
  cases e
  rw [Nat.zero_add]
  exact ⟨by rw [h2]; simp [hj'], h3⟩

/-- slices.Sort. -/
theorem slSort_any {E : TypeId} {B n c : Nat} {a : Option Addr} {xs : List Int} (w : World) (h : Own E (Value.int .i64) w B a n c xs) (hn : n ≤ 1099511627776) :
    Calls Tryd.prog 63 #[.slice a n c] w fun e w' => e = .returned (.tuple #[]) ∧ Own E (Value.int .i64) w' B a n c (xs.mergeSort leb) ∧ Only (onlyA a) w w' := by
  have hl := h.len
  rcases h.cases with ⟨rfl, rfl, rfl, rfl⟩ | ⟨g, cur, rfl, h2, h3, h4, h5, h6, h7⟩
  · refine (AnyG.slices_Sort_int_none Tryd.sortL none 0 w).mono ?_
    rintro e w' ⟨rfl, rfl⟩
    exact ⟨rfl, by simpa using h, Only.refl _ _⟩
  · subst hl
    refine (AnyG.slices_Sort_int Tryd.sortL g 0 c xs w (own_holds h) (Array.getElem?_eq_some_iff.1 h3).1 (by omega)).mono ?_
    rintro e w' ⟨rfl, m, os, rfl⟩
    have := own_put h (ys := xs.mergeSort leb) (by simp) m os
    exact ⟨rfl, this.1, this.2⟩
end Go.Proofs.YtnimmkfkijcbbaaDoor
