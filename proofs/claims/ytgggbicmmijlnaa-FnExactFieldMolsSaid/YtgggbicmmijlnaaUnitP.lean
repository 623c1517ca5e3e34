/- Units of squares, in plain words. Conditions: none. -/
import Derived.Test.YtgggbicmmijlnaaSqP
namespace Go.Proofs.Ytgggbicmmijlnaa
open Go.RowKit

/-- A proposition's Bool is one of two. -/
theorem pbc (P : Prop) : (pb P = true ∧ Hid P) ∨ (pb P = false ∧ Hid (¬ P)) := by
  by_cases h : P
  · exact .inl ⟨pb_true h, h⟩
  · exact .inr ⟨pb_false h, h⟩

def LUnit (p : List (List Int)) (e : Nat) : Prop := ∀ x, x < p.length → at2 p e x = x
def RUnit (p : List (List Int)) (e : Nat) : Prop := ∀ x, x < p.length → at2 p x e = x
def BUnit (p : List (List Int)) (e : Nat) : Prop := LUnit p e ∧ RUnit p e

theorem unit_eq {p : List (List Int)} {e f : Nat} (he : e < p.length) (hf : f < p.length) (h1 : LUnit p e) (h2 : RUnit p f) : e = f := by
  have := h1 f hf
  have := h2 e he
  omega

open Classical in
noncomputable def unitE (p : List (List Int)) : Int := if h : SqOk p ∧ ∃ e, e < p.length ∧ BUnit p e then (Classical.choose h.2 : Nat) else 0
noncomputable def unitB (p : List (List Int)) : Bool := pb (SqOk p ∧ ∃ e, e < p.length ∧ BUnit p e)

theorem unit_yes {p : List (List Int)} {e : Nat} (hp : SqOk p) (he : e < p.length) (h : BUnit p e) : unitE p = e ∧ unitB p = true := by
  have hx : SqOk p ∧ ∃ e, e < p.length ∧ BUnit p e := ⟨hp, e, he, h⟩
  refine ⟨?_, pb_true hx⟩
  rw [unitE, dif_pos hx]
  have hs := Classical.choose_spec hx.2
  have := unit_eq he hs.1 h.1 hs.2.2
  omega
theorem unit_no {p : List (List Int)} (h : ¬ (SqOk p ∧ ∃ e, e < p.length ∧ BUnit p e)) : unitE p = 0 ∧ unitB p = false := by
  refine ⟨?_, pb_false h⟩
  rw [unitE, dif_neg h]

end Go.Proofs.Ytgggbicmmijlnaa
