/- One cell of rows set. Conditions: none. -/
import Derived.Test.YtgggbicmmijlnaaGet
import Derived.Test.YtgggbicmmijlnaaSz
namespace Go.Proofs.Ytgggbicmmijlnaa
open Go.RowKit

/-- One cell of rows set. -/
def set2 (p : List (List Int)) (x y : Nat) (v : Int) : List (List Int) := p.set x ((gr p x).set y v)

theorem set2_length (p : List (List Int)) (x y : Nat) (v : Int) : (set2 p x y v).length = p.length := by simp [set2]

theorem gr_set2 (p : List (List Int)) (x y : Nat) (v : Int) (i : Nat) (hx : x < p.length) : gr (set2 p x y v) i = if i = x then (gr p x).set y v else gr p i := by
  by_cases e : i = x
  · subst e
    simp [gr, set2, hx]
  · have e' : ¬ x = i := fun h => e h.symm
    simp [gr, set2, e, e', List.getElem?_set]

theorem rect_set2 {p : List (List Int)} {n m : Nat} (h : Rect p n m) (x y : Nat) (v : Int) (hx : x < n) : Rect (set2 p x y v) n m :=
  ⟨by rw [set2_length, h.1], fun i hi => by
    rw [gr_set2 _ _ _ _ _ (by rw [h.1]; exact hx)]
    split
    · rw [List.length_set]; exact h.2 x hx
    · exact h.2 i hi⟩

theorem at2_set2 {p : List (List Int)} {n m : Nat} (h : Rect p n m) {x y : Nat} (v : Int) (hx : x < n) (hy : y < m) (i j : Nat) :
    at2 (set2 p x y v) i j = if i = x ∧ j = y then v else at2 p i j := by
  rw [at2, gr_set2 _ _ _ _ _ (by rw [h.1]; exact hx)]
  by_cases e : i = x
  · subst e
    rw [if_pos rfl]
    by_cases ej : j = y
    · subst ej
      rw [if_pos ⟨rfl, rfl⟩, gi_of]
      rw [List.getElem?_set]
      simp [h.2 i hx, hy]
    · rw [if_neg (fun h => ej h.2), at2]
      have ej' : ¬ y = j := fun h => ej h.symm
      simp [gi, List.getElem?_set, ej']
  · rw [if_neg e, if_neg (fun h => e h.1), at2]

theorem tot_eq_of_len {p q : List (List Int)} (hl : p.length = q.length) (h : ∀ i, i < p.length → (gr p i).length = (gr q i).length) : tot p = tot q := by
  have key : ∀ k, k ≤ p.length → tot (p.take k) = tot (q.take k) := by
    intro k
    induction k with
    | zero => intro _; rfl
    | succ k ih =>
      intro hk
      rw [tot_take_succ (gr_get (p := p) (k := k) (by omega)), tot_take_succ (gr_get (p := q) (k := k) (by omega)), ih (by omega), h k (by omega)]
  have := key p.length (Nat.le_refl _)
  rwa [List.take_of_length_le (Nat.le_refl _), List.take_of_length_le (by omega)] at this

theorem tot_set2 (p : List (List Int)) (x y : Nat) (v : Int) (hx : x < p.length) : tot (set2 p x y v) = tot p := by
  refine tot_eq_of_len (set2_length _ _ _ _) (fun i _ => ?_)
  rw [gr_set2 _ _ _ _ _ hx]
  split
  · rename_i e; subst e; rw [List.length_set]
  · rfl

/-- What a row of owned rows looks like where it is to be written. -/
theorem OwnR.cellAt {w : World} {B : Nat} {a : Option Addr} {n m c : Nat} {p : List (List Int)} {rs : List Row} (h : OwnR w B a n c p rs) (hr : Rect p n m) {x y : Nat} (hx : x < n) (hy : y < m) :
    ∃ g g2 d, a = some ⟨g, 0, none⟩ ∧ w.cell? ⟨g, x, none⟩ = some (.slice (some ⟨g2, 0, none⟩) m d) ∧ B ≤ g2 ∧ w.cell? ⟨g2, y, none⟩ = some (.int .i64 (at2 p x y)) ∧ w.frozen? ⟨g2, y, none⟩ = false ∧
      ∀ v, OwnR (w.setCell ⟨g2, y, none⟩ (.int .i64 v)) B a n c (set2 p x y v) rs := by
  obtain ⟨g, r, xs, h1, h2, h3, h4, h5, h6, h7⟩ := h.at_ hx
  have hxs := gr_of h7.out
  have hlen := h5.len
  rw [← hxs, hr.2 x hx] at hlen
  obtain ⟨r1, r2, r3⟩ := r
  dsimp only at h3 h5 hlen
  subst hlen
  obtain ⟨g2, z, k1, k2, k3, k4, k5⟩ := h5.at_ hy
  refine ⟨g, g2, r3, h1, by rw [h3, k1], k2, ?_, k4, fun v => ?_⟩
  · rw [k3, at2, hxs, gi_of k5.out]
  · have := h.setIn (j := y) h6.out h7.out k1 v
    rw [set2, hxs]; exact this
end Go.Proofs.Ytgggbicmmijlnaa
