/- Full and empty rows of a rectangle, in plain words. Conditions: none. -/
import Derived.Test.YtgggbicmmijlnaaHalR
import Derived.Test.YtgggbicmmijlnaaPartP
import Derived.Test.YtgggbicmmijlnaaIsoP
namespace Go.Proofs.Ytgggbicmmijlnaa

/-- The number of empty cells among the first j of a row. -/
def emp (p : List (List Int)) (i : Nat) : Nat → Nat
  | 0 => 0
  | j + 1 => emp p i j + (if at2 p i j = -1 then 1 else 0)
theorem emp_le (p : List (List Int)) (i j : Nat) : emp p i j ≤ j := by
  induction j with
  | zero => exact Nat.le_refl _
  | succ j ih => rw [emp]; split <;> omega
theorem emp_yes {p : List (List Int)} {i j : Nat} (h : at2 p i j = -1) : emp p i (j + 1) = emp p i j + 1 := by rw [emp, if_pos h]
theorem emp_no {p : List (List Int)} {i j : Nat} (h : ¬ at2 p i j = -1) : emp p i (j + 1) = emp p i j := by rw [emp, if_neg h]; rfl
theorem emp_zero {p : List (List Int)} {i n : Nat} : emp p i n = 0 ↔ ∀ j, j < n → at2 p i j ≠ -1 := by
  induction n with
  | zero => exact ⟨fun _ j h => absurd h (Nat.not_lt_zero _), fun _ => rfl⟩
  | succ n ih =>
    by_cases e : at2 p i n = -1
    · rw [emp_yes e]
      exact ⟨fun h => by omega, fun h => absurd e (h n (by omega))⟩
    · rw [emp_no e, ih]
      refine ⟨fun h j hj => ?_, fun h j hj => h j (by omega)⟩
      by_cases e2 : j = n
      · subst e2; exact e
      · exact h j (by omega)
theorem emp_all {p : List (List Int)} {i n : Nat} : emp p i n = n ↔ ∀ j, j < n → at2 p i j = -1 := by
  induction n with
  | zero => exact ⟨fun _ j h => absurd h (Nat.not_lt_zero _), fun _ => rfl⟩
  | succ n ih =>
    by_cases e : at2 p i n = -1
    · rw [emp_yes e]
      refine ⟨fun h j hj => ?_, fun h => by rw [ih.2 (fun j hj => h j (by omega))]⟩
      by_cases e2 : j = n
      · subst e2; exact e
      · exact ih.1 (by omega) j (by omega)
    · rw [emp_no e]
      have := emp_le p i n
      exact ⟨fun h => by omega, fun h => absurd (h n (by omega)) e⟩

/-- The first f of the first x rows are full, the others empty. -/
def RecAt (p : List (List Int)) (n f x : Nat) : Prop := f ≤ x ∧ (∀ i, i < f → emp p i n = 0) ∧ ∀ i, f ≤ i → i < x → emp p i n = n
theorem RecAt.start (p : List (List Int)) (n : Nat) : RecAt p n 0 0 := ⟨Nat.le_refl _, fun i h => absurd h (Nat.not_lt_zero _), fun i _ h => absurd h (Nat.not_lt_zero _)⟩
theorem RecAt.full {p : List (List Int)} {n x : Nat} (h : RecAt p n x x) (he : emp p x n = 0) : RecAt p n (x + 1) (x + 1) :=
  ⟨Nat.le_refl _, fun i hi => by
    by_cases e : i = x
    · subst e; exact he
    · exact h.2.1 i (by omega), fun i h1 h2 => by omega⟩
theorem RecAt.free {p : List (List Int)} {n f x : Nat} (h : RecAt p n f x) (he : emp p x n = n) : RecAt p n f (x + 1) :=
  ⟨by have := h.1; omega, h.2.1, fun i h1 h2 => by
    by_cases e : i = x
    · subst e; exact he
    · exact h.2.2 i h1 (by omega)⟩
theorem RecAt.uniq {p : List (List Int)} {n f f' x x' : Nat} (hn : 0 < n) (h : RecAt p n f x) (h' : RecAt p n f' x') (hx : x ≤ x') : f' = f ∨ (f = x ∧ x ≤ f') := by
  rcases Nat.lt_trichotomy f f' with hlt | rfl | hlt
  · by_cases e : f < x
    · have h1 := h.2.2 f (Nat.le_refl _) e
      have h2 := h'.2.1 f hlt
      omega
    · have := h.1; exact .inr ⟨by omega, by omega⟩
  · exact .inl rfl
  · have h1 := h.2.1 f' hlt
    have h2 := h'.2.2 f' (Nat.le_refl _) (by have := h.1; omega)
    omega
/-- A row that is neither: no rectangle. -/
theorem RecAt.bad {p : List (List Int)} {n f x : Nat} (hn : 0 < n) (h : RecAt p n f x) (hx : x < n) (h1 : ¬ (emp p x n = 0 ∧ f = x)) (h2 : ¬ emp p x n = n) : ¬ ∃ f, RecAt p n f n := fun ⟨f', h'⟩ => by
  by_cases e : x < f'
  · have h3 := h'.2.1 x e
    refine h1 ⟨h3, ?_⟩
    rcases h.uniq hn h' (by omega) with e' | e'
    · have := h.1; omega
    · exact e'.1
  · exact h2 (h'.2.2 x (by omega) hx)

theorem POk.rec {p : List (List Int)} {n f : Nat} (h : POk p) (hn : n = p.length) (hR : RecAt p n f n) : RecOk p n f := by
  subst hn
  obtain ⟨h1, h2, h3, h4⟩ := h
  have val : ∀ i j, i < f → j < p.length → 0 ≤ at2 p i j := fun i j hi hj => by
    have := emp_zero.1 (hR.2.1 i hi) j hj
    have := (h4 i j (by have := hR.1; omega) hj).1
    omega
  refine ⟨h3, hR.1, fun i hi => ⟨?_, fun v hv => ?_⟩, fun i i' j hii hi' hj => ?_, fun i j hi hin hj => emp_all.1 (hR.2.2 i hi hin) j hj⟩
  · rw [List.Nodup, List.pairwise_iff_getElem]
    intro a b ha hb hab
    have hip : i < p.length := by have := hR.1; omega
    have hl := h3.2 i hip
    have := ((h4 i b hip (by omega)).2.2 (val i b hi (by omega)) a (by omega)).1 (by omega)
    rwa [at2, at2, gi_of (List.getElem?_eq_getElem ha), gi_of (List.getElem?_eq_getElem hb)] at this
  · have hip : i < p.length := by have := hR.1; omega
    have hl := h3.2 i hip
    obtain ⟨k, hk, rfl⟩ := mem_gi hv
    have h5 := (h4 i k hip (by omega)).2.1
    have h6 := val i k hi (by omega)
    rw [at2] at h5 h6
    rw [hl]
    exact ⟨h6, h5⟩
  · have hip : i' < p.length := by have := hR.1; omega
    exact ((h4 i' j hip hj).2.2 (val i' j hi' hj) i (by omega)).2 (by omega)

open Classical in
noncomputable def recN (p : List (List Int)) : Nat := if h : ∃ f, RecAt p p.length f p.length then Classical.choose h else 0
theorem recN_eq {p : List (List Int)} {n f : Nat} (hn : n = p.length) (h0 : 0 < n) (h : RecAt p n f n) : recN p = f := by
  subst hn
  have hx : ∃ f, RecAt p p.length f p.length := ⟨f, h⟩
  rw [recN, dif_pos hx]
  have h' := Classical.choose_spec hx
  rcases h.uniq h0 h' (Nat.le_refl _) with e | e
  · exact e
  · have := h'.1; omega
def IsRec (p : List (List Int)) : Prop := ∃ f, RecAt p p.length f p.length
noncomputable def exM (p : List (List Int)) : List (List Int) := if pb (POk p ∧ IsRec p) then ext_ p p.length (recN p) (p.length - recN p) else []
noncomputable def exC (p : List (List Int)) : Int := if pb (POk p) then (if pb (IsRec p) then 0 else 6) else 1
theorem ex_1 {p : List (List Int)} (h : ¬ POk p) : [] = exM p ∧ 1 = exC p := by
  rw [exM, exC, pb_false (fun h' => h h'.1), pb_false h]; exact ⟨rfl, rfl⟩
theorem ex_6 {p : List (List Int)} (h : POk p) (h2 : ¬ IsRec p) : [] = exM p ∧ 6 = exC p := by
  rw [exM, exC, pb_false (fun h' => h2 h'.2), pb_true h, pb_false h2]; exact ⟨rfl, rfl⟩
theorem ex_0 {p : List (List Int)} {n f : Nat} (hn : n = p.length) (h : POk p) (h2 : RecAt p n f n) : ext_ p n f (n - f) = exM p ∧ 0 = exC p := by
  have hR : IsRec p := ⟨f, by rw [← hn]; exact h2⟩
  rw [exM, exC, pb_true ⟨h, hR⟩, pb_true h, pb_true hR, recN_eq hn (by rw [hn]; exact h.1) h2, hn]
  exact ⟨rfl, rfl⟩
theorem exM_tot (p : List (List Int)) : tot (exM p) ≤ 1048576 := by
  rw [exM]
  split
  · rename_i h0
    have h := pb_iff.1 h0
    obtain ⟨f, hf⟩ := h.2
    have e := recN_eq rfl h.1.1 hf
    have hle := hf.1
    have hok := ext_ok (h.1.rec rfl hf) (p.length - f) (by omega)
    rw [e]
    rw [tot_rect hok.rect]
    exact Nat.le_trans (Nat.mul_le_mul h.1.2.1 h.1.2.1) (by decide)
  · simp [tot]
end Go.Proofs.Ytgggbicmmijlnaa
