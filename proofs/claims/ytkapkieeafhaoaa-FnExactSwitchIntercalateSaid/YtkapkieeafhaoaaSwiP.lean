/- Switching an intercalate, in plain words. Conditions: none. -/
import Derived.Test.YtkapkieeafhaoaaIcl
import Derived.Test.YtkapkieeafhaoaaSet2
import Derived.Test.YtkapkieeafhaoaaIsoP
namespace Go.Proofs.Ytkapkieeafhaoaa
open Go.RowKit

/-- A list that names an intercalate. -/
def IcQ (p : List (List Int)) (n : Nat) (xs : List Int) : Prop :=
  xs.length = 4 ∧ Rises (xs.take 2) 0 ((n : Int) - 1) ∧ Rises (xs.drop 2) 0 ((n : Int) - 1) ∧ icOk p (gi xs 0).toNat (gi xs 1).toNat (gi xs 2).toNat (gi xs 3).toNat = true

theorem list4 {xs : List Int} (h : xs.length = 4) : xs = [gi xs 0, gi xs 1, gi xs 2, gi xs 3] := by
  match xs, h with
  | [a, b, c, d], _ => rfl

theorem rises_two {a b : Int} {n : Nat} (h : Rises [a, b] 0 ((n : Int) - 1)) : ∃ r s : Nat, a = r ∧ b = s ∧ r < s ∧ s < n := by
  have h0 := h 0 (by simp)
  have h1 := h 1 (by simp)
  have e0 : gi [a, b] 0 = a := rfl
  have e1 : gi [a, b] 1 = b := rfl
  have h2 := h1.2 (by decide)
  rw [e1] at h1 h2
  rw [e0] at h0
  have h3 : a < b := h2
  exact ⟨a.toNat, b.toNat, by omega, by omega, by omega, by omega⟩

/-- The four numbers. -/
theorem four_of {xs : List Int} {n : Nat} (h : xs.length = 4) (h1 : Rises (xs.take 2) 0 ((n : Int) - 1)) (h2 : Rises (xs.drop 2) 0 ((n : Int) - 1)) :
    ∃ r s x y : Nat, xs = [(r : Int), (s : Int), (x : Int), (y : Int)] ∧ r < s ∧ s < n ∧ x < y ∧ y < n := by
  have e := list4 h
  rw [e] at h1 h2
  obtain ⟨r, s, e1, e2, h3, h4⟩ := rises_two h1
  obtain ⟨x, y, e3, e4, h5, h6⟩ := rises_two h2
  exact ⟨r, s, x, y, by rw [e, e1, e2, e3, e4], h3, h4, h5, h6⟩

theorem mem_icR {p : List (List Int)} {n : Nat} {xs : List Int} : xs ∈ icR p n n ↔ IcQ p n xs := by
  constructor
  · intro h
    simp only [icR, icS, icC, icD, List.mem_flatMap, List.mem_range, List.mem_range'_1] at h
    obtain ⟨r, hr, s, hs, x, hx, y, hy, h⟩ := h
    rw [ic1] at h
    split at h
    · rename_i hok
      simp at h
      subst h
      exact ⟨rfl, rises2 (by omega) (by omega), rises2 (by omega) (by omega), by show icOk p ((r : Int)).toNat ((s : Int)).toNat ((x : Int)).toNat ((y : Int)).toNat = true; simpa using hok⟩
    · simp at h
  · rintro ⟨h1, h2, h3, h4⟩
    obtain ⟨r, s, x, y, rfl, g1, g2, g3, g4⟩ := four_of h1 h2 h3
    have hok : icOk p r s x y = true := by
      have : icOk p ((r : Int)).toNat ((s : Int)).toNat ((x : Int)).toNat ((y : Int)).toNat = true := h4
      simpa using this
    simp only [icR, icS, icC, icD, List.mem_flatMap, List.mem_range, List.mem_range'_1]
    exact ⟨r, by omega, s, by omega, x, by omega, y, by omega, by rw [ic1, if_pos hok]; simp⟩

/-- One column switched. -/
def swStep (p M : List (List Int)) (r s x : Nat) : List (List Int) := set2 (set2 M r x (at2 p s x)) s x (at2 p r x)
def swM (p : List (List Int)) (r s x y : Nat) : List (List Int) := swStep p (swStep p p r s x) r s y
theorem swStep_rect {p M : List (List Int)} {n r s x : Nat} (h : Rect M n n) (hr : r < n) (hs : s < n) : Rect (swStep p M r s x) n n := rect_set2 (rect_set2 h _ _ _ hr) _ _ _ hs
theorem swStep_at {p M : List (List Int)} {n r s x : Nat} (h : Rect M n n) (hr : r < n) (hs : s < n) (hx : x < n) (i j : Nat) (hj : j ≠ x) : at2 (swStep p M r s x) i j = at2 M i j := by
  rw [swStep, at2_set2 (rect_set2 h _ _ _ hr) _ hs hx, if_neg (fun e => hj e.2), at2_set2 h _ hr hx, if_neg (fun e => hj e.2)]

def swX (xs : List Int) (p : List (List Int)) : List (List Int) := swM p (gi xs 0).toNat (gi xs 1).toNat (gi xs 2).toNat (gi xs 3).toNat
noncomputable def swiC (p : List (List Int)) (xs : List Int) : Int := if pb (SqOk p) then (if pb (IcQ p p.length xs) then 0 else 6) else 1
noncomputable def swiM (p : List (List Int)) (xs : List Int) : List (List Int) := if pb (SqOk p) then (if pb (IcQ p p.length xs) then swX xs p else []) else []
theorem swiM_tot (p : List (List Int)) (xs : List Int) : tot (swiM p xs) ≤ 1048576 := by
  rw [swiM]
  split
  · rename_i h
    have h0 := pb_iff.1 h
    split
    · rename_i h1
      obtain ⟨g1, g2, g3, _⟩ := pb_iff.1 h1
      obtain ⟨r, s, x, y, rfl, q1, q2, q3, q4⟩ := four_of g1 g2 g3
      have hr : Rect (swX [(r : Int), (s : Int), (x : Int), (y : Int)] p) p.length p.length :=
        swStep_rect (swStep_rect h0.2.2.1 (by show ((r : Int)).toNat < _; omega) (by show ((s : Int)).toNat < _; omega)) (by show ((r : Int)).toNat < _; omega) (by show ((s : Int)).toNat < _; omega)
      rw [tot_rect hr]
      have := Nat.mul_le_mul h0.2.1 h0.2.1; omega
    · simp [tot]
  · simp [tot]

/-- A row of owned rows whose place is known. -/
theorem OwnR.cellRow {w : World} {B : Nat} {a : Option Addr} {n m c : Nat} {M : List (List Int)} {rs : List Row} (h : OwnR w B a n c M rs) (hr : Rect M n m) {x y : Nat} (hx : x < n) (hy : y < m) {rr : Row} (hrr : rs[x]? = some rr) :
    ∃ g2, rr.1 = some ⟨g2, 0, none⟩ ∧ rr.2.1 = m ∧ B ≤ g2 ∧ w.cell? ⟨g2, y, none⟩ = some (.int .i64 (at2 M x y)) ∧ w.frozen? ⟨g2, y, none⟩ = false ∧
      ∀ v, OwnR (w.setCell ⟨g2, y, none⟩ (.int .i64 v)) B a n c (set2 M x y v) rs := by
  have hx' : M[x]? = some (Go.Proofs.Ytkapkieeafhaoaa.gr M x) := gr_get (by rw [hr.1]; exact hx)
  have hrow := h.row x rr _ hrr hx'
  have hlen : rr.2.1 = m := by rw [hrow.len, hr.2 x hx]
  obtain ⟨g2, z, k1, k2, k3, k4, k5⟩ := hrow.at_ (k := y) (by rw [hlen]; exact hy)
  refine ⟨g2, k1, hlen, k2, ?_, k4, fun v => h.setIn (j := y) hrr hx' k1 v⟩
  rw [k3, at2, gi_of k5.out]
end Go.Proofs.Ytkapkieeafhaoaa
