/- Elements by their place. Conditions: none. -/
import Derived.Test.YtnimmkfkijcbbaaDoorLib
namespace Go.Proofs.YtnimmkfkijcbbaaDoor
open Go.RowKit

def gi (xs : List Int) (k : Nat) : Int := xs.getD k 0
def gr (p : List (List Int)) (k : Nat) : List Int := p.getD k []
def at2 (p : List (List Int)) (x y : Nat) : Int := gi (gr p x) y

theorem gi_get {xs : List Int} {k : Nat} (h : k < xs.length) : xs[k]? = some (gi xs k) := by
  rw [gi, List.getD_eq_getElem?_getD, List.getElem?_eq_getElem h]; rfl
theorem gr_get {p : List (List Int)} {k : Nat} (h : k < p.length) : p[k]? = some (gr p k) := by
  rw [gr, List.getD_eq_getElem?_getD, List.getElem?_eq_getElem h]; rfl
theorem gi_of {xs : List Int} {k : Nat} {v : Int} (h : xs[k]? = some v) : gi xs k = v := by rw [gi, List.getD_eq_getElem?_getD, h]; rfl
theorem gr_of {p : List (List Int)} {k : Nat} {v : List Int} (h : p[k]? = some v) : gr p k = v := by rw [gr, List.getD_eq_getElem?_getD, h]; rfl

theorem RdI.gi {w : World} {a : Option Addr} {n c : Nat} {xs : List Int} (h : RdI w a n c xs) {k : Nat} (hk : k < n) : ∃ b off, a = some ⟨b, off, none⟩ ∧ w.cell? ⟨b, off + k, none⟩ = some (.int .i64 (gi xs k)) := by
  obtain ⟨b, off, v, h1, h2, h3⟩ := h.at_ hk
  exact ⟨b, off, h1, by rw [gi_of h3.out]; exact h2⟩
theorem RdR.gr {w : World} {a : Option Addr} {n c : Nat} {p : List (List Int)} (h : RdR w a n c p) {k : Nat} (hk : k < n) : ∃ b off ai ni ci, a = some ⟨b, off, none⟩ ∧ w.cell? ⟨b, off + k, none⟩ = some (.slice ai ni ci) ∧ RdI w ai ni ci (gr p k) := by
  obtain ⟨b, off, ai, ni, ci, v, h1, h2, h3, h4⟩ := h.at_ hk
  exact ⟨b, off, ai, ni, ci, h1, h2, by rw [gr_of h4.out]; exact h3⟩

/-- Rows of one length. -/
def Rect (p : List (List Int)) (n m : Nat) : Prop := p.length = n ∧ ∀ x, x < n → (Go.Proofs.YtnimmkfkijcbbaaDoor.gr p x).length = m

/-- A row of a rectangle. -/
theorem RdR.row {w : World} {a : Option Addr} {n m c : Nat} {p : List (List Int)} (h : RdR w a n c p) (hr : Rect p n m) {k : Nat} (hk : k < n) :
    ∃ b off ai ci, a = some ⟨b, off, none⟩ ∧ w.cell? ⟨b, off + k, none⟩ = some (.slice ai m ci) ∧ RdI w ai m ci (Go.Proofs.YtnimmkfkijcbbaaDoor.gr p k) := by
  obtain ⟨b, off, ai, ni, ci, h1, h2, h3⟩ := h.gr hk
  obtain rfl : ni = m := by rw [h3.len, hr.2 k hk]
  exact ⟨b, off, ai, ci, h1, h2, h3⟩

/-- A cell of a rectangle. -/
theorem RdI.cell2 {w : World} {a : Option Addr} {m c : Nat} {p : List (List Int)} {x : Nat} (h : RdI w a m c (Go.Proofs.YtnimmkfkijcbbaaDoor.gr p x)) {y : Nat} (hy : y < m) :
    ∃ b off, a = some ⟨b, off, none⟩ ∧ w.cell? ⟨b, off + y, none⟩ = some (.int .i64 (at2 p x y)) := h.gi hy

theorem gi_mem {xs : List Int} {k : Nat} (h : k < xs.length) : Go.Proofs.YtnimmkfkijcbbaaDoor.gi xs k ∈ xs := List.mem_of_getElem? (gi_get h)
theorem mem_gi {xs : List Int} {v : Int} (h : v ∈ xs) : ∃ k, k < xs.length ∧ Go.Proofs.YtnimmkfkijcbbaaDoor.gi xs k = v := by
  obtain ⟨k, hk⟩ := List.getElem?_of_mem h
  exact ⟨k, (List.getElem?_eq_some_iff.1 hk).1, gi_of hk⟩
theorem mem_gr {p : List (List Int)} {v : List Int} (h : v ∈ p) : ∃ k, k < p.length ∧ Go.Proofs.YtnimmkfkijcbbaaDoor.gr p k = v := by
  obtain ⟨k, hk⟩ := List.getElem?_of_mem h
  exact ⟨k, (List.getElem?_eq_some_iff.1 hk).1, gr_of hk⟩
theorem gi_take {xs : List Int} {k m : Nat} (h : k < m) : Go.Proofs.YtnimmkfkijcbbaaDoor.gi (xs.take m) k = Go.Proofs.YtnimmkfkijcbbaaDoor.gi xs k := by
  simp [Go.Proofs.YtnimmkfkijcbbaaDoor.gi, List.getD_eq_getElem?_getD, List.getElem?_take, h]
theorem gr_take {p : List (List Int)} {k m : Nat} (h : k < m) : Go.Proofs.YtnimmkfkijcbbaaDoor.gr (p.take m) k = Go.Proofs.YtnimmkfkijcbbaaDoor.gr p k := by
  simp [Go.Proofs.YtnimmkfkijcbbaaDoor.gr, List.getD_eq_getElem?_getD, List.getElem?_take, h]
theorem list_ext_gi {xs ys : List Int} (hl : xs.length = ys.length) (h : ∀ k, k < xs.length → Go.Proofs.YtnimmkfkijcbbaaDoor.gi xs k = Go.Proofs.YtnimmkfkijcbbaaDoor.gi ys k) : xs = ys := by
  apply List.ext_getElem? 
  intro k
  by_cases hk : k < xs.length
  · rw [gi_get hk, gi_get (by omega), h k hk]
  · rw [List.getElem?_eq_none (by omega), List.getElem?_eq_none (by omega)]
theorem list_ext_gr {xs ys : List (List Int)} (hl : xs.length = ys.length) (h : ∀ k, k < xs.length → Go.Proofs.YtnimmkfkijcbbaaDoor.gr xs k = Go.Proofs.YtnimmkfkijcbbaaDoor.gr ys k) : xs = ys := by
  apply List.ext_getElem?
  intro k
  by_cases hk : k < xs.length
  · rw [gr_get hk, gr_get (by omega), h k hk]
  · rw [List.getElem?_eq_none (by omega), List.getElem?_eq_none (by omega)]

/-- The slice expression s[:m] of a list. -/
theorem Rd.cut {α : Type} {R : World → Value → α → Prop} {w : World} {a : Option Addr} {n c : Nat} {xs : List α} (h : Rd R w a n c xs) {m : Nat} (hm : m ≤ n) : Rd R w a m c (xs.take m) :=
  ⟨by have := h.len; rw [List.length_take]; omega, by have := h.le; omega, h.max, h.nil, fun k x hx => h.get k x (by
    rw [List.getElem?_take] at hx
    split at hx
    · exact hx
    · cases hx)⟩

open Classical in
/-- A proposition as a Bool. -/
noncomputable def pb (P : Prop) : Bool := decide P
theorem pb_true {P : Prop} (h : P) : pb P = true := by simp [pb, h]
theorem pb_false {P : Prop} (h : ¬ P) : pb P = false := by simp [pb, h]
theorem pb_iff {P : Prop} : pb P = true ↔ P := by simp [pb]
theorem pb_congr {P P' : Prop} (h : P ↔ P') : pb P = pb P' := by simp [pb, h]
theorem ret_pb {P : Prop} (h : P) : Ending.returned (.bool true) = .returned (.bool (pb P)) := by rw [pb_true h]
theorem ret_npb {P : Prop} (h : ¬ P) : Ending.returned (.bool false) = .returned (.bool (pb P)) := by rw [pb_false h]

end Go.Proofs.YtnimmkfkijcbbaaDoor
