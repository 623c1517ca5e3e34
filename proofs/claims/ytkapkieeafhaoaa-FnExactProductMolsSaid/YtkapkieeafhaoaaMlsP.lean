/- Mutually orthogonal squares, in plain words. Conditions: none. -/
import Derived.Test.YtkapkieeafhaoaaOrtP
import Derived.Test.YtkapkieeafhaoaaOwnM
namespace Go.Proofs.Ytkapkieeafhaoaa
open Go.RowKit

def gm (x : List (List (List Int))) (k : Nat) : List (List Int) := x.getD k []
theorem gm_get {x : List (List (List Int))} {k : Nat} (h : k < x.length) : x[k]? = some (gm x k) := by
  rw [gm, List.getD_eq_getElem?_getD, List.getElem?_eq_getElem h]; rfl
theorem gm_of {x : List (List (List Int))} {k : Nat} {v : List (List Int)} (h : x[k]? = some v) : gm x k = v := by rw [gm, List.getD_eq_getElem?_getD, h]; rfl
theorem RdM.gm {w : World} {a : Option Addr} {n c : Nat} {x : List (List (List Int))} (h : RdM w a n c x) {k : Nat} (hk : k < n) : ∃ b off ai ni ci, a = some ⟨b, off, none⟩ ∧ w.cell? ⟨b, off + k, none⟩ = some (.slice ai ni ci) ∧ RdR w ai ni ci (Go.Proofs.Ytkapkieeafhaoaa.gm x k) := by
  obtain ⟨b, off, ai, ni, ci, v, h1, h2, h3, h4⟩ := RdM.at_ h hk
  exact ⟨b, off, ai, ni, ci, h1, h2, by rw [gm_of h4.out]; exact h3⟩

theorem overF_inj {p q : List (List Int)} {n : Nat} (ht : Two p q n) {x y x' y' : Nat} (h1 : x < n) (h2 : y < n) (h3 : x' < n) (h4 : y' < n) :
    overF p q n x y = overF p q n x' y' ↔ at2 p x y = at2 p x' y' ∧ at2 q x y = at2 q x' y' := by
  obtain ⟨_, hq, _, hl⟩ := ht
  have g1 := hq.lt (x := x) (y := y) (by omega) (by omega)
  have g2 := hq.lt (x := x') (y := y') (by omega) (by omega)
  rw [hl] at g1 g2
  unfold overF
  constructor
  · intro h
    generalize at2 p x y = a at *
    generalize at2 p x' y' = b at *
    generalize at2 q x y = c at *
    generalize at2 q x' y' = d at *
    have hab : a = b := by
      rcases Int.lt_trichotomy a b with e | e | e
      · have := Int.mul_le_mul_of_nonneg_left (show a + 1 ≤ b by omega) (show (0 : Int) ≤ (n : Int) by omega)
        rw [Int.mul_add, Int.mul_one] at this; omega
      · exact e
      · have := Int.mul_le_mul_of_nonneg_left (show b + 1 ≤ a by omega) (show (0 : Int) ≤ (n : Int) by omega)
        rw [Int.mul_add, Int.mul_one] at this; omega
    subst hab
    exact ⟨rfl, by omega⟩
  · rintro ⟨e1, e2⟩
    rw [e1, e2]

theorem Two.symm {p q : List (List Int)} {n : Nat} (h : Two p q n) : Two q p n := ⟨h.2.1, h.1, h.2.2.2, h.2.2.1⟩
theorem OrthOk.symm {p q : List (List Int)} (h : OrthOk p q) : OrthOk q p := by
  obtain ⟨⟨h1, h2⟩, h3, h4⟩ := h
  have ht : Two p q p.length := ⟨h1, h2, rfl, h3.symm⟩
  refine ⟨⟨h2, h1⟩, h3.symm, ?_⟩
  rw [← h3]
  intro x y x' y' a1 a2 a3 a4 e
  have := (overF_inj ht.symm a1 a2 a3 a4).1 e
  exact h4 x y x' y' a1 a2 a3 a4 ((overF_inj ht a1 a2 a3 a4).2 ⟨this.2, this.1⟩)
theorem orthOk_symm {p q : List (List Int)} : OrthOk p q ↔ OrthOk q p := ⟨OrthOk.symm, OrthOk.symm⟩

/-- The first k are squares of which any two are orthogonal. -/
def MolsTo (x : List (List (List Int))) (k : Nat) : Prop := ∀ i, i < k → SqOk (gm x i) ∧ ∀ j, j < i → OrthOk (gm x j) (gm x i)
def MolsOk (x : List (List (List Int))) : Prop := (1 ≤ x.length ∧ x.length ≤ 10) ∧ MolsTo x x.length
theorem MolsTo.len {x : List (List (List Int))} {k i : Nat} (h : MolsTo x k) (hi : i < k) : (gm x i).length = (gm x 0).length := by
  rcases Nat.eq_zero_or_pos i with e | e
  · subst e; rfl
  · exact ((h i hi).2 0 e).2.1.symm
theorem MolsTo.succ {x : List (List (List Int))} {k : Nat} (h : MolsTo x k) (h1 : SqOk (gm x k)) (h2 : ∀ j, j < k → OrthOk (gm x j) (gm x k)) : MolsTo x (k + 1) := fun i hi => by
  by_cases e : i = k
  · subst e; exact ⟨h1, h2⟩
  · exact h i (by omega)
end Go.Proofs.Ytkapkieeafhaoaa
