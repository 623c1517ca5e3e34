/- Orthogonal squares, in plain words. Conditions: none. -/
import Derived.Test.YtkapkieeafhaoaaOver
import Derived.Test.YtkapkieeafhaoaaUnitP
namespace Go.Proofs.Ytkapkieeafhaoaa
open Go.RowKit

theorem at2_mat {r c x y : Nat} {f : Nat → Nat → Int} (hx : x < r) (hy : y < c) : at2 (mat r c f) x y = f x y := by
  rw [at2, gr_of (mat_row hx)]
  exact gi_of (by simp [hy])

/-- All pairs of symbols are different. -/
def OrtN (p q : List (List Int)) (n : Nat) : Prop := ∀ x y x' y', x < n → y < n → x' < n → y' < n → overF p q n x y = overF p q n x' y' → x = x' ∧ y = y'
def OrthOk (p q : List (List Int)) : Prop := (SqOk p ∧ SqOk q) ∧ p.length = q.length ∧ OrtN p q p.length

theorem Two.over {p q : List (List Int)} {n x y : Nat} (h : Two p q n) (hx : x < n) (hy : y < n) : ∃ v : Nat, overF p q n x y = v ∧ v < n * n := by
  obtain ⟨h1, h2, h3, h4⟩ := h
  have g1 := h1.lt (x := x) (y := y) (by omega) (by omega)
  have g2 := h2.lt (x := x) (y := y) (by omega) (by omega)
  rw [h3] at g1
  rw [h4] at g2
  have m0 : 0 ≤ (n : Int) * at2 p x y := Int.mul_nonneg (by omega) g1.1
  have m1 : (n : Int) * (at2 p x y + 1) ≤ (n : Int) * (n : Int) := Int.mul_le_mul_of_nonneg_left (by omega) (by omega)
  rw [Int.mul_add, Int.mul_one] at m1
  refine ⟨(overF p q n x y).toNat, ?_, ?_⟩
  · rw [overF]; omega
  · have e : ((n * n : Nat) : Int) = (n : Int) * (n : Int) := by simp
    rw [overF]; omega

/-- (i, j) comes ahead of (k, y). -/
def Bef (k y i j : Nat) : Prop := i < k ∨ i = k ∧ j < y

/-- The pairs ahead of (k, y) have been seen, and are different. -/
structure Seen (p q : List (List Int)) (n k y : Nat) (bs : List Bool) : Prop where
  len : bs.length = n * n
  iff : ∀ v : Nat, bs[v]? = some true ↔ ∃ i j, Bef k y i j ∧ j < n ∧ overF p q n i j = v
  one : ∀ i j i' j', Bef k y i j → j < n → Bef k y i' j' → j' < n → overF p q n i j = overF p q n i' j' → i = i' ∧ j = j'

theorem Seen.start (p q : List (List Int)) (n : Nat) : Seen p q n 0 0 (List.replicate (n * n) false) := by
  have no : ∀ i j, ¬ Bef 0 0 i j := fun i j h => by rcases h with h | h <;> omega
  refine ⟨by simp, fun v => ⟨fun h => ?_, fun ⟨i, j, h, _⟩ => absurd h (no i j)⟩, fun i j i' j' h => absurd h (no i j)⟩
  rw [List.getElem?_replicate] at h
  split at h <;> simp at h

theorem Seen.row {p q : List (List Int)} {n k : Nat} {bs : List Bool} (h : Seen p q n k n bs) : Seen p q n (k + 1) 0 bs := by
  have e : ∀ i j, j < n → (Bef (k + 1) 0 i j ↔ Bef k n i j) := fun i j hj => by
    unfold Bef
    constructor
    · intro h; rcases h with h | h <;> omega
    · intro h; rcases h with h | h <;> omega
  refine ⟨h.len, fun v => (h.iff v).trans ⟨fun ⟨i, j, h1, h2, h3⟩ => ⟨i, j, (e i j h2).2 h1, h2, h3⟩, fun ⟨i, j, h1, h2, h3⟩ => ⟨i, j, (e i j h2).1 h1, h2, h3⟩⟩, fun i j i' j' h1 h2 h3 h4 h5 => h.one i j i' j' ((e i j h2).1 h1) h2 ((e i' j' h4).1 h3) h4 h5⟩

theorem Seen.cell {p q : List (List Int)} {n k y v : Nat} {bs : List Bool} (h : Seen p q n k y bs) (hy : y < n) (hv : overF p q n k y = v) (hb : bs[v]? = some false) : Seen p q n k (y + 1) (bs.set v true) := by
  have hvl : v < bs.length := (List.getElem?_eq_some_iff.1 hb).1
  have e : ∀ i j, Bef k (y + 1) i j → Bef k y i j ∨ (i = k ∧ j = y) := fun i j h => by unfold Bef at *; omega
  have e' : ∀ i j, Bef k y i j → Bef k (y + 1) i j := fun i j h => by unfold Bef at *; omega
  have fresh : ∀ i j, Bef k y i j → j < n → overF p q n i j ≠ v := fun i j h1 h2 h3 => by
    have := (h.iff v).2 ⟨i, j, h1, h2, h3⟩
    rw [hb] at this; simp at this
  refine ⟨by rw [List.length_set]; exact h.len, fun u => ?_, fun i j i' j' h1 h2 h3 h4 h5 => ?_⟩
  · rw [List.getElem?_set]
    by_cases euv : v = u
    · subst euv
      simp only [if_true, hvl]
      exact ⟨fun _ => ⟨k, y, .inr ⟨rfl, by omega⟩, hy, hv⟩, fun _ => by first | rfl | trivial⟩
    · rw [if_neg euv, h.iff u]
      exact ⟨fun ⟨i, j, h1, h2, h3⟩ => ⟨i, j, e' i j h1, h2, h3⟩, fun ⟨i, j, h1, h2, h3⟩ => by
        rcases e i j h1 with h1 | ⟨rfl, rfl⟩
        · exact ⟨i, j, h1, h2, h3⟩
        · rw [hv] at h3; omega⟩
  · rcases e i j h1 with h1 | ⟨rfl, rfl⟩
    · rcases e i' j' h3 with h3 | ⟨rfl, rfl⟩
      · exact h.one i j i' j' h1 h2 h3 h4 h5
      · exact absurd (h5.trans hv) (fresh i j h1 h2)
    · rcases e i' j' h3 with h3 | ⟨rfl, rfl⟩
      · exact absurd (h5.symm.trans hv) (fresh i' j' h3 h4)
      · exact ⟨rfl, rfl⟩

theorem Seen.hit {p q : List (List Int)} {n k y v : Nat} {bs : List Bool} (h : Seen p q n k y bs) (hk : k < n) (hy : y < n) (hv : overF p q n k y = v) (hb : bs[v]? = some true) : ¬ OrtN p q n := fun ho => by
  obtain ⟨i, j, h1, h2, h3⟩ := (h.iff v).1 hb
  have hi : i < n := by unfold Bef at h1; omega
  have := ho i j k y hi h2 hk hy (h3.trans hv.symm)
  unfold Bef at h1; omega

theorem Seen.done {p q : List (List Int)} {n : Nat} {bs : List Bool} (h : Seen p q n n 0 bs) : OrtN p q n := fun x y x' y' h1 h2 h3 h4 h5 =>
  h.one x y x' y' (.inl h1) h2 (.inl h3) h4 h5

end Go.Proofs.Ytkapkieeafhaoaa
