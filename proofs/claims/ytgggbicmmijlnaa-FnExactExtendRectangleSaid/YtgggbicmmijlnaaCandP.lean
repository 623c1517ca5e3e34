/- Candidates and empty cells, in plain words. Conditions: none. -/
import Derived.Test.YtgggbicmmijlnaaPartP
namespace Go.Proofs.Ytgggbicmmijlnaa

/-- A symbol that is neither in the row nor in the column of a cell. -/
def IsCand (p : List (List Int)) (n x y : Nat) (s : Int) : Prop := ∀ k, k < n → at2 p x k ≠ s ∧ at2 p k y ≠ s

/-- The candidates below a bound. -/
noncomputable def candsTo (p : List (List Int)) (n x y : Nat) : Nat → List Int
  | 0 => []
  | s + 1 => if pb (IsCand p n x y s) then candsTo p n x y s ++ [(s : Int)] else candsTo p n x y s
noncomputable def cands (p : List (List Int)) (x y : Nat) : List Int := candsTo p p.length x y p.length

theorem candsTo_yes {p : List (List Int)} {n x y s : Nat} (h : IsCand p n x y s) : candsTo p n x y (s + 1) = candsTo p n x y s ++ [(s : Int)] := by rw [candsTo, if_pos (pb_true h)]
theorem candsTo_no {p : List (List Int)} {n x y s : Nat} (h : ¬ IsCand p n x y s) : candsTo p n x y (s + 1) = candsTo p n x y s := by rw [candsTo, pb_false h]; simp
theorem candsTo_len (p : List (List Int)) (n x y s : Nat) : (candsTo p n x y s).length ≤ s := by
  induction s with
  | zero => simp [candsTo]
  | succ s ih => rw [candsTo]; split <;> (try simp) <;> omega

theorem candsTo_mem {p : List (List Int)} {n x y m : Nat} {v : Int} (h : v ∈ candsTo p n x y m) : ∃ s : Nat, v = s ∧ s < m ∧ IsCand p n x y s := by
  induction m with
  | zero => simp [candsTo] at h
  | succ m ih =>
    by_cases hc : IsCand p n x y m
    · rw [candsTo_yes hc, List.mem_append, List.mem_singleton] at h
      rcases h with h | rfl
      · obtain ⟨s, h1, h2, h3⟩ := ih h
        exact ⟨s, h1, by omega, h3⟩
      · exact ⟨m, rfl, by omega, hc⟩
    · rw [candsTo_no hc] at h
      obtain ⟨s, h1, h2, h3⟩ := ih h
      exact ⟨s, h1, by omega, h3⟩

/-- The numbers of the empty cells of a row, and of some rows. -/
def emptyIn (p : List (List Int)) (n x : Nat) : Nat → List Int
  | 0 => []
  | y + 1 => if at2 p x y = -1 then emptyIn p n x y ++ [(x : Int) * n + y] else emptyIn p n x y
def emptyTo (p : List (List Int)) (n : Nat) : Nat → List Int
  | 0 => []
  | x + 1 => emptyTo p n x ++ emptyIn p n x n
def empt (p : List (List Int)) : List Int := emptyTo p p.length p.length

theorem emptyIn_len (p : List (List Int)) (n x y : Nat) : (emptyIn p n x y).length ≤ y := by
  induction y with
  | zero => simp [emptyIn]
  | succ y ih => rw [emptyIn]; split <;> (try simp) <;> omega
theorem emptyTo_len (p : List (List Int)) (n x : Nat) : (emptyTo p n x).length ≤ n * x := by
  induction x with
  | zero => simp [emptyTo]
  | succ x ih => rw [emptyTo, List.length_append, Nat.mul_succ]; have := emptyIn_len p n x n; omega

end Go.Proofs.Ytgggbicmmijlnaa
