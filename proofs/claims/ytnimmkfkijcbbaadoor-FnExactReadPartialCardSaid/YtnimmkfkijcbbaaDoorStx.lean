/- The text of a square of digits, in plain words. Conditions: none. -/
import Derived.Test.YtnimmkfkijcbbaaDoorSqP
import Derived.Lib.Join
namespace Go.Proofs.YtnimmkfkijcbbaaDoor

/-- The byte of a digit. -/
def dgB (v : Int) : UInt8 := UInt8.ofNat (48 + v.toNat)
/-- The text of a row. -/
def rowB (xs : List Int) : List UInt8 := xs.map dgB
/-- The text of rows: each behind a slash, but for the first. -/
def rowsB (p : List (List Int)) : List UInt8 := Lib.join (p.map rowB) [47]
/-- As the reference writes it. -/
def stTo (p : List (List Int)) : Nat → List UInt8
  | 0 => []
  | x + 1 => stTo p x ++ (if 0 < x then [47] else []) ++ rowB (gr p x)
theorem rowB_len (xs : List Int) : (rowB xs).length = xs.length := by simp [rowB]
theorem rowB_snoc (xs : List Int) (v : Int) : rowB (xs ++ [v]) = rowB xs ++ [dgB v] := by simp [rowB]
theorem rowB_take {xs : List Int} {k : Nat} (h : k < xs.length) : rowB (xs.take (k + 1)) = rowB (xs.take k) ++ [dgB (gi xs k)] := by
  rw [List.take_add_one, gi_get h]; simp [rowB]
theorem join_snoc (r : List (List UInt8)) (x sep : List UInt8) (h : r ≠ []) : Lib.join (r ++ [x]) sep = Lib.join r sep ++ sep ++ x := by
  cases r with
  | nil => exact absurd rfl h
  | cons y r => rw [List.cons_append, Lib.join_cons, Lib.join_cons, Lib.joinTail, Lib.joinTail, List.map_append, List.flatten_append]; simp
theorem stTo_eq (p : List (List Int)) : ∀ k, k ≤ p.length → stTo p k = rowsB (p.take k) := by
  intro k
  induction k with
  | zero => intro _; simp [stTo, rowsB, Lib.join_nil]
  | succ k ih =>
    intro hk
    have e : p.take (k + 1) = p.take k ++ [gr p k] := by rw [List.take_add_one, gr_get (by omega)]; rfl
    rw [stTo, ih (by omega), e, rowsB, rowsB, List.map_append, List.map_singleton]
    by_cases h0 : k = 0
    · subst h0; simp [Lib.join_nil, Lib.join_one]
    · have hne : (p.take k).map rowB ≠ [] := by
        intro h
        have h9 : ((p.take k).map rowB).length = 0 := by rw [h]; rfl
        rw [List.length_map, List.length_take] at h9
        omega
      rw [if_pos (by omega), join_snoc _ _ _ hne]
theorem stTo_len {p : List (List Int)} {n : Nat} (hr : Rect p n n) (hn : n ≤ 10) : ∀ k, k ≤ n → (stTo p k).length ≤ 11 * k := by
  intro k
  induction k with
  | zero => intro _; simp [stTo]
  | succ k ih =>
    intro hk
    have h1 := ih (by omega)
    have h2 := hr.2 k (by omega)
    rw [stTo, List.length_append, List.length_append, rowB_len, h2]
    have h3 : (if 0 < k then ([47] : List UInt8) else []).length ≤ 1 := by split <;> simp
    omega
open Classical in
noncomputable def sqTx (p : List (List Int)) : ByteArray := if SqOk p then ⟨(rowsB p).toArray⟩ else ⟨#[]⟩
theorem sqTx_yes {p : List (List Int)} (h : SqOk p) : sqTx p = ⟨(rowsB p).toArray⟩ := if_pos h
theorem sqTx_no {p : List (List Int)} (h : ¬ SqOk p) : sqTx p = ⟨#[]⟩ := if_neg h
end Go.Proofs.YtnimmkfkijcbbaaDoor
