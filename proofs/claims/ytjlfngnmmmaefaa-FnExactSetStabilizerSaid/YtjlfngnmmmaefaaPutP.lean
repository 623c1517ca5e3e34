/- A number put to its place among rising ones, in plain words. Conditions: none. -/
import Derived.Test.YtjlfngnmmmaefaaGet
import Derived.Maps.OwnSet
namespace Go.Proofs.Ytjlfngnmmmaefaa
open Go.RowKit

/-- v put ahead of the first number that is not less, once. -/
def put : List Int → Int → List Int
  | [], v => [v]
  | x :: r, v => if x < v then x :: put r v else if x = v then x :: r else v :: x :: r

theorem mem_put {xs : List Int} {v y : Int} : y ∈ put xs v ↔ y = v ∨ y ∈ xs := by
  induction xs with
  | nil => simp [put]
  | cons x r ih =>
    rw [put]
    split
    · rw [List.mem_cons, ih, List.mem_cons]
      constructor
      · rintro (h | h | h) <;> simp [h]
      · rintro (h | h | h) <;> simp [h]
    · split
      · rename_i e; subst e; simp
      · rw [List.mem_cons]

theorem put_length (xs : List Int) (v : Int) : (put xs v).length ≤ xs.length + 1 := by
  induction xs with
  | nil => simp [put]
  | cons x r ih =>
    rw [put]
    split
    · simp only [List.length_cons]; omega
    · split
      · simp
      · simp

theorem put_sorted {xs : List Int} {v : Int} (h : xs.Pairwise (· < ·)) : (put xs v).Pairwise (· < ·) := by
  induction xs with
  | nil => simp [put]
  | cons x r ih =>
    rw [List.pairwise_cons] at h
    rw [put]
    split
    · rename_i hx
      rw [List.pairwise_cons]
      refine ⟨fun y hy => ?_, ih h.2⟩
      rcases mem_put.1 hy with rfl | hy
      · exact hx
      · exact h.1 y hy
    · rename_i hx
      split
      · rw [List.pairwise_cons]; exact h
      · rename_i hn
        rw [List.pairwise_cons, List.pairwise_cons]
        refine ⟨fun y hy => ?_, h⟩
        rcases List.mem_cons.1 hy with rfl | hy
        · omega
        · have := h.1 y hy; omega

/-- Many put. -/
def puts (xs : List Int) : List Int := xs.foldl put []
theorem puts_snoc (xs : List Int) (v : Int) : puts (xs ++ [v]) = put (puts xs) v := by simp [puts]
theorem foldl_put_mem (xs : List Int) : ∀ (acc : List Int) (y : Int), y ∈ xs.foldl put acc ↔ y ∈ acc ∨ y ∈ xs := by
  induction xs with
  | nil => intro acc y; simp
  | cons x r ih =>
    intro acc y
    rw [List.foldl_cons, ih, mem_put, List.mem_cons]
    constructor
    · rintro ((h | h) | h) <;> simp [h]
    · rintro (h | h | h) <;> simp [h]
theorem mem_puts {xs : List Int} {y : Int} : y ∈ puts xs ↔ y ∈ xs := by rw [puts, foldl_put_mem]; simp
theorem foldl_put_sorted (xs : List Int) : ∀ acc : List Int, acc.Pairwise (· < ·) → (xs.foldl put acc).Pairwise (· < ·) := by
  induction xs with
  | nil => intro acc h; exact h
  | cons x r ih => intro acc h; exact ih _ (put_sorted h)
theorem puts_sorted (xs : List Int) : (puts xs).Pairwise (· < ·) := foldl_put_sorted xs [] List.Pairwise.nil
theorem sorted_nodup {xs : List Int} (h : xs.Pairwise (· < ·)) : xs.Nodup := h.imp (fun hab e => by omega)
theorem puts_length (xs : List Int) : (puts xs).length ≤ xs.length := by
  have key : ∀ (xs acc : List Int), (xs.foldl put acc).length ≤ acc.length + xs.length := by
    intro xs
    induction xs with
    | nil => intro acc; simp
    | cons x r ih => intro acc; have := ih (put acc x); have := put_length acc x; simp only [List.foldl_cons, List.length_cons]; omega
  have := key xs []
  simpa [puts] using this

/-- Two sorted lists of the same numbers are equal. -/
theorem sorted_ext {xs ys : List Int} (hx : xs.Pairwise (· < ·)) (hy : ys.Pairwise (· < ·)) (h : ∀ v, v ∈ xs ↔ v ∈ ys) : xs = ys := by
  induction xs generalizing ys with
  | nil =>
    cases ys with
    | nil => rfl
    | cons y r => have := (h y).2 (by simp); simp at this
  | cons x r ih =>
    cases ys with
    | nil => have := (h x).1 (by simp); simp at this
    | cons y s =>
      rw [List.pairwise_cons] at hx hy
      have e : x = y := by
        have h1 := (h x).1 (by simp)
        have h2 := (h y).2 (by simp)
        rcases List.mem_cons.1 h1 with e | h1
        · exact e
        · rcases List.mem_cons.1 h2 with e | h2
          · exact e.symm
          · have := hx.1 y h2; have := hy.1 x h1; omega
      subst e
      rw [ih hx.2 hy.2 (fun v => ?_)]
      constructor
      · intro hv
        rcases List.mem_cons.1 ((h v).1 (List.mem_cons_of_mem _ hv)) with e | hv'
        · subst e; exact absurd (hx.1 v hv) (Int.lt_irrefl _)
        · exact hv'
      · intro hv
        rcases List.mem_cons.1 ((h v).2 (List.mem_cons_of_mem _ hv)) with e | hv'
        · subst e; exact absurd (hy.1 v hv) (Int.lt_irrefl _)
        · exact hv'

theorem nodup_length_eq {xs ys : List Int} (hx : xs.Nodup) (hy : ys.Nodup) (h : ∀ v, v ∈ xs ↔ v ∈ ys) : xs.length = ys.length :=
  Nat.le_antisymm (List.Nodup.length_le_of_subset hx (fun v hv => (h v).1 hv)) (List.Nodup.length_le_of_subset hy (fun v hv => (h v).2 hv))

/-- A map of integers as the set of what was stored. -/
def keysI (xs : List Int) : List Lit := xs.map (Lit.int .i64)
theorem keysI_key (xs : List Int) : ∀ x ∈ keysI xs, WideAt.IsKeyLit x := fun y hy => by
  obtain ⟨_, _, rfl⟩ := List.mem_map.1 hy; trivial

theorem any_int (x : Int) : ∀ l : List Int, (keysI l).any (fun y : Lit => y.sameKey (.int .i64 x)) = l.contains x
  | [] => rfl
  | a :: r => by
    rw [keysI, List.map_cons, List.any_cons, List.contains_cons, ← keysI, any_int x r]
    congr 1
    show decide (IntKind.i64 = IntKind.i64 ∧ a = x) = (x == a)
    by_cases e : a = x
    · subst e
      simp
    · have e' : ¬ x = a := fun h => e h.symm
      simp [e, e']

theorem foldl_addKey (xs : List Int) : ∀ acc : List Int, acc.Nodup → ∃ ys : List Int, (keysI xs).foldl Maps.addKey (keysI acc) = keysI ys ∧ ys.Nodup ∧ ∀ v, v ∈ ys ↔ v ∈ acc ∨ v ∈ xs := by
  induction xs with
  | nil => intro acc h; exact ⟨acc, rfl, h, fun v => by simp⟩
  | cons x r ih =>
    intro acc h
    rw [show keysI (x :: r) = Lit.int .i64 x :: keysI r from rfl, List.foldl_cons]
    have e : Maps.addKey (keysI acc) (.int .i64 x) = keysI (if acc.contains x then acc else acc ++ [x]) := by
      unfold Maps.addKey
      rw [any_int]
      split
      · rfl
      · simp [keysI]
    rw [e]
    have hn : (if acc.contains x then acc else acc ++ [x]).Nodup := by
      split
      · exact h
      · rename_i hc
        rw [List.nodup_append]
        refine ⟨h, by simp, fun a ha b hb => ?_⟩
        simp at hb
        subst hb
        intro e; subst e
        simp at hc
        exact hc ha
    obtain ⟨ys, h1, h2, h3⟩ := ih _ hn
    refine ⟨ys, h1, h2, fun v => ?_⟩
    rw [h3, List.mem_cons]
    split
    · rename_i hc
      simp at hc
      constructor
      · rintro (h | h) <;> simp [h]
      · rintro (h | h | h)
        · simp [h]
        · subst h; simp [hc]
        · simp [h]
    · rw [List.mem_append, List.mem_singleton]
      constructor
      · rintro ((h | h) | h) <;> simp [h]
      · rintro (h | h | h) <;> simp [h]

/-- How many keys a set holds. -/
theorem size_keysI {H : Type} (u : DataW H) (xs : List Int) : Maps.size (Maps.setOf u (keysI xs)) = (puts xs).length := by
  rw [Maps.size_setOf u _ (keysI_key xs)]
  obtain ⟨ys, h1, h2, h3⟩ := foldl_addKey xs [] List.nodup_nil
  have h1' : (keysI xs).foldl Maps.addKey [] = keysI ys := h1
  rw [h1']
  rw [keysI, List.length_map]
  exact nodup_length_eq h2 (sorted_nodup (puts_sorted xs)) (fun v => by rw [h3, mem_puts]; simp)

end Go.Proofs.Ytjlfngnmmmaefaa
