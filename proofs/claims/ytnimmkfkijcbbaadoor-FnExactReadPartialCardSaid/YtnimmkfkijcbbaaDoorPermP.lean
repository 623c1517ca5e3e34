/- Permutations, in plain words. Conditions: none. -/
import Derived.Test.YtnimmkfkijcbbaaDoorGet
namespace Go.Proofs.YtnimmkfkijcbbaaDoor

/-- The numbers 0 .. n-1, each once, in some order. -/
def IsPerm (xs : List Int) : Prop := xs.Nodup ∧ ∀ v, v ∈ xs → 0 ≤ v ∧ v ≤ (xs.length : Int) - 1

/-- A permutation of at most 32 points. -/
def PermOk (xs : List Int) : Prop := xs.length ≤ 32 ∧ IsPerm xs

def upto (n : Nat) : List Int := (List.range n).map fun k : Nat => (k : Int)

theorem upto_length (n : Nat) : (upto n).length = n := by simp [upto]
theorem mem_upto {n : Nat} {v : Int} : v ∈ upto n ↔ 0 ≤ v ∧ v < n := by
  simp only [upto, List.mem_map, List.mem_range]
  constructor
  · rintro ⟨k, hk, rfl⟩; omega
  · rintro ⟨h1, h2⟩; exact ⟨v.toNat, by omega, by omega⟩
theorem gi_upto {n k : Nat} (h : k < n) : gi (upto n) k = k := gi_of (by simp [upto, h])
theorem upto_nodup (n : Nat) : (upto n).Nodup := by
  rw [upto, List.Nodup, List.pairwise_map]
  exact List.nodup_range.imp (fun h e => h (by omega))
theorem upto_succ (n : Nat) : upto (n + 1) = upto n ++ [(n : Int)] := by rw [upto, List.range_succ, List.map_append]; rfl

/-- A list of distinct numbers of a range that is as long as the range has all of them. -/
theorem IsPerm.perm {xs : List Int} (h : IsPerm xs) : xs.Perm (upto xs.length) := by
  rw [List.perm_ext_iff_of_nodup h.1 (upto_nodup _)]
  intro a
  constructor
  · intro ha; rw [mem_upto]; have := h.2 a ha; omega
  · intro ha
    apply Classical.byContradiction
    intro hn
    have hsub : ∀ v, v ∈ a :: xs → v ∈ upto xs.length := by
      intro v hv
      rcases List.mem_cons.1 hv with rfl | hv
      · exact ha
      · rw [mem_upto]; have := h.2 v hv; omega
    have := List.Nodup.length_le_of_subset (l₁ := a :: xs) (l₂ := upto xs.length) (List.nodup_cons.2 ⟨hn, h.1⟩) hsub
    rw [upto_length, List.length_cons] at this
    omega

theorem isPerm_of_perm {xs : List Int} {n : Nat} (h : xs.Perm (upto n)) : xs.length = n ∧ IsPerm xs := by
  have hl : xs.length = n := by rw [h.length_eq, upto_length]
  refine ⟨hl, (h.nodup_iff).2 (upto_nodup n), fun v hv => ?_⟩
  have := mem_upto.1 (h.mem_iff.1 hv)
  omega

theorem IsPerm.mem {xs : List Int} (h : IsPerm xs) {v : Int} (h0 : 0 ≤ v) (h1 : v < xs.length) : v ∈ xs := h.perm.mem_iff.2 (mem_upto.2 ⟨h0, h1⟩)

def leb (x y : Int) : Bool := decide (x ≤ y)

theorem sorted_of (xs : List Int) : (xs.mergeSort leb).Pairwise (fun x y => x ≤ y) := by
  have := List.pairwise_mergeSort (le := leb) (fun a b c h1 h2 => by simp [leb] at *; omega) (fun a b => by simp [leb]; omega) xs
  exact this.imp (fun h => by simpa [leb] using h)

theorem upto_sorted (n : Nat) : (upto n).Pairwise (fun x y => x ≤ y) := by
  rw [upto, List.pairwise_map]
  exact List.pairwise_lt_range.imp (fun h => by omega)

/-- Sorted, a permutation is the range. -/
theorem sort_perm {xs : List Int} : xs.mergeSort leb = upto xs.length ↔ IsPerm xs := by
  constructor
  · intro h
    have hp : xs.Perm (upto xs.length) := by rw [← h]; exact (List.mergeSort_perm xs leb).symm
    exact (isPerm_of_perm hp).2
  · intro h
    exact List.Perm.eq_of_pairwise (fun a b _ _ h1 h2 => by omega) (sorted_of xs) (upto_sorted _) ((List.mergeSort_perm xs leb).trans h.perm)

/-- The test of the reference, up to a place. -/
def PermTo (xs : List Int) (k : Nat) : Prop := ∀ i, i < k → (0 ≤ gi xs i ∧ gi xs i ≤ (xs.length : Int) - 1) ∧ gi xs i ∉ xs.take i

theorem permTo_iff {xs : List Int} : PermTo xs xs.length ↔ IsPerm xs := by
  constructor
  · intro h
    refine ⟨?_, fun v hv => ?_⟩
    · rw [List.Nodup, List.pairwise_iff_getElem]
      intro i j hi hj hij e
      apply (h j hj).2
      have h1 : gi xs j = xs[j] := gi_of (List.getElem?_eq_getElem hj)
      rw [h1, ← e]
      exact List.mem_of_getElem? (i := i) (by rw [List.getElem?_take, if_pos hij]; exact List.getElem?_eq_getElem hi)
    · obtain ⟨k, hk, rfl⟩ := mem_gi hv
      exact (h k hk).1
  · intro h i hi
    refine ⟨h.2 _ (gi_mem hi), fun hm => ?_⟩
    obtain ⟨j, hj, he⟩ := mem_gi hm
    rw [List.length_take] at hj
    rw [gi_take (by omega)] at he
    have := List.pairwise_iff_getElem.1 h.1 j i (by omega) hi (by omega)
    apply this
    have h1 : gi xs j = xs[j] := gi_of (List.getElem?_eq_getElem (by omega))
    have h2 : gi xs i = xs[i] := gi_of (List.getElem?_eq_getElem hi)
    rw [← h1, ← h2, he]

end Go.Proofs.YtnimmkfkijcbbaaDoor
