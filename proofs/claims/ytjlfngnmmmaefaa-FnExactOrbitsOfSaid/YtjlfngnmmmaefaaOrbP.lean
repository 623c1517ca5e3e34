/- The orbit of a point, in plain words; what slices.Compact leaves of sorted numbers. Conditions: none. -/
import Derived.Lib.SlicesCompact
import Derived.Test.YtjlfngnmmmaefaaPutP
import Derived.Test.YtjlfngnmmmaefaaPermP
namespace Go.Proofs.Ytjlfngnmmmaefaa
open Go.Lib

theorem compactUp {d : Array Int} (hs : ∀ i j, i < j → j < d.size → d[i]! ≤ d[j]!) (m : Nat) (hm : m ≤ d.size) :
    (compactUpTo d m).Pairwise (· < ·) ∧ (∀ v, v ∈ compactUpTo d m ↔ ∃ j, j < m ∧ d[j]! = v) := by
  induction m with
  | zero => exact ⟨List.Pairwise.nil, fun v => ⟨fun h => (by cases h), fun ⟨j, h, _⟩ => absurd h (Nat.not_lt_zero _)⟩⟩
  | succ m ih =>
    obtain ⟨h1, h2⟩ := ih (by omega)
    rw [compactUpTo_succ]
    by_cases hk : keeps d m = true
    · rw [if_pos hk]
      refine ⟨List.pairwise_append.2 ⟨h1, by simp, fun a ha b hb => ?_⟩, fun v => ?_⟩
      · rw [List.mem_singleton] at hb
        subst hb
        obtain ⟨j, hj, rfl⟩ := (h2 a).1 ha
        have hk' : m = 0 ∨ d[m]! ≠ d[m - 1]! := by simpa [keeps] using hk
        have h3 : d[m]! ≠ d[m - 1]! := by
          rcases hk' with h | h
          · omega
          · exact h
        have h4 := hs (m - 1) m (by omega) (by omega)
        by_cases e : j = m - 1
        · subst e; omega
        · have := hs j (m - 1) (by omega) (by omega); omega
      · rw [List.mem_append, h2, List.mem_singleton]
        constructor
        · rintro (⟨j, hj, e⟩ | e)
          · exact ⟨j, by omega, e⟩
          · exact ⟨m, by omega, e.symm⟩
        · rintro ⟨j, hj, e⟩
          by_cases e2 : j = m
          · subst e2; exact .inr e.symm
          · exact .inl ⟨j, by omega, e⟩
    · rw [if_neg hk, List.append_nil]
      refine ⟨h1, fun v => ?_⟩
      have hk' : ¬ (m = 0 ∨ d[m]! ≠ d[m - 1]!) := by simpa [keeps] using hk
      have h3 : d[m]! = d[m - 1]! := Classical.byContradiction fun h => hk' (.inr h)
      have h4 : m ≠ 0 := fun h => hk' (.inl h)
      rw [h2]
      constructor
      · rintro ⟨j, hj, e⟩; exact ⟨j, by omega, e⟩
      · rintro ⟨j, hj, e⟩
        by_cases e2 : j = m
        · subst e2; exact ⟨j - 1, by omega, by rw [← h3]; exact e⟩
        · exact ⟨j, by omega, e⟩

theorem compact_sorted {xs : List Int} (h : xs.Pairwise (· ≤ ·)) : (Lib.compact xs).Pairwise (· < ·) ∧ (∀ v, v ∈ Lib.compact xs ↔ v ∈ xs) := by
  have hs : ∀ i j, i < j → j < xs.toArray.size → xs.toArray[i]! ≤ xs.toArray[j]! := by
    intro i j hij hj
    have hj' : j < xs.length := by simpa using hj
    have := List.pairwise_iff_getElem.1 h i j (by omega) hj' hij
    simpa [hj', show i < xs.length by omega] using this
  obtain ⟨h1, h2⟩ := compactUp hs xs.length (by simp)
  refine ⟨h1, fun v => ?_⟩
  rw [Lib.compact, h2]
  constructor
  · rintro ⟨j, hj, e⟩
    rw [← e]
    simp [hj]
  · intro hv
    obtain ⟨j, hj, e⟩ := List.mem_iff_getElem.1 hv
    exact ⟨j, hj, by simpa [hj] using e⟩

theorem compact_puts (xs : List Int) : Lib.compact (xs.mergeSort leb) = puts xs := by
  obtain ⟨h1, h2⟩ := compact_sorted (sorted_of xs)
  exact sorted_ext h1 (puts_sorted xs) (fun v => by rw [h2, mem_puts, (List.mergeSort_perm xs leb).mem_iff])

/-- The points to which a point is moved. -/
def moved (p : List (List Int)) (x : Nat) : List Int := p.map (fun q => gi q x)
def orb (p : List (List Int)) (x : Nat) : List Int := puts (moved p x)
theorem moved_snoc {p : List (List Int)} {x k : Nat} (hk : k < p.length) : moved (p.take (k + 1)) x = moved (p.take k) x ++ [gi (gr p k) x] := by
  rw [moved, List.take_add_one, gr_get hk, List.map_append]; rfl
theorem orb_snoc {p : List (List Int)} {x k : Nat} (hk : k < p.length) : orb (p.take (k + 1)) x = put (orb (p.take k) x) (gi (gr p k) x) := by
  rw [orb, moved_snoc hk, puts_snoc]; rfl
theorem orb_len (p : List (List Int)) (x : Nat) : (orb p x).length ≤ p.length := by
  have := puts_length (moved p x)
  rw [moved, List.length_map] at this
  exact this
theorem orb_ne {p : List (List Int)} {x : Nat} (h : 0 < p.length) : 0 < (orb p x).length := by
  have h1 : gi (gr p 0) x ∈ orb p x := by
    rw [orb, mem_puts, moved, List.mem_map]
    exact ⟨gr p 0, List.mem_of_getElem? (gr_get h), rfl⟩
  exact List.length_pos_of_mem h1
end Go.Proofs.Ytjlfngnmmmaefaa
