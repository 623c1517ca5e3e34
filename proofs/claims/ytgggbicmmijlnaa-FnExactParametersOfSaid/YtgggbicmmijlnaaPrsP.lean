/- Counts of pairs of points, in plain words. Conditions: none. -/
import Derived.Test.YtgggbicmmijlnaaVd
import Derived.Test.YtgggbicmmijlnaaSet2
namespace Go.Proofs.Ytgggbicmmijlnaa
open Go.RowKit

/-- Blocks ahead of k with both points. -/
def pcN (p : List (List Int)) (a b : Nat) : Nat → Nat
  | 0 => 0
  | k + 1 => pcN p a b k + if (a : Int) ∈ gr p k ∧ (b : Int) ∈ gr p k then 1 else 0
theorem pcN_le (p : List (List Int)) (a b k : Nat) : pcN p a b k ≤ k := by
  induction k with
  | zero => exact Nat.le_refl _
  | succ k ih => rw [pcN]; split <;> omega

def pcIn (p : List (List Int)) (a j : Nat) : List Int := (List.range j).map fun i => (pcN p a (a + 1 + i) p.length : Int)
theorem pcIn_length (p : List (List Int)) (a j : Nat) : (pcIn p a j).length = j := by simp [pcIn]
theorem pcIn_succ (p : List (List Int)) (a j : Nat) : pcIn p a (j + 1) = pcIn p a j ++ [(pcN p a (a + 1 + j) p.length : Int)] := by rw [pcIn, List.range_succ, List.map_append]; rfl
def pcTo (p : List (List Int)) (z : Nat) : Nat → List Int
  | 0 => []
  | a + 1 => pcTo p z a ++ pcIn p a (z - (a + 1))
def pcs (p : List (List Int)) (z : Nat) : List Int := pcTo p z z
theorem pcTo_len (p : List (List Int)) (z a : Nat) : (pcTo p z a).length ≤ z * a := by
  induction a with
  | zero => simp [pcTo]
  | succ a ih => rw [pcTo, List.length_append, pcIn_length, Nat.mul_succ]; omega
theorem pcs_len {p : List (List Int)} {z : Nat} (hz : z ≤ 32) : (pcs p z).length ≤ 1024 := by
  have h1 := pcTo_len p z z
  have h2 := Nat.mul_le_mul hz hz
  rw [pcs]; omega

/-- Counted within a block so far: place i, partner's place t. -/
def inB (b : List Int) (i t x y : Nat) : Nat := if x < y ∧ (((x : Int) ∈ b.take i ∧ (y : Int) ∈ b) ∨ (i < b.length ∧ gi b i = x ∧ (y : Int) ∈ b.take t)) then 1 else 0
theorem inB_le (b : List Int) (i t x y : Nat) : inB b i t x y ≤ 1 := by rw [inB]; split <;> omega

theorem mem_take {b : List Int} {t : Nat} (ht : t ≤ b.length) {v : Int} : v ∈ b.take t ↔ ∃ i, i < t ∧ gi b i = v := by
  rw [List.mem_iff_getElem?]
  constructor
  · rintro ⟨i, hi⟩
    have h1 := (List.getElem?_eq_some_iff.1 hi).1
    rw [List.length_take] at h1
    rw [List.getElem?_take_of_lt (by omega)] at hi
    exact ⟨i, by omega, gi_of hi⟩
  · rintro ⟨i, hi, rfl⟩
    exact ⟨i, by rw [List.getElem?_take_of_lt hi]; exact gi_get (by omega)⟩
theorem mem_all {b : List Int} {v : Int} : v ∈ b ↔ ∃ i, i < b.length ∧ gi b i = v := by
  have := mem_take (b := b) (t := b.length) (Nat.le_refl _) (v := v)
  rwa [List.take_length] at this

/-- A block rises. -/
def Up (b : List Int) : Prop := ∀ i j, i < j → j < b.length → gi b i < gi b j
theorem BlkOk.up {z : Int} {b : List Int} (h : BlkOk z b) : Up b := fun _ _ hij hj => RisesTo.lt h.2 hij hj

theorem inB_step {b : List Int} (h : Up b) {i t x y u v : Nat} (hit : i < t) (ht : t < b.length) (hu : gi b i = u) (hv : gi b t = v) :
    inB b i (t + 1) x y = inB b i t x y + if x = u ∧ y = v then 1 else 0 := by
  have huv : u < v := by have := h i t hit ht; omega
  by_cases e : x = u ∧ y = v
  · obtain ⟨rfl, rfl⟩ := e
    rw [if_pos ⟨rfl, rfl⟩, inB, if_pos ⟨huv, .inr ⟨by omega, hu, (mem_take (by omega)).2 ⟨t, by omega, hv⟩⟩⟩, inB, if_neg]
    rintro ⟨_, h1 | h1⟩
    · obtain ⟨j, hj, he⟩ := (mem_take (by omega)).1 h1.1
      have := h j i hj (by omega)
      omega
    · obtain ⟨j, hj, he⟩ := (mem_take (by omega)).1 h1.2.2
      have := h j t hj ht
      omega
  · rw [if_neg e, Nat.add_zero, inB, inB]
    have key : (i < b.length ∧ gi b i = x ∧ (y : Int) ∈ b.take (t + 1)) ↔ (i < b.length ∧ gi b i = x ∧ (y : Int) ∈ b.take t) := by
      constructor
      · rintro ⟨h1, h2, h3⟩
        refine ⟨h1, h2, ?_⟩
        obtain ⟨j, hj, he⟩ := (mem_take (by omega)).1 h3
        by_cases ej : j = t
        · subst ej
          exact absurd ⟨by omega, by omega⟩ e
        · exact (mem_take (by omega)).2 ⟨j, by omega, he⟩
      · rintro ⟨h1, h2, h3⟩
        obtain ⟨j, hj, he⟩ := (mem_take (by omega)).1 h3
        exact ⟨h1, h2, (mem_take (by omega)).2 ⟨j, by omega, he⟩⟩
    by_cases q : x < y ∧ (((x : Int) ∈ b.take i ∧ (y : Int) ∈ b) ∨ (i < b.length ∧ gi b i = x ∧ (y : Int) ∈ b.take t))
    · rw [if_pos q, if_pos ⟨q.1, q.2.imp id key.2⟩]
    · rw [if_neg q, if_neg (fun hh => q ⟨hh.1, hh.2.imp id key.1⟩)]

theorem inB_row {b : List Int} (h : Up b) {i x y : Nat} (hi : i < b.length) : inB b i b.length x y = inB b (i + 1) (i + 2) x y := by
  rw [inB, inB, List.take_length]
  have key : (x < y ∧ (((x : Int) ∈ b.take i ∧ (y : Int) ∈ b) ∨ (i < b.length ∧ gi b i = x ∧ (y : Int) ∈ b))) ↔ (x < y ∧ (((x : Int) ∈ b.take (i + 1) ∧ (y : Int) ∈ b) ∨ (i + 1 < b.length ∧ gi b (i + 1) = x ∧ (y : Int) ∈ b.take (i + 2)))) := by
    constructor
    · rintro ⟨h1, h2 | h2⟩
      · obtain ⟨j, hj, he⟩ := (mem_take (by omega)).1 h2.1
        exact ⟨h1, .inl ⟨(mem_take (by omega)).2 ⟨j, by omega, he⟩, h2.2⟩⟩
      · exact ⟨h1, .inl ⟨(mem_take (by omega)).2 ⟨i, by omega, h2.2.1⟩, h2.2.2⟩⟩
    · rintro ⟨h1, h2 | h2⟩
      · obtain ⟨j, hj, he⟩ := (mem_take (by omega)).1 h2.1
        by_cases e : j = i
        · subst e; exact ⟨h1, .inr ⟨hi, he, h2.2⟩⟩
        · exact ⟨h1, .inl ⟨(mem_take (by omega)).2 ⟨j, by omega, he⟩, h2.2⟩⟩
      · obtain ⟨j, hj, he⟩ := (mem_take (by omega)).1 h2.2.2
        by_cases e : j = i + 1
        · subst e; omega
        · have := h j (i + 1) (by omega) h2.1
          omega
  by_cases q : (x < y ∧ (((x : Int) ∈ b.take i ∧ (y : Int) ∈ b) ∨ (i < b.length ∧ gi b i = x ∧ (y : Int) ∈ b)))
  · rw [if_pos q, if_pos (key.1 q)]
  · rw [if_neg q, if_neg (fun hh => q (key.2 hh))]

theorem inB_zero {b : List Int} (h : Up b) (x y : Nat) : inB b 0 1 x y = 0 := by
  rw [inB, if_neg]
  rintro ⟨h1, h2 | h2⟩
  · simp at h2
  · obtain ⟨j, hj, he⟩ := (mem_take (by omega)).1 h2.2.2
    have : j = 0 := by omega
    subst this
    omega
theorem inB_end {b : List Int} {t x y : Nat} (hxy : x < y) : inB b b.length t x y = if (x : Int) ∈ b ∧ (y : Int) ∈ b then 1 else 0 := by
  rw [inB, List.take_length]
  by_cases q : (x : Int) ∈ b ∧ (y : Int) ∈ b
  · rw [if_pos q, if_pos ⟨hxy, .inl q⟩]
  · rw [if_neg q, if_neg]
    rintro ⟨_, h2 | h2⟩
    · exact q h2
    · omega

/-- What the table of pairs holds: k blocks, and place i with partner t of block k. -/
def Tab (p : List (List Int)) (z : Nat) (M : List (List Int)) (k i t : Nat) : Prop := Rect M z z ∧ ∀ x y, x < y → y < z → at2 M x y = ((pcN p x y k + inB (gr p k) i t x y : Nat) : Int)

theorem Tab.start {p M : List (List Int)} {z : Nat} (hr : Rect M z z) (h0 : ∀ x y, x < z → y < z → at2 M x y = 0) (hu : Up (gr p 0)) : Tab p z M 0 0 1 := by
  refine ⟨hr, fun x y hxy hy => ?_⟩
  rw [h0 x y (by omega) hy, inB_zero hu]
  rfl
theorem Tab.step {p M : List (List Int)} {z k i t u v : Nat} (h : Tab p z M k i t) (hu : Up (gr p k)) (hit : i < t) (ht : t < (gr p k).length) (h1 : gi (gr p k) i = u) (h2 : gi (gr p k) t = v) (hv : v < z) :
    Tab p z (set2 M u v (at2 M u v + 1)) k i (t + 1) := by
  have huv : u < v := by have := hu i t hit ht; omega
  refine ⟨rect_set2 h.1 _ _ _ (by omega), fun x y hxy hy => ?_⟩
  rw [at2_set2 h.1 _ (by omega) hv, inB_step hu hit ht h1 h2]
  by_cases e : x = u ∧ y = v
  · rw [if_pos e, if_pos e, e.1, e.2, h.2 u v huv hv]
    omega
  · rw [if_neg e, if_neg e, h.2 x y hxy hy]
    rfl
theorem Tab.row {p M : List (List Int)} {z k i : Nat} (h : Tab p z M k i (gr p k).length) (hu : Up (gr p k)) (hi : i < (gr p k).length) : Tab p z M k (i + 1) (i + 2) :=
  ⟨h.1, fun x y hxy hy => by rw [h.2 x y hxy hy, inB_row hu hi]⟩
theorem Tab.next {p M : List (List Int)} {z k t : Nat} (h : Tab p z M k (gr p k).length t) (hu : Up (gr p (k + 1))) : Tab p z M (k + 1) 0 1 :=
  ⟨h.1, fun x y hxy hy => by rw [h.2 x y hxy hy, inB_zero hu, inB_end hxy, pcN]; rfl⟩
theorem Tab.le {p M : List (List Int)} {z k i t : Nat} (h : Tab p z M k i t) {x y : Nat} (hxy : x < y) (hy : y < z) : 0 ≤ at2 M x y ∧ at2 M x y ≤ (k : Int) + 1 := by
  rw [h.2 x y hxy hy]
  have h1 := pcN_le p x y k
  have h2 := inB_le (gr p k) i t x y
  omega
theorem Up.none {b : List Int} (h : b = []) : Up b := fun i j _ hj => by subst h; simp at hj
theorem Tab.tail {p M : List (List Int)} {z x : Nat} (h : Tab p z M p.length 0 1) (hx : x < z) (hu : Up (gr p p.length)) : (gr M x).drop (x + 1) = pcIn p x (z - (x + 1)) := by
  have hl := h.1.2 x hx
  apply List.ext_getElem?
  intro j
  rw [List.getElem?_drop, pcIn]
  by_cases e : j < z - (x + 1)
  · rw [gi_get (by omega)]
    have h2 := h.2 x (x + 1 + j) (by omega) (by omega)
    rw [inB_zero hu] at h2
    rw [at2] at h2
    simp [h2, e]
  · rw [List.getElem?_eq_none (by omega), List.getElem?_eq_none (by simp; omega)]

noncomputable def prsM (z : Int) (p : List (List Int)) : List Int := if pb (DsnOk z p) then pcs p z.toNat else []
noncomputable def prsC (z : Int) (p : List (List Int)) : Int := if pb (DsnOk z p) then 0 else 1
theorem prsM_len (z : Int) (p : List (List Int)) : (prsM z p).length ≤ 1048576 := by
  rw [prsM]
  split
  · rename_i h
    have := (pb_iff.1 h).1
    have := pcs_len (p := p) (z := z.toNat) (by omega)
    omega
  · simp
end Go.Proofs.Ytgggbicmmijlnaa
