/- Closures under multiplication, and sorting by insertion, in plain words. Conditions: none. -/
import Derived.Test.YtkapkieeafhaoaaIsoP
import Derived.Test.YtkapkieeafhaoaaPermP
import Derived.Test.YtkapkieeafhaoaaSetP
import Derived.Test.YtkapkieeafhaoaaSqP
namespace Go.Proofs.Ytkapkieeafhaoaa
open Go.RowKit

inductive Cl (p : List (List Int)) (S : List Int) : Int → Prop
  | base {v : Int} : v ∈ S → Cl p S v
  | mul {x y : Int} : Cl p S x → Cl p S y → Cl p S (at2 p x.toNat y.toNat)

theorem Cl.lt {p : List (List Int)} {S : List Int} {n : Nat} (hp : Rng p n) (hS : ∀ v, v ∈ S → 0 ≤ v ∧ v < n) {v : Int} (h : Cl p S v) : 0 ≤ v ∧ v < n := by
  induction h with
  | base h => exact hS _ h
  | mul _ _ h1 h2 => exact hp.2.2 _ _ (by omega) (by omega)

noncomputable def cloL (p : List (List Int)) (n : Nat) (S : List Int) : List Int := ((List.range n).filter fun k : Nat => pb (Cl p S (k : Int))).map fun k : Nat => (k : Int)
theorem mem_cloL {p : List (List Int)} {S : List Int} {n : Nat} (hp : Rng p n) (hS : ∀ v, v ∈ S → 0 ≤ v ∧ v < n) {v : Int} : v ∈ cloL p n S ↔ Cl p S v := by
  simp only [cloL, List.mem_map, List.mem_filter, List.mem_range, pb_iff]
  constructor
  · rintro ⟨k, ⟨_, h⟩, rfl⟩; exact h
  · intro h
    have h2 := h.lt hp hS
    refine ⟨v.toNat, ⟨by omega, ?_⟩, by omega⟩
    rw [show ((v.toNat : Nat) : Int) = v by omega]; exact h
theorem cloL_nodup (p : List (List Int)) (n : Nat) (S : List Int) : (cloL p n S).Nodup := by
  rw [cloL, List.Nodup, List.pairwise_map]
  exact (List.nodup_range.filter _).imp (fun h e => h (by omega))
theorem cloL_sorted (p : List (List Int)) (n : Nat) (S : List Int) : (cloL p n S).Pairwise (fun x y => x ≤ y) := by
  rw [cloL, List.pairwise_map]
  exact (List.pairwise_lt_range.filter _).imp (fun h => by omega)
theorem cloL_len (p : List (List Int)) (n : Nat) (S : List Int) : (cloL p n S).length ≤ n := by
  rw [cloL, List.length_map]
  have := List.length_filter_le (fun k : Nat => pb (Cl p S (k : Int))) (List.range n)
  rwa [List.length_range] at this

/-- What holds of the numbers gathered so far. -/
def CloInv (p : List (List Int)) (S : List Int) (xs : List Int) : Prop := xs.Nodup ∧ (∀ v, v ∈ S → v ∈ xs) ∧ ∀ v, v ∈ xs → Cl p S v
theorem CloInv.start {p : List (List Int)} {S : List Int} (h : S.Nodup) : CloInv p S S := ⟨h, fun _ k => k, fun _ k => .base k⟩
theorem CloInv.step {p : List (List Int)} {S xs : List Int} (h : CloInv p S xs) {x y : Int} (hx : x ∈ xs) (hy : y ∈ xs) (hn : at2 p x.toNat y.toNat ∉ xs) : CloInv p S (xs ++ [at2 p x.toNat y.toNat]) := by
  refine ⟨?_, fun v hv => List.mem_append_left _ (h.2.1 v hv), fun v hv => ?_⟩
  · rw [List.nodup_append]
    refine ⟨h.1, by simp, fun a ha b hb e => ?_⟩
    simp at hb
    subst hb e
    exact hn ha
  · rcases List.mem_append.1 hv with hv | hv
    · exact h.2.2 v hv
    · simp at hv; subst hv; exact .mul (h.2.2 x hx) (h.2.2 y hy)
theorem CloInv.lt {p : List (List Int)} {S xs : List Int} {n : Nat} (h : CloInv p S xs) (hp : Rng p n) (hS : ∀ v, v ∈ S → 0 ≤ v ∧ v < n) {v : Int} (hv : v ∈ xs) : 0 ≤ v ∧ v < n := (h.2.2 v hv).lt hp hS
theorem CloInv.len {p : List (List Int)} {S xs : List Int} {n : Nat} (h : CloInv p S xs) (hp : Rng p n) (hS : ∀ v, v ∈ S → 0 ≤ v ∧ v < n) : xs.length ≤ n := by
  have := List.Nodup.length_le_of_subset (l₁ := xs) (l₂ := upto n) h.1 (fun v hv => by rw [mem_upto]; exact h.lt hp hS hv)
  rwa [upto_length] at this
theorem CloInv.perm {p : List (List Int)} {S xs ys : List Int} (h : CloInv p S xs) (k : ys.Perm xs) : CloInv p S ys :=
  ⟨k.nodup_iff.2 h.1, fun v hv => k.mem_iff.2 (h.2.1 v hv), fun v hv => h.2.2 v (k.mem_iff.1 hv)⟩
/-- Closed, it is the closure. -/
theorem CloInv.done {p : List (List Int)} {S xs : List Int} {n : Nat} (h : CloInv p S xs) (hp : Rng p n) (hS : ∀ v, v ∈ S → 0 ≤ v ∧ v < n) (hc : ∀ x y, x ∈ xs → y ∈ xs → at2 p x.toNat y.toNat ∈ xs) : xs.mergeSort leb = cloL p n S := by
  have hall : ∀ v, Cl p S v → v ∈ xs := by
    intro v hv
    induction hv with
    | base h1 => exact h.2.1 _ h1
    | mul _ _ h1 h2 => exact hc _ _ h1 h2
  refine List.Perm.eq_of_pairwise (fun a b _ _ h1 h2 => by omega) (sorted_of xs) (cloL_sorted p n S) ((List.mergeSort_perm xs leb).trans ?_)
  rw [List.perm_ext_iff_of_nodup h.1 (cloL_nodup p n S)]
  intro v
  rw [mem_cloL hp hS]
  exact ⟨h.2.2 v, hall v⟩

theorem sort_unique {xs ys : List Int} (hp : ys.Perm xs) (hs : ys.Pairwise (fun x y => x ≤ y)) : ys = xs.mergeSort leb :=
  List.Perm.eq_of_pairwise (fun a b _ _ h1 h2 => by omega) hs (sorted_of xs) (hp.trans (List.mergeSort_perm xs leb).symm)

/-- A number laid into a list at a place. -/
def insAt (L : List Int) (k : Nat) (v : Int) : List Int := L.take k ++ v :: L.drop k
theorem insAt_len (L : List Int) {k : Nat} (v : Int) (hk : k ≤ L.length) : (insAt L k v).length = L.length + 1 := by
  simp [insAt]; omega
theorem insAt_top (L : List Int) (v : Int) : insAt L L.length v = L ++ [v] := by simp [insAt]
theorem insAt_perm (L : List Int) (k : Nat) (v : Int) : (insAt L k v).Perm (L ++ [v]) := by
  have h : (insAt L k v).Perm (v :: (L.take k ++ L.drop k)) := List.perm_middle
  rw [List.take_append_drop] at h
  exact h.trans (List.perm_append_singleton v L).symm
theorem insAt_at (L : List Int) {k : Nat} (v : Int) (hk : k ≤ L.length) : gi (insAt L k v) k = v := gi_of (by
  rw [insAt, List.getElem?_append_right (by rw [List.length_take]; omega), List.length_take, Nat.min_eq_left hk, Nat.sub_self]; rfl)
theorem insAt_below (L : List Int) {k j : Nat} (v : Int) (hk : k ≤ L.length) (hj : j < k) : gi (insAt L k v) j = gi L j := gi_of (by
  rw [insAt, List.getElem?_append_left (by rw [List.length_take]; omega), List.getElem?_take_of_lt hj, gi_get (by omega)])
theorem insAt_step (L : List Int) {k : Nat} (v : Int) (hk : k + 1 ≤ L.length) : ((insAt L (k + 1) v).set (k + 1) (gi L k)).set k v = insAt L k v := by
  have e1 : L.take (k + 1) = L.take k ++ [gi L k] := by
    rw [List.take_add_one, gi_get (by omega)]; rfl
  have e2 : L.drop k = gi L k :: L.drop (k + 1) := by
    rw [List.drop_eq_getElem_cons (by omega), gi_of (List.getElem?_eq_getElem (by omega))]
  have hl : (L.take k).length = k := by rw [List.length_take]; omega
  rw [insAt, insAt, e1, e2]
  rw [List.set_append_right _ _ (by rw [List.length_append, hl]; simp), List.length_append, hl]
  simp only [List.length_singleton, Nat.sub_self, List.set_cons_zero, List.append_assoc, List.singleton_append]
  rw [List.set_append_right _ _ (by rw [hl]; exact Nat.le_refl _), hl, Nat.sub_self]
  rfl
theorem insAt_sorted {L : List Int} {k : Nat} {v : Int} (h : L.Pairwise (fun x y => x ≤ y)) (hk : k ≤ L.length) (h1 : ∀ j, j < k → gi L j ≤ v) (h2 : ∀ j, k ≤ j → j < L.length → v ≤ gi L j) : (insAt L k v).Pairwise (fun x y => x ≤ y) := by
  rw [insAt, List.pairwise_append, List.pairwise_cons]
  have htk : ∀ a, a ∈ L.take k → a ≤ v := by
    intro a ha
    obtain ⟨i, hi, e⟩ := mem_gi ha
    rw [List.length_take] at hi
    rw [gi_take (by omega)] at e
    rw [← e]; exact h1 i (by omega)
  have hdk : ∀ a, a ∈ L.drop k → v ≤ a := by
    intro a ha
    obtain ⟨i, hi, e⟩ := mem_gi ha
    rw [List.length_drop] at hi
    have : gi (L.drop k) i = gi L (k + i) := gi_of (by rw [List.getElem?_drop, gi_get (by omega)])
    rw [← e, this]; exact h2 _ (by omega) (by omega)
  refine ⟨h.sublist (List.take_sublist _ _), ⟨hdk, h.sublist (List.drop_sublist _ _)⟩, fun a ha b hb => ?_⟩
  rcases List.mem_cons.1 hb with rfl | hb
  · exact htk a ha
  · have := htk a ha; have := hdk b hb; omega
theorem sorted_gi {L : List Int} (h : L.Pairwise (fun x y => x ≤ y)) {i j : Nat} (hij : i ≤ j) (hj : j < L.length) : gi L i ≤ gi L j := by
  by_cases e : i = j
  · subst e; omega
  · have := List.pairwise_iff_getElem.1 h i j (by omega) hj (by omega)
    rw [gi_of (List.getElem?_eq_getElem (by omega : i < L.length)), gi_of (List.getElem?_eq_getElem hj)]
    exact this

noncomputable def clM (p : List (List Int)) (S : List Int) : List Int := if pb (SqOk p) then (if pb (Rises S 0 ((p.length : Int) - 1)) then cloL p p.length S else []) else []
noncomputable def clC (p : List (List Int)) (S : List Int) : Int := if pb (SqOk p) then (if pb (Rises S 0 ((p.length : Int) - 1)) then 0 else 2) else 1
theorem clM_len (p : List (List Int)) (S : List Int) : (clM p S).length ≤ 1048576 := by
  rw [clM]
  split
  · rename_i h
    have := (pb_iff.1 h).2.1
    split
    · have := cloL_len p p.length S; omega
    · simp
  · simp
end Go.Proofs.Ytkapkieeafhaoaa
