/- The least elements of all cosets, in plain words. Conditions: none. -/
import Derived.Test.YtjlfngnmmmaefaaVg
import Derived.Test.YtjlfngnmmmaefaaCycP
namespace Go.Proofs.Ytjlfngnmmmaefaa

noncomputable def csS (p r : List (List Int)) : Nat → List (List Int)
  | 0 => []
  | k + 1 => if pb (gr p k ∈ csS p r k) then csS p r k else csS p r k ++ r.map fun x => cmp x (gr p k)
noncomputable def csL (p r : List (List Int)) : Nat → List (List Int)
  | 0 => []
  | k + 1 => if pb (gr p k ∈ csS p r k) then csL p r k else csL p r k ++ [gr p k]
theorem csS_old {p r : List (List Int)} {k : Nat} (h : gr p k ∈ csS p r k) : csS p r (k + 1) = csS p r k := by rw [csS, if_pos (pb_true h)]
theorem csS_new {p r : List (List Int)} {k : Nat} (h : ¬ gr p k ∈ csS p r k) : csS p r (k + 1) = csS p r k ++ r.map fun x => cmp x (gr p k) := by rw [csS, pb_false h]; rfl
theorem csL_old {p r : List (List Int)} {k : Nat} (h : gr p k ∈ csS p r k) : csL p r (k + 1) = csL p r k := by rw [csL, if_pos (pb_true h)]
theorem csL_new {p r : List (List Int)} {k : Nat} (h : ¬ gr p k ∈ csS p r k) : csL p r (k + 1) = csL p r k ++ [gr p k] := by rw [csL, pb_false h]; rfl
theorem csL_len (p r : List (List Int)) (k : Nat) : (csL p r k).length ≤ k := by
  induction k with
  | zero => exact Nat.le_refl _
  | succ k ih => rw [csL]; split <;> (try simp) <;> omega
theorem csL_sub {p r : List (List Int)} {k : Nat} (hk : k ≤ p.length) : ∀ x, x ∈ csL p r k → x ∈ p := by
  induction k with
  | zero => intro x hx; cases hx
  | succ k ih =>
    intro x hx
    rw [csL] at hx
    split at hx
    · exact ih (by omega) x hx
    · rcases List.mem_append.1 hx with h | h
      · exact ih (by omega) x h
      · rw [List.mem_singleton.1 h]; exact gr_mem' (by omega)
theorem csS_sub {n : Nat} {p r : List (List Int)} (hc : Closed n p) (hr : ∀ q, q ∈ r → q ∈ p) {k : Nat} (hk : k ≤ p.length) : ∀ x, x ∈ csS p r k → x ∈ p := by
  induction k with
  | zero => intro x hx; cases hx
  | succ k ih =>
    intro x hx
    rw [csS] at hx
    split at hx
    · exact ih (by omega) x hx
    · rcases List.mem_append.1 hx with h | h
      · exact ih (by omega) x h
      · obtain ⟨y, hy, rfl⟩ := List.mem_map.1 h
        exact hc.2 y (gr p k) (hr y hy) (gr_mem' (by omega))
theorem csS_part {n : Nat} {p r : List (List Int)} (hc : Closed n p) (hr : ∀ q, q ∈ r → q ∈ p) {k j : Nat} (hk : k < p.length) : ∀ x, x ∈ csS p r k ++ ((r.take j).map fun x => cmp x (gr p k)) → x ∈ p := by
  intro x hx
  rcases List.mem_append.1 hx with h | h
  · exact csS_sub hc hr (by omega) x h
  · obtain ⟨y, hy, rfl⟩ := List.mem_map.1 h
    exact hc.2 y (gr p k) (hr y (List.mem_of_mem_take hy)) (gr_mem' hk)
theorem map_take_snoc {r : List (List Int)} {j : Nat} (hj : j < r.length) (f : List Int → List Int) : ((r.take (j + 1)).map f) = (r.take j).map f ++ [f (gr r j)] := by
  rw [List.take_add_one, gr_get hj, List.map_append]; rfl

def Sub2 (z : Int) (p : List (List Int)) (y : Int) (r : List (List Int)) : Prop := z = y ∧ ∀ q, q ∈ r → q ∈ p
noncomputable def csC (z : Int) (p : List (List Int)) (y : Int) (r : List (List Int)) : Int := if pb (GrpOk z p ∧ GrpOk y r) then (if pb (Sub2 z p y r) then 0 else 6) else 1
noncomputable def csM (z : Int) (p : List (List Int)) (y : Int) (r : List (List Int)) : List (List Int) := if pb ((GrpOk z p ∧ GrpOk y r) ∧ Sub2 z p y r) then csL p r p.length else []
theorem cs_1 {z : Int} {p : List (List Int)} {y : Int} {r : List (List Int)} (h : ¬ (GrpOk z p ∧ GrpOk y r)) : [] = csM z p y r ∧ 1 = csC z p y r := by
  rw [csM, csC, pb_false (fun h' => h h'.1), pb_false h]; exact ⟨rfl, rfl⟩
theorem cs_6 {z : Int} {p : List (List Int)} {y : Int} {r : List (List Int)} (h : GrpOk z p ∧ GrpOk y r) (h2 : ¬ Sub2 z p y r) : [] = csM z p y r ∧ 6 = csC z p y r := by
  rw [csM, csC, pb_false (fun h' => h2 h'.2), pb_true h, pb_false h2]; exact ⟨rfl, rfl⟩
theorem cs_0 {z : Int} {p : List (List Int)} {y : Int} {r : List (List Int)} (h : GrpOk z p ∧ GrpOk y r) (h2 : Sub2 z p y r) : csL p r p.length = csM z p y r ∧ 0 = csC z p y r := by
  rw [csM, csC, pb_true ⟨h, h2⟩, pb_true h, pb_true h2]; exact ⟨rfl, rfl⟩
theorem csM_tot (z : Int) (p : List (List Int)) (y : Int) (r : List (List Int)) : tot (csM z p y r) ≤ 1048576 := by
  rw [csM]
  split
  · rename_i h0
    have h := (pb_iff.1 h0).1.1
    have h1 := tot_le (p := csL p r p.length) (k := 32) (fun x hx => by have := (h.2.2.1 x (csL_sub (Nat.le_refl _) x hx)).1; have := h.1; omega)
    have h2 := csL_len p r p.length
    have h3 := Nat.mul_le_mul_right 32 (Nat.le_trans h2 h.2.1.2)
    omega
  · simp [tot]

/-! ### what is done -/
def Dn (p S : List (List Int)) (s : List Bool) : Prop := s.length = p.length ∧ ∀ j, j < p.length → sn s j = pb (gr p j ∈ S)
theorem Dn.start (p : List (List Int)) : Dn p [] (List.replicate p.length false) := by
  refine ⟨by simp, fun j hj => ?_⟩
  rw [pb_false (by simp)]
  exact sn_of (by simp [hj])
theorem Dn.put {p S : List (List Int)} {s : List Bool} (h : Dn p S s) (hp : Strict p) {k : Nat} (hk : k < p.length) : Dn p (S ++ [gr p k]) (s.set k true) := by
  refine ⟨by rw [List.length_set]; exact h.1, fun j hj => ?_⟩
  by_cases e : j = k
  · subst e
    rw [pb_true (by simp)]
    exact sn_of (by rw [List.getElem?_set_self (by rw [h.1]; exact hj)])
  · have h1 := h.2 j hj
    have hne : gr p j ≠ gr p k := fun h9 => by
      have hnd := List.pairwise_iff_getElem.1 hp.nodup
      have e1 : gr p j = p[j] := gr_of (List.getElem?_eq_getElem hj)
      have e2 : gr p k = p[k] := gr_of (List.getElem?_eq_getElem hk)
      rcases Nat.lt_or_gt_of_ne e with hlt | hlt
      · exact hnd j k hj hk hlt (by rw [← e1, ← e2, h9])
      · exact hnd k j hk hj hlt (by rw [← e1, ← e2, h9])
    have h2 : sn (s.set k true) j = sn s j := by
      rw [sn, sn, List.getD_eq_getElem?_getD, List.getD_eq_getElem?_getD, List.getElem?_set_ne (fun h9 => e h9.symm)]
    rw [h2, h1]
    exact pb_congr ⟨fun h9 => List.mem_append_left _ h9, fun h9 => by
      rcases List.mem_append.1 h9 with h9 | h9
      · exact h9
      · exact absurd (List.mem_singleton.1 h9) hne⟩
end Go.Proofs.Ytjlfngnmmmaefaa
