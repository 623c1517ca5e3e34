/- Valid groups, in plain words. Conditions: none. -/
import Derived.Test.YtjlfngnmmmaefaaGenP
import Derived.Test.YtjlfngnmmmaefaaUnitP
import Derived.Test.YtjlfngnmmmaefaaPermI
namespace Go.Proofs.Ytjlfngnmmmaefaa

def Strict (E : List (List Int)) : Prop := ∀ k, 0 < k → k < E.length → cmpL (gr E (k - 1)) (gr E k) < 0
theorem Strict.lt {E : List (List Int)} (h : Strict E) {i j : Nat} (hij : i < j) (hj : j < E.length) : cmpL (gr E i) (gr E j) < 0 := by
  induction j with
  | zero => omega
  | succ j ih =>
    have h1 := h (j + 1) (by omega) hj
    rw [Nat.add_sub_cancel] at h1
    by_cases e : i = j
    · subst e; exact h1
    · exact ltL_trans (ih (by omega) (by omega)) h1
theorem Strict.pair {E : List (List Int)} (h : Strict E) : E.Pairwise fun x y => cmpL x y < 0 := by
  rw [List.pairwise_iff_getElem]
  intro i j hi hj hij
  have := h.lt hij hj
  rwa [gr_of (List.getElem?_eq_getElem hi), gr_of (List.getElem?_eq_getElem hj)] at this
theorem Strict.sorted {E : List (List Int)} (h : Strict E) : SortedLL E := h.pair.imp (fun h => by unfold leL; omega)
theorem Strict.nodup {E : List (List Int)} (h : Strict E) : E.Nodup := h.pair.imp (fun h e => by subst e; rw [cmpL_self] at h; omega)

def GrpOk (z : Int) (E : List (List Int)) : Prop := (1 ≤ z ∧ z ≤ 32) ∧ (1 ≤ E.length ∧ E.length ≤ 720) ∧ AllPerm z E ∧ Strict E ∧ Closed z.toNat E
theorem AllPerm.perms {n : Nat} {E : List (List Int)} (h : AllPerm (n : Int) E) : PermsN n E := fun g hg => by
  have h1 := h g hg
  exact ⟨by omega, h1.2.2⟩

/-- Elements that those ahead of them do not generate. -/
noncomputable def grd (n : Nat) (E : List (List Int)) : Nat → List (List Int)
  | 0 => []
  | i + 1 => if pb (Gen n (grd n E i) (gr E i)) then grd n E i else grd n E i ++ [gr E i]
theorem grd_yes {n : Nat} {E : List (List Int)} {i : Nat} (h : Gen n (grd n E i) (gr E i)) : grd n E (i + 1) = grd n E i := by rw [grd, if_pos (pb_true h)]
theorem grd_no {n : Nat} {E : List (List Int)} {i : Nat} (h : ¬ Gen n (grd n E i) (gr E i)) : grd n E (i + 1) = grd n E i ++ [gr E i] := by rw [grd, pb_false h]; rfl
theorem grd_sub {n : Nat} {E : List (List Int)} {i : Nat} (hi : i ≤ E.length) : ∀ g, g ∈ grd n E i → g ∈ E := by
  induction i with
  | zero => intro g hg; cases hg
  | succ i ih =>
    intro g hg
    rw [grd] at hg
    split at hg
    · exact ih (by omega) g hg
    · rcases List.mem_append.1 hg with h | h
      · exact ih (by omega) g h
      · rw [List.mem_singleton.1 h]; exact gr_mem' (by omega)
theorem grd_len (n : Nat) (E : List (List Int)) (i : Nat) : (grd n E i).length ≤ i := by
  induction i with
  | zero => exact Nat.le_refl _
  | succ i ih => rw [grd]; split <;> (try simp) <;> omega
theorem grd_mono {n : Nat} {E : List (List Int)} {i : Nat} : ∀ g, g ∈ grd n E i → g ∈ grd n E (i + 1) := by
  intro g hg
  rw [grd]
  split
  · exact hg
  · exact List.mem_append_left _ hg
theorem grd_gen {n : Nat} {E : List (List Int)} (hp : PermsN n E) {i : Nat} (hi : i ≤ E.length) : ∀ j, j < i → Gen n (grd n E i) (gr E j) := by
  induction i with
  | zero => intro j hj; exact absurd hj (Nat.not_lt_zero _)
  | succ i ih =>
    intro j hj
    by_cases e : j = i
    · subst e
      by_cases h : Gen n (grd n E j) (gr E j)
      · rw [grd_yes h]; exact h
      · rw [grd_no h]
        refine Gen.mem (fun g hg => ?_) (List.mem_append_right _ (List.mem_singleton.2 rfl))
        rcases List.mem_append.1 hg with h1 | h1
        · exact hp g (grd_sub (by omega) g h1)
        · rw [List.mem_singleton.1 h1]; exact hp _ (gr_mem' (by omega))
    · exact (ih (by omega) j (by omega)).mono grd_mono
theorem grd_perms {n : Nat} {E : List (List Int)} (hp : PermsN n E) {i : Nat} (hi : i ≤ E.length) : PermsN n (grd n E i) := fun g hg => hp g (grd_sub hi g hg)

/-- In a closed set nothing is generated beyond it. -/
theorem closed_small {n : Nat} {E G : List (List Int)} (hc : Closed n E) (hG : ∀ g, g ∈ G → g ∈ E) {m : Nat} (hm : E.length ≤ m) : ¬ Big n G m := by
  rintro ⟨L, h1, h2, h3⟩
  have := List.Nodup.length_le_of_subset (l₁ := L) (l₂ := E) h1 (fun x hx => (h2 x hx).sub hc hG)
  omega
theorem gen_closed {n : Nat} {G L : List (List Int)} (hp : PermsN n G) (h : ∀ x, x ∈ L ↔ Gen n G x) : Closed n L :=
  ⟨(h _).2 Gen.one, fun x y hx hy => (h _).2 (((h x).1 hx).cmp hp ((h y).1 hy))⟩
/-- What the elements generate is the set itself, where it is closed. -/
theorem gen_is {n : Nat} {E L : List (List Int)} (hs : Strict E) (hp : PermsN n E) (hL : IsGen n (grd n E E.length) L) (hc : Closed n E) : L = E := by
  have hm : ∀ x, x ∈ L ↔ x ∈ E := fun x => ⟨fun hx => ((hL.2.2 x).1 hx).sub hc (grd_sub (Nat.le_refl _)), fun hx => by
    obtain ⟨j, hj, rfl⟩ := mem_gr hx
    exact (hL.2.2 _).2 (grd_gen hp (Nat.le_refl _) j hj)⟩
  exact sorted_unique ((List.perm_ext_iff_of_nodup hL.2.1 hs.nodup).2 hm) hL.1 hs.sorted
theorem closed_iff {n : Nat} {E L : List (List Int)} (hs : Strict E) (hp : PermsN n E) (hL : IsGen n (grd n E E.length) L) : Closed n E ↔ L.length = E.length := by
  constructor
  · intro hc; rw [gen_is hs hp hL hc]
  · intro hl
    have hsub : ∀ x, x ∈ E → x ∈ L := fun x hx => by
      obtain ⟨j, hj, rfl⟩ := mem_gr hx
      exact (hL.2.2 _).2 (grd_gen hp (Nat.le_refl _) j hj)
    have hback : ∀ x, x ∈ L → x ∈ E := fun x hx => by
      apply Classical.byContradiction
      intro hn
      have := List.Nodup.length_le_of_subset (l₁ := x :: E) (l₂ := L) (List.nodup_cons.2 ⟨hn, hs.nodup⟩) (fun y hy => by
        rcases List.mem_cons.1 hy with rfl | hy
        · exact hx
        · exact hsub y hy)
      rw [List.length_cons] at this
      omega
    have hc := gen_closed (grd_perms hp (Nat.le_refl _)) hL.2.2
    exact ⟨hback _ hc.1, fun x y hx hy => hback _ (hc.2 x y (hsub x hx) (hsub y hy))⟩
theorem closed_eq {n : Nat} {E L : List (List Int)} (hs : Strict E) (hp : PermsN n E) (hL : IsGen n (grd n E E.length) L) : Closed n E ↔ L = E :=
  ⟨fun hc => gen_is hs hp hL hc, fun h => (closed_iff hs hp hL).2 (by rw [h])⟩
end Go.Proofs.Ytjlfngnmmmaefaa
