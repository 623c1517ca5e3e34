/- What permutations generate, in plain words. Conditions: none. -/
import Derived.Test.YtjlfngnmmmaefaaPm
import Derived.Test.YtjlfngnmmmaefaaSrtP
namespace Go.Proofs.Ytjlfngnmmmaefaa

theorem gi_cmp {p q : List Int} {k : Nat} (hk : k < p.length) : gi (cmp p q) k = gi q (gi p k).toNat := by
  have key : ∀ m, k < m → gi (cmpTo p q m) k = gi q (gi p k).toNat := by
    intro m
    induction m with
    | zero => intro h; exact absurd h (Nat.not_lt_zero _)
    | succ m ih =>
      intro h
      rw [cmpTo]
      by_cases e : k = m
      · subst e
        exact gi_of (by rw [List.getElem?_append_right (by rw [cmpTo_length]; exact Nat.le_refl _), cmpTo_length, Nat.sub_self]; rfl)
      · have h2 := ih (by omega)
        rw [← h2]
        exact gi_of (by rw [List.getElem?_append_left (by rw [cmpTo_length]; omega), gi_get (by rw [cmpTo_length]; omega)])
  exact key _ hk
def PermN' (n : Nat) (p : List Int) : Prop := p.length = n ∧ IsPerm p
theorem PermN'.at_ {n : Nat} {p : List Int} (h : PermN' n p) {k : Nat} (hk : k < n) : ∃ y : Nat, gi p k = y ∧ y < n := by
  obtain ⟨y, h1, h2⟩ := h.2.below k (by rw [h.1]; exact hk)
  exact ⟨y, h1, by rw [← h.1]; exact h2⟩
theorem PermN'.below {n : Nat} {p : List Int} (h : PermN' n p) : Below_ p n := by
  have := h.2.below; rwa [h.1] at this
theorem PermN'.one (n : Nat) : PermN' n (upto n) := isPerm_of_perm (List.Perm.refl _)
theorem gi_inj {p : List Int} (h : p.Nodup) {i j : Nat} (hi : i < p.length) (hj : j < p.length) (e : gi p i = gi p j) : i = j := by
  apply Classical.byContradiction
  intro hne
  have hp := List.pairwise_iff_getElem.1 h
  have e1 : gi p i = p[i] := gi_of (List.getElem?_eq_getElem hi)
  have e2 : gi p j = p[j] := gi_of (List.getElem?_eq_getElem hj)
  rcases Nat.lt_or_gt_of_ne hne with hlt | hlt
  · exact hp i j hi hj hlt (by rw [← e1, ← e2, e])
  · exact hp j i hj hi hlt (by rw [← e1, ← e2, e])
theorem PermN'.cmp {n : Nat} {p q : List Int} (hp : PermN' n p) (hq : PermN' n q) : PermN' n (Go.Proofs.Ytjlfngnmmmaefaa.cmp p q) := by
  have hl : (Go.Proofs.Ytjlfngnmmmaefaa.cmp p q).length = n := by rw [cmp_length, hp.1]
  refine ⟨hl, ?_, fun v hv => ?_⟩
  · rw [List.Nodup, List.pairwise_iff_getElem]
    intro i j hi hj hij e
    have hi' : i < p.length := by rw [hl] at hi; rw [hp.1]; exact hi
    have hj' : j < p.length := by rw [hl] at hj; rw [hp.1]; exact hj
    have e1 : gi (Go.Proofs.Ytjlfngnmmmaefaa.cmp p q) i = gi (Go.Proofs.Ytjlfngnmmmaefaa.cmp p q) j := by rw [gi_of (List.getElem?_eq_getElem hi), gi_of (List.getElem?_eq_getElem hj), e]
    rw [gi_cmp hi', gi_cmp hj'] at e1
    obtain ⟨y, h1, h2⟩ := hp.at_ (k := i) (by rw [← hp.1]; exact hi')
    obtain ⟨z, h3, h4⟩ := hp.at_ (k := j) (by rw [← hp.1]; exact hj')
    rw [h1, h3, Int.toNat_natCast, Int.toNat_natCast] at e1
    have e2 := gi_inj hq.2.1 (by rw [hq.1]; exact h2) (by rw [hq.1]; exact h4) e1
    subst e2
    have := gi_inj hp.2.1 hi' hj' (by rw [h1, h3])
    omega
  · obtain ⟨k, hk, rfl⟩ := mem_gi hv
    rw [hl] at hk ⊢
    rw [gi_cmp (by rw [hp.1]; exact hk)]
    obtain ⟨y, h1, h2⟩ := hp.at_ hk
    obtain ⟨z, h3, h4⟩ := hq.at_ h2
    rw [h1, Int.toNat_natCast, h3]
    omega
theorem cmp_one {n : Nat} {p : List Int} (hp : PermN' n p) : cmp p (upto n) = p := by
  refine list_ext_gi (cmp_length _ _) (fun k hk => ?_)
  rw [cmp_length] at hk
  obtain ⟨y, h1, h2⟩ := hp.at_ (k := k) (by rw [← hp.1]; exact hk)
  rw [gi_cmp hk, h1, Int.toNat_natCast, gi_upto h2]
theorem cmp_assoc {n : Nat} {p q r : List Int} (hp : PermN' n p) (hq : PermN' n q) : cmp (cmp p q) r = cmp p (cmp q r) := by
  refine list_ext_gi (by rw [cmp_length, cmp_length, cmp_length]) (fun k hk => ?_)
  rw [cmp_length, cmp_length] at hk
  obtain ⟨y, h1, h2⟩ := hp.at_ (k := k) (by rw [← hp.1]; exact hk)
  rw [gi_cmp (by rw [cmp_length]; exact hk), gi_cmp hk, gi_cmp hk, h1, Int.toNat_natCast, gi_cmp (by rw [hq.1]; exact h2)]

/-- What some permutations generate. -/
inductive Gen (n : Nat) (gs : List (List Int)) : List Int → Prop
  | one : Gen n gs (upto n)
  | step {p g : List Int} : Gen n gs p → g ∈ gs → Gen n gs (cmp p g)
def PermsN (n : Nat) (gs : List (List Int)) : Prop := ∀ g, g ∈ gs → PermN' n g
theorem Gen.perm {n : Nat} {gs : List (List Int)} (h : PermsN n gs) {p : List Int} (hp : Gen n gs p) : PermN' n p := by
  induction hp with
  | one => exact PermN'.one n
  | step _ hg ih => exact ih.cmp (h _ hg)
theorem Gen.cmp {n : Nat} {gs : List (List Int)} (h : PermsN n gs) {p q : List Int} (hp : Gen n gs p) (hq : Gen n gs q) : Gen n gs (Go.Proofs.Ytjlfngnmmmaefaa.cmp p q) := by
  induction hq with
  | one => rw [cmp_one (hp.perm h)]; exact hp
  | step hq hg ih => rw [← cmp_assoc (hp.perm h) (hq.perm h)]; exact Gen.step ih hg
theorem cmp_one_left {n : Nat} {g : List Int} (hg : g.length = n) : Go.Proofs.Ytjlfngnmmmaefaa.cmp (upto n) g = g := by
  refine list_ext_gi (by rw [cmp_length, upto_length, hg]) (fun k hk => ?_)
  rw [cmp_length, upto_length] at hk
  rw [gi_cmp (by rw [upto_length]; exact hk), gi_upto hk, Int.toNat_natCast]
theorem Gen.mem {n : Nat} {gs : List (List Int)} (h : PermsN n gs) {g : List Int} (hg : g ∈ gs) : Gen n gs g := by
  have := Gen.step (Gen.one (n := n) (gs := gs)) hg
  rwa [cmp_one_left (h g hg).1] at this
theorem Gen.mono {n : Nat} {gs gs' : List (List Int)} (h : ∀ g, g ∈ gs → g ∈ gs') {p : List Int} (hp : Gen n gs p) : Gen n gs' p := by
  induction hp with
  | one => exact Gen.one
  | step _ hg ih => exact Gen.step ih (h _ hg)

/-- Closed under composition. -/
def Closed (n : Nat) (E : List (List Int)) : Prop := upto n ∈ E ∧ ∀ x y, x ∈ E → y ∈ E → Go.Proofs.Ytjlfngnmmmaefaa.cmp x y ∈ E
theorem Gen.sub {n : Nat} {gs E : List (List Int)} (hE : Closed n E) (h : ∀ g, g ∈ gs → g ∈ E) {p : List Int} (hp : Gen n gs p) : p ∈ E := by
  induction hp with
  | one => exact hE.1
  | step _ hg ih => exact hE.2 _ _ ih (h _ hg)

/-- More than m permutations are generated. -/
def Big (n : Nat) (gs : List (List Int)) (m : Nat) : Prop := ∃ L : List (List Int), L.Nodup ∧ (∀ x, x ∈ L → Gen n gs x) ∧ m < L.length

/-- A search as far as the products of place i with generators ahead of k. -/
structure Bfs (n : Nat) (gs Q : List (List Int)) (i k : Nat) : Prop where
  one : upto n ∈ Q
  nodup : Q.Nodup
  gen : ∀ x, x ∈ Q → Gen n gs x
  done : ∀ j, j < i → ∀ g, g ∈ gs → cmp (gr Q j) g ∈ Q
  now : ∀ j, j < k → cmp (gr Q i) (gr gs j) ∈ Q

theorem Bfs.start (n : Nat) (gs : List (List Int)) : Bfs n gs [upto n] 0 0 :=
  ⟨List.mem_singleton.2 rfl, (List.pairwise_singleton _ _), fun x hx => by rw [List.mem_singleton.1 hx]; exact Gen.one, fun j h => absurd h (Nat.not_lt_zero _), fun j h => absurd h (Nat.not_lt_zero _)⟩
theorem Bfs.seen {n : Nat} {gs Q : List (List Int)} {i k : Nat} (h : Bfs n gs Q i k) (hs : cmp (gr Q i) (gr gs k) ∈ Q) : Bfs n gs Q i (k + 1) :=
  ⟨h.one, h.nodup, h.gen, h.done, fun j hj => by
    by_cases e : j = k
    · subst e; exact hs
    · exact h.now j (by omega)⟩
theorem gr_app {Q : List (List Int)} {p : List Int} {i : Nat} (hi : i < Q.length) : gr (Q ++ [p]) i = gr Q i := gr_of (by rw [List.getElem?_append_left hi, gr_get hi])
theorem gr_mem' {Q : List (List Int)} {i : Nat} (hi : i < Q.length) : gr Q i ∈ Q := List.mem_of_getElem? (gr_get hi)
theorem Bfs.new {n : Nat} {gs Q : List (List Int)} {i k : Nat} (h : Bfs n gs Q i k) (hi : i < Q.length) (hk : k < gs.length) (hs : ¬ cmp (gr Q i) (gr gs k) ∈ Q) : Bfs n gs (Q ++ [cmp (gr Q i) (gr gs k)]) i (k + 1) := by
  refine ⟨List.mem_append_left _ h.one, ?_, fun x hx => ?_, fun j hj g hg => ?_, fun j hj => ?_⟩
  · rw [List.nodup_append]
    exact ⟨h.nodup, (List.pairwise_singleton _ _), fun x hx y hy e => hs (by rw [← List.mem_singleton.1 hy, ← e]; exact hx)⟩
  · rcases List.mem_append.1 hx with hx | hx
    · exact h.gen x hx
    · rw [List.mem_singleton.1 hx]
      exact Gen.step (h.gen _ (gr_mem' hi)) (gr_mem' hk)
  · rw [gr_app (by omega)]
    exact List.mem_append_left _ (h.done j hj g hg)
  · rw [gr_app hi]
    by_cases e : j = k
    · subst e; exact List.mem_append_right _ (List.mem_singleton.2 rfl)
    · exact List.mem_append_left _ (h.now j (by omega))
theorem Bfs.next {n : Nat} {gs Q : List (List Int)} {i : Nat} (h : Bfs n gs Q i gs.length) : Bfs n gs Q (i + 1) 0 :=
  ⟨h.one, h.nodup, h.gen, fun j hj g hg => by
    by_cases e : j = i
    · subst e
      obtain ⟨k, hk⟩ := List.mem_iff_getElem?.1 hg
      have := h.now k (List.getElem?_eq_some_iff.1 hk).1
      rwa [gr_of hk] at this
    · exact h.done j (by omega) g hg, fun j hj => absurd hj (Nat.not_lt_zero _)⟩
theorem Bfs.all {n : Nat} {gs Q : List (List Int)} {k : Nat} (h : Bfs n gs Q Q.length k) (x : List Int) : x ∈ Q ↔ Gen n gs x := by
  refine ⟨h.gen x, fun hx => ?_⟩
  induction hx with
  | one => exact h.one
  | step _ hg ih =>
    obtain ⟨j, hj⟩ := List.mem_iff_getElem?.1 ih
    have := h.done j (List.getElem?_eq_some_iff.1 hj).1 _ hg
    rwa [gr_of hj] at this
theorem not_big {n : Nat} {gs Q : List (List Int)} {m : Nat} (h : ∀ x, x ∈ Q ↔ Gen n gs x) (hl : Q.length ≤ m) : ¬ Big n gs m := by
  rintro ⟨L, h1, h2, h3⟩
  have := List.Nodup.length_le_of_subset (l₁ := L) (l₂ := Q) h1 (fun x hx => (h x).2 (h2 x hx))
  omega

/-- The sorted list of all that is generated. -/
def IsGen (n : Nat) (gs L : List (List Int)) : Prop := SortedLL L ∧ L.Nodup ∧ ∀ x, x ∈ L ↔ Gen n gs x
theorem IsGen.unique {n : Nat} {gs L L' : List (List Int)} (h : IsGen n gs L) (h' : IsGen n gs L') : L = L' :=
  sorted_unique ((List.perm_ext_iff_of_nodup h.2.1 h'.2.1).2 fun x => (h.2.2 x).trans (h'.2.2 x).symm) h.1 h'.1
theorem IsGen.of {n : Nat} {gs Q : List (List Int)} (h1 : Q.Nodup) (h2 : ∀ x, x ∈ Q ↔ Gen n gs x) : IsGen n gs (srtL Q) :=
  ⟨srtL_sorted Q, ((srtL_perm Q).nodup_iff).2 h1, fun x => ((srtL_perm Q).mem_iff).trans (h2 x)⟩
end Go.Proofs.Ytjlfngnmmmaefaa
