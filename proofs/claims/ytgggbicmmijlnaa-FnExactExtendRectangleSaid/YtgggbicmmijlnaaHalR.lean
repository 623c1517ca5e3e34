/- Every Latin rectangle has a further row. Conditions: none. -/
import Derived.Test.YtgggbicmmijlnaaHal
import Derived.Test.YtgggbicmmijlnaaCandP
namespace Go.Proofs.Ytgggbicmmijlnaa

/-- The first x rows are full and Latin, the others are empty. -/
structure RecOk (M : List (List Int)) (n x : Nat) : Prop where
  rect : Rect M n n
  le : x ≤ n
  row : ∀ i, i < x → IsPerm (gr M i)
  col : ∀ i i' j, i < i' → i' < x → j < n → at2 M i j ≠ at2 M i' j
  free : ∀ i j, x ≤ i → i < n → j < n → at2 M i j = -1
/-- The candidates of an empty row. -/
noncomputable def cls (M : List (List Int)) (n x : Nat) : List (List Int) := (List.range n).map fun y => cands M x y
theorem cls_len (M : List (List Int)) (n x : Nat) : (cls M n x).length = n := by simp [cls]
theorem gr_cls {M : List (List Int)} {n x y : Nat} (hy : y < n) : gr (cls M n x) y = cands M x y := gr_of (by simp [cls, hy])

theorem candsTo_of {p : List (List Int)} {n x y m s : Nat} (hs : s < m) (h : IsCand p n x y s) : (s : Int) ∈ candsTo p n x y m := by
  induction m with
  | zero => omega
  | succ m ih =>
    by_cases e : s = m
    · subst e; rw [candsTo_yes h]; simp
    · have := ih (by omega)
      by_cases hc : IsCand p n x y m
      · rw [candsTo_yes hc]; exact List.mem_append_left _ this
      · rw [candsTo_no hc]; exact this
theorem candsTo_nodup (p : List (List Int)) (n x y m : Nat) : (candsTo p n x y m).Nodup := by
  induction m with
  | zero => simp [candsTo]
  | succ m ih =>
    by_cases hc : IsCand p n x y m
    · rw [candsTo_yes hc, List.nodup_append]
      refine ⟨ih, by simp, fun a ha b hb e => ?_⟩
      rw [List.mem_singleton] at hb
      obtain ⟨s, h1, h2, _⟩ := candsTo_mem ha
      subst e; omega
    · rw [candsTo_no hc]; exact ih
theorem cls_bel {M : List (List Int)} {n x : Nat} (h : M.length = n) : Bel (cls M n x) n := fun j v hv => by
  by_cases hj : j < n
  · rw [gr_cls hj, cands, h] at hv
    obtain ⟨s, h1, h2, _⟩ := candsTo_mem hv
    exact ⟨s, h1, h2⟩
  · rw [show gr (cls M n x) j = [] by rw [gr, List.getD_eq_getElem?_getD, List.getElem?_eq_none (by rw [cls_len]; omega)]; rfl] at hv
    cases hv

section
variable {M : List (List Int)} {n x : Nat}
theorem cand_rec (h : RecOk M n x) (hx : x < n) {y : Nat} (hy : y < n) {s : Nat} : IsCand M n x y (s : Int) ↔ ∀ i, i < x → at2 M i y ≠ (s : Int) := by
  refine ⟨fun hc i hi => (hc i (by omega)).2, fun hc k hk => ⟨?_, ?_⟩⟩
  · rw [h.free x k (Nat.le_refl _) hx hk]; omega
  · by_cases hkx : k < x
    · exact hc k hkx
    · rw [h.free k y (by omega) hk hy]; omega
theorem cls_mem (h : RecOk M n x) (hx : x < n) {y s : Nat} (hy : y < n) (hs : s < n) : (s : Int) ∈ gr (cls M n x) y ↔ ∀ i, i < x → at2 M i y ≠ (s : Int) := by
  rw [gr_cls hy, cands, h.rect.1, ← cand_rec h hx hy]
  refine ⟨fun hm => ?_, fun hc => candsTo_of hs hc⟩
  obtain ⟨s', h1, _, h3⟩ := candsTo_mem hm
  obtain rfl : s = s' := by omega
  exact h3

/-- A column lacks n - x symbols at least. -/
theorem cls_many (h : RecOk M n x) (hx : x < n) {y : Nat} (hy : y < n) : n - x ≤ (gr (cls M n x) y).length := by
  have h1 := List.Nodup.length_le_of_subset (l₁ := upto n) (l₂ := gr (cls M n x) y ++ (List.range x).map (fun i => at2 M i y)) (upto_nodup n) (fun v hv => by
    rw [mem_upto] at hv
    obtain ⟨s, rfl⟩ := Int.eq_ofNat_of_zero_le hv.1
    by_cases hm : (s : Int) ∈ gr (cls M n x) y
    · exact List.mem_append_left _ hm
    · rw [cls_mem h hx hy (by omega)] at hm
      have : ∃ i, i < x ∧ at2 M i y = (s : Int) := Classical.byContradiction fun hn => hm (fun i hi he => hn ⟨i, hi, he⟩)
      obtain ⟨i, hi, he⟩ := this
      exact List.mem_append_right _ (List.mem_map.2 ⟨i, List.mem_range.2 hi, he⟩))
  rw [upto_length, List.length_append, List.length_map, List.length_range] at h1
  omega

/-- The column of a symbol in a full row. -/
theorem col_of (h : RecOk M n x) {i s : Nat} (hi : i < x) (hs : s < n) : ∃ y, y < n ∧ at2 M i y = (s : Int) := by
  have hl : (gr M i).length = n := h.rect.2 i (by have := h.le; omega)
  obtain ⟨y, hy, e⟩ := mem_gi ((h.row i hi).mem (v := (s : Int)) (by omega) (by omega))
  exact ⟨y, by omega, e⟩
open Classical in
noncomputable def colOf (M : List (List Int)) (n x i s : Nat) : Nat := if hh : RecOk M n x ∧ i < x ∧ s < n then Classical.choose (col_of hh.1 hh.2.1 hh.2.2) else 0
theorem colOf_spec (h : RecOk M n x) {i s : Nat} (hi : i < x) (hs : s < n) : colOf M n x i s < n ∧ at2 M i (colOf M n x i s) = (s : Int) := by
  rw [colOf, dif_pos ⟨h, hi, hs⟩]
  exact Classical.choose_spec (col_of h hi hs)

/-- A symbol is lacked by n - x columns at most. -/
theorem cls_few (h : RecOk M n x) (hx : x < n) {s : Nat} (hs : s < n) {A : List Nat} (hA : A.Nodup) (hAn : ∀ j, j ∈ A → j < n) : A.countP (fun j => decide ((s : Int) ∈ gr (cls M n x) j)) ≤ n - x := by
  rw [List.countP_eq_length_filter]
  have hnd : ((List.range x).map (fun i => colOf M n x i s)).Nodup := nodup_map_on List.nodup_range (fun i i' hi hi' e => by
    rw [List.mem_range] at hi hi'
    have c1 := colOf_spec h hi hs
    have c2 := colOf_spec h hi' hs
    rcases Nat.lt_trichotomy i i' with hlt | rfl | hlt
    · exact absurd (by rw [c1.2, e, c2.2]) (h.col i i' _ hlt hi' c1.1)
    · rfl
    · exact absurd (by rw [c2.2, ← e, c1.2]) (h.col i' i _ hlt hi c2.1))
  have h1 := List.Nodup.length_le_of_subset (l₁ := A.filter (fun j => decide ((s : Int) ∈ gr (cls M n x) j)) ++ (List.range x).map (fun i => colOf M n x i s)) (l₂ := List.range n) (by
    rw [List.nodup_append]
    refine ⟨List.Pairwise.filter _ hA, hnd, fun a ha b hb e => ?_⟩
    subst e
    obtain ⟨i, hi, rfl⟩ := List.mem_map.1 hb
    rw [List.mem_range] at hi
    have c := colOf_spec h hi hs
    rw [List.mem_filter, decide_eq_true_eq, cls_mem h hx c.1 hs] at ha
    exact ha.2 i hi c.2) (fun j hj => by
    rw [List.mem_range]
    rcases List.mem_append.1 hj with hj | hj
    · exact hAn j (List.mem_filter.1 hj).1
    · obtain ⟨i, hi, rfl⟩ := List.mem_map.1 hj
      exact (colOf_spec h (List.mem_range.1 hi) hs).1)
  rw [List.length_append, List.length_map, List.length_range, List.length_range] at h1
  omega
end

/-! ### counting in two ways -/
def cnt2 (R : Nat → Nat → Bool) (A T : List Nat) : Nat := (A.map fun a => T.countP (R a)).sum
theorem cnt2_nil (R : Nat → Nat → Bool) (A : List Nat) : cnt2 R A [] = 0 := by
  induction A with
  | nil => rfl
  | cons a A ih =>
    show List.countP (R a) [] + cnt2 R A [] = 0
    rw [ih]; rfl
theorem cnt2_cons (R : Nat → Nat → Bool) (A T : List Nat) (t : Nat) : cnt2 R A (t :: T) = cnt2 R A T + A.countP (fun a => R a t) := by
  induction A with
  | nil => rfl
  | cons a A ih =>
    have e : cnt2 R (a :: A) (t :: T) = (t :: T).countP (R a) + cnt2 R A (t :: T) := by simp [cnt2]
    have e2 : cnt2 R (a :: A) T = T.countP (R a) + cnt2 R A T := by simp [cnt2]
    rw [e, e2, ih, List.countP_cons, List.countP_cons]
    omega
theorem cnt2_le {R : Nat → Nat → Bool} {A T : List Nat} {d : Nat} (h : ∀ t, t ∈ T → A.countP (fun a => R a t) ≤ d) : cnt2 R A T ≤ T.length * d := by
  induction T with
  | nil => rw [cnt2_nil]; omega
  | cons t T ih =>
    have h1 := ih (fun t ht => h t (List.mem_cons_of_mem _ ht))
    have h2 := h t (List.mem_cons_self ..)
    rw [cnt2_cons, List.length_cons, Nat.succ_mul]
    omega
theorem cnt2_ge {R : Nat → Nat → Bool} {A T : List Nat} {d : Nat} (h : ∀ a, a ∈ A → d ≤ T.countP (R a)) : A.length * d ≤ cnt2 R A T := by
  induction A with
  | nil => simp
  | cons a A ih =>
    have h1 := ih (fun t ht => h t (List.mem_cons_of_mem _ ht))
    have h2 := h a (List.mem_cons_self ..)
    have e : cnt2 R (a :: A) T = T.countP (R a) + cnt2 R A T := by simp [cnt2]
    rw [e, List.length_cons, Nat.succ_mul]
    omega

theorem rec_sdr {M : List (List Int)} {n x : Nat} (h : RecOk M n x) (hx : x < n) : Sdr (cls M n x) n 0 (List.replicate n false) := by
  refine sdr_of (cls_bel h.rect.1) (Nat.zero_le _) (fun ⟨A, T, hA, hT, hl, hAn, hTn, hN⟩ => ?_)
  have hB := cls_bel (x := x) h.rect.1
  have h1 := cnt2_ge (R := fun j s => decide ((s : Int) ∈ gr (cls M n x) j)) (A := A) (T := T) (d := n - x) (fun j hj => by
    have hjn := (hAn j hj).2
    refine Nat.le_trans (cls_many h hx hjn) ?_
    rw [List.countP_eq_length_filter]
    have h2 := List.Nodup.length_le_of_subset (l₁ := gr (cls M n x) j) (l₂ := (T.filter (fun s : Nat => decide ((s : Int) ∈ gr (cls M n x) j))).map (fun s : Nat => (s : Int))) (by rw [gr_cls hjn]; exact candsTo_nodup _ _ _ _ _) (fun v hv => by
      obtain ⟨s, rfl, hs⟩ := hB j v hv
      refine List.mem_map.2 ⟨s, List.mem_filter.2 ⟨?_, by simpa using hv⟩, rfl⟩
      rcases hN j hj s hs hv with e | e
      · rw [sn_rep hs] at e; cases e
      · exact e)
    rw [List.length_map] at h2
    exact h2)
  have h2 := cnt2_le (R := fun j s => decide ((s : Int) ∈ gr (cls M n x) j)) (A := A) (T := T) (d := n - x) (fun s hs => cls_few h hx (hTn s hs) hA (fun j hj => (hAn j hj).2))
  have h3 := Nat.le_trans h1 h2
  rw [hl, Nat.succ_mul] at h3
  omega

theorem gr_set_self {M : List (List Int)} {x : Nat} {r : List Int} (h : x < M.length) : gr (M.set x r) x = r := gr_of (by rw [List.getElem?_set_self h])
theorem gr_set_ne {M : List (List Int)} {x i : Nat} {r : List Int} (h : x ≠ i) : gr (M.set x r) i = gr M i := by
  rw [gr, gr, List.getD_eq_getElem?_getD, List.getD_eq_getElem?_getD, List.getElem?_set_ne h]
/-- One more row. -/
theorem RecOk.next {M : List (List Int)} {n x : Nat} (h : RecOk M n x) (hx : x < n) : RecOk (M.set x (lrow (cls M n x) n n)) n (x + 1) := by
  have hS := rec_sdr h hx
  have hB := cls_bel (x := x) h.rect.1
  have hl := lrow_len (cls M n x) n n
  have hM : x < M.length := by rw [h.rect.1]; exact hx
  have hval : ∀ k, k < n → ∃ s : Nat, gi (lrow (cls M n x) n n) k = (s : Int) ∧ s < n ∧ ∀ i, i < x → at2 M i k ≠ (s : Int) := fun k hk => by
    have hm := (lrow_mem hS hk).1
    obtain ⟨s, h1, h2⟩ := hB k _ hm
    rw [h1] at hm
    exact ⟨s, h1, h2, (cls_mem h hx hk h2).1 hm⟩
  refine ⟨⟨by rw [List.length_set]; exact h.rect.1, fun i hi => ?_⟩, by omega, fun i hi => ?_, fun i i' j hii hi' hj => ?_, fun i j hi hin hj => ?_⟩
  · by_cases e : x = i
    · subst e; rw [gr_set_self hM]; exact hl
    · rw [gr_set_ne e]; exact h.rect.2 i hi
  · by_cases e : x = i
    · subst e
      rw [gr_set_self hM]
      refine ⟨?_, fun v hv => ?_⟩
      · rw [List.Nodup, List.pairwise_iff_getElem]
        intro a b ha hb hab
        have := lrow_ne hB hS hab (by rw [hl] at hb; exact hb)
        rwa [gi_of (List.getElem?_eq_getElem ha), gi_of (List.getElem?_eq_getElem hb)] at this
      · obtain ⟨k, hk, rfl⟩ := mem_gi hv
        obtain ⟨s, h1, h2, _⟩ := hval k (by omega)
        rw [hl]; omega
    · rw [gr_set_ne e]; exact h.row i (by omega)
  · by_cases e : i' = x
    · subst e
      obtain ⟨s, h1, h2, h3⟩ := hval j hj
      rw [at2, at2, gr_set_self hM, gr_set_ne (by omega), h1]
      exact h3 i hii
    · rw [at2, at2, gr_set_ne (by omega), gr_set_ne (by omega)]
      exact h.col i i' j hii (by omega) hj
  · rw [at2, gr_set_ne (by omega)]
    exact h.free i j (by omega) hin hj

/-- All rows from x on. -/
noncomputable def ext_ (M : List (List Int)) (n x : Nat) : Nat → List (List Int)
  | 0 => M
  | m + 1 => (ext_ M n x m).set (x + m) (lrow (cls (ext_ M n x m) n (x + m)) n n)
theorem ext_ok {M : List (List Int)} {n x : Nat} (h : RecOk M n x) (m : Nat) (hm : x + m ≤ n) : RecOk (ext_ M n x m) n (x + m) := by
  induction m with
  | zero => exact h
  | succ m ih => exact (ih (by omega)).next (by omega)
end Go.Proofs.Ytgggbicmmijlnaa
