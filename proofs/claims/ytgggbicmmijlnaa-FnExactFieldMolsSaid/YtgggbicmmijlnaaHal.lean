/- Different symbols for lists, found by augmenting, in plain words. Conditions: none. -/
import Derived.Test.YtgggbicmmijlnaaCycP
namespace Go.Proofs.Ytgggbicmmijlnaa

/-- All numbers of all lists are below n. -/
def Bel (L : List (List Int)) (n : Nat) : Prop := ∀ (j : Nat) (v : Int), v ∈ gr L j → ∃ s : Nat, v = s ∧ s < n

/-- How a search for a symbol of list k ends. -/
inductive Aug (L : List (List Int)) (u : List Bool) : Nat → List Int → List Int → List Bool → Bool → List Int → List Bool → Prop
  | nil (k : Nat) (o : List Int) (t : List Bool) : Aug L u k [] o t false o t
  | skip {k s : Nat} {r o : List Int} {t : List Bool} {b : Bool} {o' : List Int} {t' : List Bool} (h : sn u s = true ∨ sn t s = true) (hr : Aug L u k r o t b o' t') : Aug L u k ((s : Int) :: r) o t b o' t'
  | free {k s : Nat} {r o : List Int} {t : List Bool} (h1 : sn u s = false) (h2 : sn t s = false) (h3 : gi o s < 0) : Aug L u k ((s : Int) :: r) o t true (o.set s k) (t.set s true)
  | move {k s j : Nat} {r o : List Int} {t : List Bool} {o' : List Int} {t' : List Bool} (h1 : sn u s = false) (h2 : sn t s = false) (h3 : gi o s = (j : Int)) (hr : Aug L u j (gr L j) o (t.set s true) true o' t') : Aug L u k ((s : Int) :: r) o t true (o'.set s k) t'
  | back {k s j : Nat} {r o : List Int} {t : List Bool} {o1 : List Int} {t1 : List Bool} {b : Bool} {o' : List Int} {t' : List Bool} (h1 : sn u s = false) (h2 : sn t s = false) (h3 : gi o s = (j : Int)) (hj : Aug L u j (gr L j) o (t.set s true) false o1 t1) (hr : Aug L u k r o1 t1 b o' t') : Aug L u k ((s : Int) :: r) o t b o' t'

theorem sn_set_self {t : List Bool} {s : Nat} {b : Bool} (h : s < t.length) : sn (t.set s b) s = b := sn_of (by rw [List.getElem?_set_self h])
theorem sn_set_ne {t : List Bool} {s i : Nat} {b : Bool} (h : s ≠ i) : sn (t.set s b) i = sn t i := by
  rw [sn, sn, List.getD_eq_getElem?_getD, List.getD_eq_getElem?_getD, List.getElem?_set_ne h]
theorem sn_set_mono {t : List Bool} {s i : Nat} (h : sn t i = true) : sn (t.set s true) i = true := by
  by_cases e : s = i
  · subst e
    by_cases hl : s < t.length
    · exact sn_set_self hl
    · rw [List.set_eq_of_length_le (by omega)]; exact h
  · rw [sn_set_ne e]; exact h
theorem gi_set_self {o : List Int} {s : Nat} {v : Int} (h : s < o.length) : gi (o.set s v) s = v := gi_of (by rw [List.getElem?_set_self h])
theorem gi_set_ne {o : List Int} {s i : Nat} {v : Int} (h : s ≠ i) : gi (o.set s v) i = gi o i := by
  rw [gi, gi, List.getD_eq_getElem?_getD, List.getD_eq_getElem?_getD, List.getElem?_set_ne h]
theorem uns_set_le {t : List Bool} {s : Nat} : uns (t.set s true) ≤ uns t := by
  by_cases hl : s < t.length
  · by_cases h : sn t s = true
    · have e : t.set s true = t := by
        apply List.ext_getElem?
        intro i
        rw [List.getElem?_set]
        split
        · rename_i e
          subst e
          rw [List.getElem?_eq_getElem hl]
          rw [sn_of (List.getElem?_eq_getElem hl)] at h
          rw [h]
        · rfl
      rw [e]; exact Nat.le_refl _
    · have := uns_set hl (by simpa using h); omega
  · rw [List.set_eq_of_length_le (by omega)]; exact Nat.le_refl _

section
variable {L : List (List Int)} {u : List Bool}

theorem Aug.len {k : Nat} {r o : List Int} {t : List Bool} {b : Bool} {o' : List Int} {t' : List Bool} (h : Aug L u k r o t b o' t') :
    o'.length = o.length ∧ t'.length = t.length ∧ uns t' ≤ uns t ∧ ∀ i, sn t i = true → sn t' i = true := by
  induction h with
  | nil => exact ⟨rfl, rfl, Nat.le_refl _, fun _ h => h⟩
  | skip _ _ ih => exact ih
  | free h1 h2 h3 => exact ⟨by simp, by simp, uns_set_le, fun _ h => sn_set_mono h⟩
  | move h1 h2 h3 hr ih => exact ⟨by rw [List.length_set]; exact ih.1, by rw [ih.2.1]; simp, Nat.le_trans ih.2.2.1 uns_set_le, fun i h => ih.2.2.2 i (sn_set_mono h)⟩
  | back h1 h2 h3 hj hr ih1 ih2 => exact ⟨by rw [ih2.1]; exact ih1.1, by rw [ih2.2.1, ih1.2.1]; simp, Nat.le_trans ih2.2.2.1 (Nat.le_trans ih1.2.2.1 uns_set_le), fun i h => ih2.2.2.2 i (ih1.2.2.2 i (sn_set_mono h))⟩

/-- Every search ends. -/
theorem aug_ends {n : Nat} (hB : Bel L n) (m : Nat) : ∀ (t : List Bool), t.length = n → uns t ≤ m → ∀ (r : List Int), (∀ v, v ∈ r → ∃ s : Nat, v = s ∧ s < n) → ∀ (k : Nat) (o : List Int), ∃ b o' t', Aug L u k r o t b o' t' := by
  induction m with
  | zero =>
    intro t ht hu r
    induction r with
    | nil => exact fun _ k o => ⟨_, _, _, .nil k o t⟩
    | cons v r ih =>
      intro hr k o
      obtain ⟨s, rfl, hs⟩ := hr v (List.mem_cons_self ..)
      obtain ⟨b, o', t', h⟩ := ih (fun v hv => hr v (List.mem_cons_of_mem _ hv)) k o
      have hts : sn t s = true := by
        apply Classical.byContradiction
        intro hn
        have := uns_set (s := t) (y := s) (by omega) (by simpa using hn)
        omega
      exact ⟨b, o', t', .skip (.inr hts) h⟩
  | succ m ihm =>
    intro t ht hu r
    induction r generalizing t with
    | nil => exact fun _ k o => ⟨_, _, _, .nil k o t⟩
    | cons v r ih =>
      intro hr k o
      obtain ⟨s, rfl, hs⟩ := hr v (List.mem_cons_self ..)
      have hr' : ∀ v, v ∈ r → ∃ s : Nat, v = s ∧ s < n := fun v hv => hr v (List.mem_cons_of_mem _ hv)
      by_cases hsk : sn u s = true ∨ sn t s = true
      · obtain ⟨b, o', t', h⟩ := ih t ht hu hr' k o
        exact ⟨b, o', t', .skip hsk h⟩
      · have h1 : sn u s = false := by simpa using fun h => hsk (.inl h)
        have h2 : sn t s = false := by simpa using fun h => hsk (.inr h)
        by_cases h3 : gi o s < 0
        · exact ⟨_, _, _, .free h1 h2 h3⟩
        · obtain ⟨j, hj⟩ := Int.eq_ofNat_of_zero_le (show 0 ≤ gi o s by omega)
          have hu2 := uns_set (s := t) (y := s) (by omega) h2
          obtain ⟨b, o1, t1, h⟩ := ihm (t.set s true) (by simpa using ht) (by omega) (gr L j) (hB j) j o
          cases b with
          | true => exact ⟨_, _, _, .move h1 h2 hj h⟩
          | false =>
            have hl := h.len
            obtain ⟨b, o', t', h'⟩ := ih t1 (by rw [hl.2.1]; simpa using ht) (by have := hl.2.2.1; omega) hr' k o1
            exact ⟨b, o', t', .back h1 h2 hj h h'⟩

/-- The lists that have symbols that are not tried yet. -/
def Img (n : Nat) (t : List Bool) (o : List Int) (j : Nat) : Prop := ∃ s, s < n ∧ sn t s = false ∧ gi o s = (j : Int)
def Inj (n : Nat) (t : List Bool) (o : List Int) : Prop := ∀ s s' : Nat, s < n → s' < n → sn t s = false → sn t s' = false → 0 ≤ gi o s → gi o s = gi o s' → s = s'
def Vld (L : List (List Int)) (u : List Bool) (n : Nat) (t : List Bool) (o : List Int) : Prop := ∀ s, s < n → sn t s = false → gi o s = -1 ∨ ∃ j : Nat, gi o s = (j : Int) ∧ j < n ∧ (s : Int) ∈ gr L j ∧ sn u s = false
/-- All symbols of a list are used or tried. -/
def Shut (L : List (List Int)) (u : List Bool) (n : Nat) (t : List Bool) (r : List Int) : Prop := ∀ s : Nat, s < n → (s : Int) ∈ r → sn u s = true ∨ sn t s = true

theorem Img.sub {n : Nat} {t t1 : List Bool} {o : List Int} {j : Nat} (hs : ∀ i, sn t i = true → sn t1 i = true) (h : Img n t1 o j) : Img n t o j := by
  obtain ⟨s, h1, h2, h3⟩ := h
  refine ⟨s, h1, ?_, h3⟩
  cases e : sn t s with
  | false => rfl
  | true => rw [hs s e] at h2; cases h2
theorem low_of {t t1 : List Bool} {s : Nat} (hs : ∀ i, sn t i = true → sn t1 i = true) (h : sn t1 s = false) : sn t s = false := by
  cases e : sn t s with
  | false => rfl
  | true => rw [hs s e] at h; cases h
theorem Inj.sub {n : Nat} {t t1 : List Bool} {o : List Int} (hs : ∀ i, sn t i = true → sn t1 i = true) (h : Inj n t o) : Inj n t1 o :=
  fun s s' h1 h2 h3 h4 => h s s' h1 h2 (low_of hs h3) (low_of hs h4)
theorem Vld.sub {n : Nat} {t t1 : List Bool} {o : List Int} (hs : ∀ i, sn t i = true → sn t1 i = true) (h : Vld L u n t o) : Vld L u n t1 o := fun s h1 h2 => h s h1 (low_of hs h2)

/-- What a search that finds leaves. -/
structure Won (L : List (List Int)) (u : List Bool) (n : Nat) (t : List Bool) (k : Nat) (o o' : List Int) : Prop where
  keep : ∀ s, s < n → sn t s = true → gi o' s = gi o s
  vld : Vld L u n t o'
  inj : Inj n t o'
  img : ∀ j, Img n t o' j ↔ Img n t o j ∨ j = k
/-- What a search that fails leaves. -/
structure Lost (L : List (List Int)) (u : List Bool) (n : Nat) (t t' : List Bool) (r o o' : List Int) : Prop where
  same : o' = o
  shut : Shut L u n t' r
  more : ∀ s, s < n → sn t' s = true → sn t s = false → ∃ j : Nat, gi o s = (j : Int) ∧ j < n ∧ Shut L u n t' (gr L j)

theorem Won.widen {n k : Nat} {t t1 : List Bool} {o o' : List Int} (hs : ∀ i, sn t i = true → sn t1 i = true) (hV : Vld L u n t o) (hI : Inj n t o) (hk : ¬ Img n t o k) (h : Won L u n t1 k o o') : Won L u n t k o o' := by
  refine ⟨fun s h1 h2 => h.keep s h1 (hs s h2), fun s h1 h2 => ?_, fun s s' h1 h1' h2 h2' h0 he => ?_, fun j => ⟨fun ⟨s, h1, h2, h3⟩ => ?_, fun hj => ?_⟩⟩
  · cases e : sn t1 s with
    | false => exact h.vld s h1 e
    | true => rw [h.keep s h1 e]; exact hV s h1 h2
  · have mixed : ∀ s s' : Nat, s < n → s' < n → sn t s = false → sn t s' = false → 0 ≤ gi o' s → gi o' s = gi o' s' → sn t1 s = true → sn t1 s' = false → False := fun s s' h1 h1' h2 h2' h0 he e e' => by
      have hk1 := h.keep s h1 e
      obtain ⟨j, hj⟩ := Int.eq_ofNat_of_zero_le h0
      rcases (h.img j).1 ⟨s', h1', e', by rw [← he, hj]⟩ with hi | rfl
      · obtain ⟨s2, g1, g2, g3⟩ := hi
        have := hI s s2 h1 g1 h2 (low_of hs g2) (by rw [← hk1]; exact h0) (by rw [← hk1, hj, g3])
        subst this
        rw [e] at g2; cases g2
      · exact hk ⟨s, h1, h2, by rw [← hk1, hj]⟩
    cases e : sn t1 s with
    | false =>
      cases e' : sn t1 s' with
      | false => exact h.inj s s' h1 h1' e e' h0 he
      | true => exact absurd (mixed s' s h1' h1 h2' h2 (by rw [← he]; exact h0) he.symm e' e) id
    | true =>
      cases e' : sn t1 s' with
      | false => exact absurd (mixed s s' h1 h1' h2 h2' h0 he e e') id
      | true => exact hI s s' h1 h1' h2 h2' (by rw [← h.keep s h1 e]; exact h0) (by rw [← h.keep s h1 e, ← h.keep s' h1' e']; exact he)
  · cases e : sn t1 s with
    | false =>
      rcases (h.img j).1 ⟨s, h1, e, h3⟩ with hi | rfl
      · exact .inl (hi.sub hs)
      · exact .inr rfl
    | true => exact .inl ⟨s, h1, h2, by rw [← h.keep s h1 e]; exact h3⟩
  · rcases hj with ⟨s, h1, h2, h3⟩ | rfl
    · cases e : sn t1 s with
      | false => exact ((h.img j).2 (.inl ⟨s, h1, e, h3⟩)).sub hs
      | true => exact ⟨s, h1, h2, by rw [h.keep s h1 e]; exact h3⟩
    · exact ((h.img j).2 (.inr rfl)).sub hs

theorem aug_law {n : Nat} (hB : Bel L n) {k : Nat} {r o : List Int} {t : List Bool} {b : Bool} {o' : List Int} {t' : List Bool} (h : Aug L u k r o t b o' t') :
    o.length = n → t.length = n → k < n → (∀ v, v ∈ r → v ∈ gr L k) → Vld L u n t o → Inj n t o → ¬ Img n t o k →
    (b = true → Won L u n t k o o') ∧ (b = false → Lost L u n t t' r o o') := by
  induction h with
  | nil k o t => exact fun _ _ _ _ _ _ _ => ⟨(fun h => by cases h), fun _ => ⟨rfl, (fun s _ h => by simp at h), fun s _ h1 h2 => by rw [h1] at h2; cases h2⟩⟩
  | @skip k s r o t b o' t' h hr ih =>
    intro ho ht hk hm hV hI hi
    obtain ⟨i1, i2⟩ := ih ho ht hk (fun v hv => hm v (List.mem_cons_of_mem _ hv)) hV hI hi
    refine ⟨i1, fun hb => ⟨(i2 hb).same, fun s' h1 h2 => ?_, (i2 hb).more⟩⟩
    rcases List.mem_cons.1 h2 with e | h2
    · obtain rfl : s' = s := by omega
      rcases h with h | h
      · exact .inl h
      · exact .inr (hr.len.2.2.2 _ h)
    · exact (i2 hb).shut s' h1 h2
  | @free k s r o t h1 h2 h3 =>
    intro ho ht hk hm hV hI hi
    have hmem := hm _ (List.mem_cons_self ..)
    obtain ⟨s', he, hs⟩ := hB k _ hmem
    obtain rfl : s = s' := by omega
    refine ⟨fun _ => ⟨fun x hx htx => ?_, fun x hx htx => ?_, fun x y hx hy htx hty h0 he => ?_, fun j => ⟨fun ⟨x, hx, htx, hjx⟩ => ?_, fun hj => ?_⟩⟩, fun h => by cases h⟩
    · by_cases e : s = x
      · subst e; rw [h2] at htx; cases htx
      · rw [gi_set_ne e]
    · by_cases e : s = x
      · subst e; exact .inr ⟨k, gi_set_self (by omega), hk, hmem, h1⟩
      · rw [gi_set_ne e]; exact hV x hx htx
    · by_cases e : s = x
      · subst e
        by_cases e' : s = y
        · exact e'
        · rw [gi_set_self (by omega), gi_set_ne e'] at he
          exact absurd ⟨y, hy, hty, he.symm⟩ hi
      · by_cases e' : s = y
        · subst e'
          rw [gi_set_self (by omega), gi_set_ne e] at he
          exact absurd ⟨x, hx, htx, he⟩ hi
        · rw [gi_set_ne e] at h0
          rw [gi_set_ne e, gi_set_ne e'] at he
          exact hI x y hx hy htx hty h0 he
    · by_cases e : s = x
      · subst e; rw [gi_set_self (by omega)] at hjx; exact .inr (by omega)
      · rw [gi_set_ne e] at hjx; exact .inl ⟨x, hx, htx, hjx⟩
    · rcases hj with ⟨x, hx, htx, hjx⟩ | rfl
      · have e : s ≠ x := fun e => by subst e; omega
        exact ⟨x, hx, htx, by rw [gi_set_ne e]; exact hjx⟩
      · exact ⟨s, hs, h2, gi_set_self (by omega)⟩
  | @move k s j r o t o' t' h1 h2 h3 hr ih =>
    intro ho ht hk hm hV hI hi
    have hmem := hm _ (List.mem_cons_self ..)
    obtain ⟨s', he, hs⟩ := hB k _ hmem
    obtain rfl : s = s' := by omega
    have hs2 : ∀ i, sn t i = true → sn (t.set s true) i = true := fun i h => sn_set_mono h
    have hj : j < n := by
      rcases hV s hs h2 with h | ⟨j', h, hj', _⟩
      · omega
      · omega
    have hself : sn (t.set s true) s = true := sn_set_self (by omega)
    have hlow : ∀ x, s ≠ x → sn t x = false → sn (t.set s true) x = false := fun x e h => by rw [sn_set_ne e]; exact h
    have hij : ¬ Img n (t.set s true) o j := fun ⟨x, hx, htx, hjx⟩ => by
      have := hI s x hs hx h2 (low_of hs2 htx) (by omega) (by rw [h3, hjx])
      subst this
      rw [hself] at htx; cases htx
    obtain ⟨i1, -⟩ := ih ho (by simpa using ht) hj (fun v hv => hv) (hV.sub hs2) (hI.sub hs2) hij
    have W := i1 rfl
    have hol : o'.length = n := by rw [hr.len.1]; exact ho
    refine ⟨fun _ => ⟨fun x hx htx => ?_, fun x hx htx => ?_, fun x y hx hy htx hty h0 he => ?_, fun i => ⟨fun ⟨x, hx, htx, hjx⟩ => ?_, fun hj' => ?_⟩⟩, fun h => by cases h⟩
    · have e : s ≠ x := fun e => by subst e; rw [h2] at htx; cases htx
      rw [gi_set_ne e]; exact W.keep x hx (hs2 x htx)
    · by_cases e : s = x
      · subst e; exact .inr ⟨k, gi_set_self (by omega), hk, hmem, h1⟩
      · rw [gi_set_ne e]; exact W.vld x hx (hlow x e htx)
    · have key : ∀ y, y < n → sn t y = false → s ≠ y → gi o' y = (k : Int) → False := fun y hy hty e he => by
        rcases (W.img k).1 ⟨y, hy, hlow y e hty, he⟩ with h | h
        · exact hi (h.sub hs2)
        · subst h; exact hi ⟨s, hs, h2, h3⟩
      by_cases e : s = x
      · subst e
        by_cases e' : s = y
        · exact e'
        · rw [gi_set_self (by omega), gi_set_ne e'] at he
          exact absurd (key y hy hty e' he.symm) id
      · by_cases e' : s = y
        · subst e'
          rw [gi_set_self (by omega), gi_set_ne e] at he
          exact absurd (key x hx htx e he) id
        · rw [gi_set_ne e] at h0
          rw [gi_set_ne e, gi_set_ne e'] at he
          exact W.inj x y hx hy (hlow x e htx) (hlow y e' hty) h0 he
    · by_cases e : s = x
      · subst e; rw [gi_set_self (by omega)] at hjx; exact .inr (by omega)
      · rw [gi_set_ne e] at hjx
        rcases (W.img i).1 ⟨x, hx, hlow x e htx, hjx⟩ with h | rfl
        · exact .inl (h.sub hs2)
        · exact .inl ⟨s, hs, h2, h3⟩
    · rcases hj' with ⟨x, hx, htx, hjx⟩ | rfl
      · have hin : Img n (t.set s true) o' i := by
          by_cases e : s = x
          · subst e
            exact (W.img i).2 (.inr (by omega))
          · exact (W.img i).2 (.inl ⟨x, hx, hlow x e htx, hjx⟩)
        obtain ⟨y, hy, hty, hjy⟩ := hin
        have e : s ≠ y := fun e => by subst e; rw [hself] at hty; cases hty
        exact ⟨y, hy, low_of hs2 hty, by rw [gi_set_ne e]; exact hjy⟩
      · exact ⟨s, hs, h2, gi_set_self (by omega)⟩
  | @back k s j r o t o1 t1 b o' t' h1 h2 h3 hj hr ih1 ih2 =>
    intro ho ht hk hm hV hI hi
    have hmem := hm _ (List.mem_cons_self ..)
    obtain ⟨s', he, hs⟩ := hB k _ hmem
    obtain rfl : s = s' := by omega
    have hs2 : ∀ i, sn t i = true → sn (t.set s true) i = true := fun i h => sn_set_mono h
    have hjn : j < n := by
      rcases hV s hs h2 with h | ⟨j', h, hj', _⟩
      · omega
      · omega
    have hself : sn (t.set s true) s = true := sn_set_self (by omega)
    have hij : ¬ Img n (t.set s true) o j := fun ⟨x, hx, htx, hjx⟩ => by
      have := hI s x hs hx h2 (low_of hs2 htx) (by omega) (by rw [h3, hjx])
      subst this
      rw [hself] at htx; cases htx
    obtain ⟨-, i1⟩ := ih1 ho (by simpa using ht) hjn (fun v hv => hv) (hV.sub hs2) (hI.sub hs2) hij
    have F := i1 rfl
    obtain rfl := F.same
    have ht1 : ∀ i, sn t i = true → sn t1 i = true := fun i h => hj.len.2.2.2 i (hs2 i h)
    have ht2 : ∀ i, sn t1 i = true → sn t' i = true := hr.len.2.2.2
    obtain ⟨w2, f2⟩ := ih2 ho (by rw [hj.len.2.1]; simpa using ht) hk (fun v hv => hm v (List.mem_cons_of_mem _ hv)) (hV.sub ht1) (hI.sub ht1) (fun h => hi (h.sub ht1))
    have shut_up : ∀ r, Shut L u n t1 r → Shut L u n t' r := fun r h s h1 h2 => (h s h1 h2).imp id (ht2 s)
    refine ⟨fun hb => (w2 hb).widen ht1 hV hI hi, fun hb => ⟨(f2 hb).same, fun x hx hxm => ?_, fun x hx hx' hxt => ?_⟩⟩
    · rcases List.mem_cons.1 hxm with e | hxm
      · obtain rfl : x = s := by omega
        exact .inr (ht2 _ (hj.len.2.2.2 _ hself))
      · exact (f2 hb).shut x hx hxm
    · by_cases e : s = x
      · subst e
        exact ⟨j, h3, hjn, shut_up _ F.shut⟩
      · cases e1 : sn t1 x with
        | true =>
          obtain ⟨j', g1, g2, g3⟩ := F.more x hx e1 (by rw [sn_set_ne e]; exact hxt)
          exact ⟨j', g1, g2, shut_up _ g3⟩
        | false => exact (f2 hb).more x hx hx' e1

/-! ### all lists from one on -/

/-- Different symbols for the lists from one on, none of them used. -/
def Sdr (L : List (List Int)) (n : Nat) (f : Nat) (u : List Bool) : Prop := ∃ g : Nat → Nat, (∀ j, f ≤ j → j < n → g j < n ∧ ((g j : Nat) : Int) ∈ gr L j ∧ sn u (g j) = false) ∧ ∀ i j, f ≤ i → i < j → j < n → g i ≠ g j
/-- Too few symbols for some of the lists. -/
def Few (L : List (List Int)) (n : Nat) (f : Nat) (u : List Bool) : Prop := ∃ A T : List Nat, A.Nodup ∧ T.Nodup ∧ A.length = T.length + 1 ∧ (∀ j, j ∈ A → f ≤ j ∧ j < n) ∧ (∀ s, s ∈ T → s < n) ∧ ∀ j, j ∈ A → ∀ s : Nat, s < n → (s : Int) ∈ gr L j → sn u s = true ∨ s ∈ T

theorem nodup_map_on {α β : Type} {f : α → β} {l : List α} (hl : l.Nodup) (h : ∀ x y, x ∈ l → y ∈ l → f x = f y → x = y) : (l.map f).Nodup := by
  induction l with
  | nil => simp
  | cons x l ih =>
    rw [List.nodup_cons] at hl
    rw [List.map_cons, List.nodup_cons]
    refine ⟨fun hm => ?_, ih hl.2 (fun a b ha hb => h a b (List.mem_cons_of_mem _ ha) (List.mem_cons_of_mem _ hb))⟩
    obtain ⟨y, hy, e⟩ := List.mem_map.1 hm
    exact hl.1 (by rw [← h y x (List.mem_cons_of_mem _ hy) (List.mem_cons_self ..) e]; exact hy)

theorem few_no {n f : Nat} (h : Few L n f u) : ¬ Sdr L n f u := fun ⟨g, h1, h2⟩ => by
  obtain ⟨A, T, hA, hT, hl, hAn, hTn, hN⟩ := h
  have hinj : ∀ x y, x ∈ A → y ∈ A → g x = g y → x = y := fun x y hx hy e => by
    rcases Nat.lt_trichotomy x y with hlt | rfl | hlt
    · exact absurd e (h2 x y (hAn x hx).1 hlt (hAn y hy).2)
    · rfl
    · exact absurd e.symm (h2 y x (hAn y hy).1 hlt (hAn x hx).2)
  have := List.Nodup.length_le_of_subset (l₁ := A.map g) (l₂ := T) (nodup_map_on hA hinj) (fun s hs => by
    obtain ⟨j, hj, rfl⟩ := List.mem_map.1 hs
    have hg := h1 j (hAn j hj).1 (hAn j hj).2
    rcases hN j hj (g j) hg.1 hg.2.1 with e | e
    · rw [hg.2.2] at e; cases e
    · exact e)
  rw [List.length_map] at this
  omega

/-- The lists from f up to k have symbols. -/
structure Mtc (L : List (List Int)) (u : List Bool) (n f k : Nat) (o : List Int) : Prop where
  len : o.length = n
  vld : Vld L u n (List.replicate n false) o
  inj : Inj n (List.replicate n false) o
  img : ∀ j, Img n (List.replicate n false) o j ↔ f ≤ j ∧ j < k

theorem sn_rep {n s : Nat} (h : s < n) : sn (List.replicate n false) s = false := sn_of (by rw [List.getElem?_replicate, if_pos h])
theorem Mtc.start (n f : Nat) : Mtc L u n f f (List.replicate n (-1)) := by
  have e : ∀ s, s < n → gi (List.replicate n (-1 : Int)) s = -1 := fun s h => gi_of (by rw [List.getElem?_replicate, if_pos h])
  refine ⟨by simp, fun s h _ => .inl (e s h), fun s s' h _ _ _ h0 _ => by rw [e s h] at h0; omega, fun j => ⟨fun ⟨s, h1, _, h3⟩ => by rw [e s h1] at h3; omega, fun h => by omega⟩⟩
theorem Mtc.step {n f k : Nat} {o o' : List Int} {t' : List Bool} (hB : Bel L n) (h : Mtc L u n f k o) (hf : f ≤ k) (hk : k < n) (ha : Aug L u k (gr L k) o (List.replicate n false) true o' t') : Mtc L u n f (k + 1) o' := by
  have W := (aug_law hB ha h.len (by simp) hk (fun v hv => hv) h.vld h.inj (fun hi => by have := (h.img k).1 hi; omega)).1 rfl
  refine ⟨by rw [ha.len.1]; exact h.len, W.vld, W.inj, fun j => ?_⟩
  rw [W.img j, h.img j]
  omega
theorem Mtc.few {n f k : Nat} {o o' : List Int} {t' : List Bool} (hB : Bel L n) (h : Mtc L u n f k o) (hf : f ≤ k) (hk : k < n) (ha : Aug L u k (gr L k) o (List.replicate n false) false o' t') : Few L n f u := by
  have hki : ¬ Img n (List.replicate n false) o k := fun hi => by have := (h.img k).1 hi; omega
  have F := (aug_law hB ha h.len (by simp) hk (fun v hv => hv) h.vld h.inj hki).2 rfl
  have hT : ∀ s, s ∈ (List.range n).filter (fun s => sn t' s) ↔ s < n ∧ sn t' s = true := fun s => by rw [List.mem_filter, List.mem_range]
  have hTn : ((List.range n).filter (fun s => sn t' s)).Nodup := List.Pairwise.filter _ List.nodup_range
  have hval : ∀ s, s ∈ (List.range n).filter (fun s => sn t' s) → ∃ j : Nat, gi o s = (j : Int) ∧ j < n ∧ Shut L u n t' (gr L j) := fun s hs => F.more s ((hT s).1 hs).1 ((hT s).1 hs).2 (sn_rep ((hT s).1 hs).1)
  refine ⟨k :: ((List.range n).filter (fun s => sn t' s)).map (fun s => (gi o s).toNat), (List.range n).filter (fun s => sn t' s), ?_, hTn, by simp, fun j hj => ?_, fun s hs => ((hT s).1 hs).1, fun j hj s hs hm => ?_⟩
  · rw [List.nodup_cons]
    refine ⟨fun hm => ?_, nodup_map_on hTn (fun x y hx hy e => ?_)⟩
    · obtain ⟨s, hs, e⟩ := List.mem_map.1 hm
      obtain ⟨j, g1, _, _⟩ := hval s hs
      exact hki ⟨s, ((hT s).1 hs).1, sn_rep ((hT s).1 hs).1, by rw [g1] at e ⊢; simp at e; rw [e]⟩
    · obtain ⟨j, g1, _, _⟩ := hval x hx
      obtain ⟨j', g1', _, _⟩ := hval y hy
      have e2 : gi o x = gi o y := by
        simp only [g1, g1', Int.toNat_natCast] at e
        rw [g1, g1', e]
      exact h.inj x y ((hT x).1 hx).1 ((hT y).1 hy).1 (sn_rep ((hT x).1 hx).1) (sn_rep ((hT y).1 hy).1) (by omega) e2
  · rcases List.mem_cons.1 hj with rfl | hj
    · exact ⟨hf, hk⟩
    · obtain ⟨s, hs, e⟩ := List.mem_map.1 hj
      obtain ⟨j', g1, g2, _⟩ := hval s hs
      have e2 : j' = j := by simp only [g1, Int.toNat_natCast] at e; exact e
      subst e2
      have := (h.img j').1 ⟨s, ((hT s).1 hs).1, sn_rep ((hT s).1 hs).1, g1⟩
      exact ⟨this.1, g2⟩
  · have : sn u s = true ∨ sn t' s = true := by
      rcases List.mem_cons.1 hj with rfl | hj
      · exact F.shut s hs hm
      · obtain ⟨x, hx, e⟩ := List.mem_map.1 hj
        obtain ⟨j', g1, g2, g3⟩ := hval x hx
        have e2 : j' = j := by simp only [g1, Int.toNat_natCast] at e; exact e
        subst e2
        exact g3 s hs hm
    rcases this with e | e
    · exact .inl e
    · exact .inr ((hT s).2 ⟨hs, e⟩)
theorem Mtc.done {n f : Nat} {o : List Int} (h : Mtc L u n f n o) : Sdr L n f u := by
  have hc : ∀ j, f ≤ j → j < n → ∃ s, s < n ∧ gi o s = (j : Int) := fun j h1 h2 => by
    obtain ⟨s, g1, _, g3⟩ := (h.img j).2 ⟨h1, h2⟩
    exact ⟨s, g1, g3⟩
  refine ⟨fun j => if hj : f ≤ j ∧ j < n then Classical.choose (hc j hj.1 hj.2) else 0, fun j h1 h2 => ?_, fun i j h1 h2 h3 e => ?_⟩
  · simp only [dif_pos (And.intro h1 h2)]
    have hs := Classical.choose_spec (hc j h1 h2)
    rcases h.vld _ hs.1 (sn_rep hs.1) with e | ⟨j', e, _, e2, e3⟩
    · rw [hs.2] at e; omega
    · have : j' = j := by rw [hs.2] at e; omega
      subst this
      exact ⟨hs.1, e2, e3⟩
  · simp only [dif_pos (And.intro h1 (Nat.lt_trans h2 h3)), dif_pos (And.intro (Nat.le_trans h1 (Nat.le_of_lt h2)) h3)] at e
    have hs := Classical.choose_spec (hc i h1 (Nat.lt_trans h2 h3))
    have hs' := Classical.choose_spec (hc j (Nat.le_trans h1 (Nat.le_of_lt h2)) h3)
    rw [← e, hs.2] at hs'
    have := hs'.2
    omega

/-- Hall: enough symbols for all sets of lists are enough. -/
theorem sdr_of {n f : Nat} (hB : Bel L n) (hf : f ≤ n) (h : ¬ Few L n f u) : Sdr L n f u := by
  have key : ∀ m, f + m ≤ n → ∃ o, Mtc L u n f (f + m) o := by
    intro m
    induction m with
    | zero => exact fun _ => ⟨_, Mtc.start n f⟩
    | succ m ih =>
      intro hm
      obtain ⟨o, ho⟩ := ih (by omega)
      obtain ⟨b, o', t', ha⟩ := aug_ends (u := u) hB n (List.replicate n false) (by simp) (by rw [uns]; exact Nat.le_trans (List.count_le_length) (by simp)) (gr L (f + m)) (hB (f + m)) (f + m) o
      cases b with
      | true => exact ⟨o', ho.step hB (show f ≤ f + m by omega) (show f + m < n by omega) ha⟩
      | false => exact absurd (ho.few hB (show f ≤ f + m by omega) (show f + m < n by omega) ha) h
  obtain ⟨o, ho⟩ := key (n - f) (by omega)
  rw [show f + (n - f) = n by omega] at ho
  exact ho.done
end

/-! ### the least row -/
/-- A symbol that can be taken for list k. -/
def Tak (L : List (List Int)) (n k : Nat) (u : List Bool) (v : Int) : Prop := sn u v.toNat = false ∧ Sdr L n (k + 1) (u.set v.toNat true)
noncomputable def pick (L : List (List Int)) (n k : Nat) (u : List Bool) : Int := ((gr L k).find? (fun v => pb (Tak L n k u v))).getD 0
noncomputable def usd (L : List (List Int)) (n : Nat) : Nat → List Bool
  | 0 => List.replicate n false
  | k + 1 => (usd L n k).set (pick L n k (usd L n k)).toNat true
noncomputable def lrow (L : List (List Int)) (n k : Nat) : List Int := (List.range k).map fun j => pick L n j (usd L n j)
theorem usd_len (L : List (List Int)) (n k : Nat) : (usd L n k).length = n := by
  induction k with
  | zero => simp [usd]
  | succ k ih => rw [usd, List.length_set, ih]
theorem lrow_len (L : List (List Int)) (n k : Nat) : (lrow L n k).length = k := by simp [lrow]
theorem lrow_snoc (L : List (List Int)) (n k : Nat) : lrow L n (k + 1) = lrow L n k ++ [pick L n k (usd L n k)] := by rw [lrow, List.range_succ, List.map_append]; rfl

theorem sdr_take {L : List (List Int)} {n k : Nat} {u : List Bool} (hul : u.length = n) (hk : k < n) (h : Sdr L n k u) : ∃ v, v ∈ gr L k ∧ Tak L n k u v := by
  obtain ⟨g, h1, h2⟩ := h
  refine ⟨(g k : Nat), (h1 k (Nat.le_refl _) hk).2.1, ?_, g, fun j hj hjn => ?_, fun i j hi hij hj => h2 i j (by omega) hij hj⟩
  · rw [Int.toNat_natCast]; exact (h1 k (Nat.le_refl _) hk).2.2
  · have := h1 j (by omega) hjn
    refine ⟨this.1, this.2.1, ?_⟩
    rw [Int.toNat_natCast, sn_set_ne (h2 k j (Nat.le_refl _) (by omega) hjn)]
    exact this.2.2
theorem pick_spec {L : List (List Int)} {n k : Nat} {u : List Bool} (hul : u.length = n) (hk : k < n) (h : Sdr L n k u) : pick L n k u ∈ gr L k ∧ Tak L n k u (pick L n k u) := by
  obtain ⟨v, h1, h2⟩ := sdr_take hul hk h
  cases e : (gr L k).find? (fun v => pb (Tak L n k u v)) with
  | none => exact absurd (pb_true h2) (by have := List.find?_eq_none.1 e v h1; simpa using this)
  | some x =>
    rw [pick, e]
    have h9 := List.find?_some (p := fun v => pb (Tak L n k u v)) e
    exact ⟨List.mem_of_find?_eq_some e, pb_iff.1 h9⟩
theorem usd_sdr {L : List (List Int)} {n : Nat} (h0 : Sdr L n 0 (List.replicate n false)) (k : Nat) (hk : k ≤ n) : Sdr L n k (usd L n k) := by
  induction k with
  | zero => exact h0
  | succ k ih => exact (pick_spec (usd_len L n k) (by omega) (ih (by omega))).2.2
/-- The first symbol that can be taken is the one that is picked. -/
theorem pick_at {L : List (List Int)} {n k i : Nat} {u : List Bool} (hi : i < (gr L k).length) (h : Tak L n k u (gi (gr L k) i)) (hb : ∀ j, j < i → ¬ Tak L n k u (gi (gr L k) j)) : pick L n k u = gi (gr L k) i := by
  have e : (gr L k).find? (fun v => pb (Tak L n k u v)) = some (gi (gr L k) i) := by
    rw [List.find?_eq_some_iff_getElem]
    refine ⟨pb_true h, i, hi, (gi_of (List.getElem?_eq_getElem hi)).symm, fun j hj => ?_⟩
    have := hb j hj
    rw [gi_of (List.getElem?_eq_getElem (Nat.lt_trans hj hi))] at this
    simp [pb_false this]
  rw [pick, e]; rfl

/-- All symbols of the least row are different, each of its list. -/
theorem lrow_mem {L : List (List Int)} {n : Nat} (h0 : Sdr L n 0 (List.replicate n false)) {k : Nat} (hk : k < n) : gi (lrow L n n) k ∈ gr L k ∧ gi (lrow L n n) k = pick L n k (usd L n k) := by
  have e : gi (lrow L n n) k = pick L n k (usd L n k) := gi_of (by simp [lrow, hk])
  exact ⟨by rw [e]; exact (pick_spec (usd_len L n k) hk (usd_sdr h0 k (by omega))).1, e⟩
theorem lrow_ne {L : List (List Int)} {n : Nat} (hB : Bel L n) (h0 : Sdr L n 0 (List.replicate n false)) {i j : Nat} (hij : i < j) (hj : j < n) : gi (lrow L n n) i ≠ gi (lrow L n n) j := by
  have hs := fun k hk => pick_spec (usd_len L n k) hk (usd_sdr h0 k (Nat.le_of_lt hk))
  rw [(lrow_mem h0 (Nat.lt_trans hij hj)).2, (lrow_mem h0 hj).2]
  intro e
  obtain ⟨s, hs1, hs2⟩ := hB i _ (hs i (Nat.lt_trans hij hj)).1
  have stay : ∀ m, i + 1 + m ≤ n → sn (usd L n (i + 1 + m)) s = true := by
    intro m
    induction m with
    | zero => intro _; rw [Nat.add_zero, usd, hs1, Int.toNat_natCast]; exact sn_set_self (by rw [usd_len]; exact hs2)
    | succ m ih => intro hm; rw [← Nat.add_assoc, usd]; exact sn_set_mono (ih (by omega))
  have h1 := stay (j - (i + 1)) (by omega)
  rw [show i + 1 + (j - (i + 1)) = j by omega] at h1
  have h2 := (hs j hj).2.1
  rw [← e, hs1, Int.toNat_natCast, h1] at h2
  cases h2
end Go.Proofs.Ytgggbicmmijlnaa
