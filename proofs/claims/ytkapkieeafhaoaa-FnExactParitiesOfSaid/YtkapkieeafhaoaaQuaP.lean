/- Quadrangles, in plain words. Conditions: none. -/
import Derived.Test.YtkapkieeafhaoaaIsoP
import Derived.Test.YtkapkieeafhaoaaFPair
import Derived.Test.YtkapkieeafhaoaaSqP
namespace Go.Proofs.Ytkapkieeafhaoaa
open Go.RowKit

/-- Where each number stands in each row, or in each column. -/
def RowTab (p I : List (List Int)) (n : Nat) : Prop := Rng I n ∧ ∀ u z, u < n → z < n → at2 I u (at2 p u z).toNat = z
def ColTab (p J : List (List Int)) (n : Nat) : Prop := Rng J n ∧ ∀ u z, u < n → z < n → at2 J z (at2 p u z).toNat = u

def QH (p : List (List Int)) (n : Nat) : Prop := ∀ r s u v c d e f, r < n → s < n → u < n → v < n → c < n → d < n → e < n → f < n →
  at2 p u e = at2 p r c → at2 p u f = at2 p r d → at2 p s c = at2 p v e → at2 p s d = at2 p v f
noncomputable def quaB (p : List (List Int)) : Bool := pb (SqOk p ∧ QH p p.length)

theorem SqOk.rowHas {p : List (List Int)} {n : Nat} (h : SqOk p) (hn : n = p.length) {u v : Nat} (hu : u < n) (hv : v < n) : ∃ y, y < n ∧ at2 p u y = v := by
  subst hn
  have hl := h.2.2.1.2 u hu
  obtain ⟨k, hk, he⟩ := mem_gi ((h.2.2.2.1 u hu).mem (v := (v : Int)) (by omega) (by rw [hl]; omega))
  exact ⟨k, by omega, he⟩
theorem SqOk.colHas {p : List (List Int)} {n : Nat} (h : SqOk p) (hn : n = p.length) {y v : Nat} (hy : y < n) (hv : v < n) : ∃ x, x < n ∧ at2 p x y = v := by
  subst hn
  have hl := col_length p p.length y
  obtain ⟨k, hk, he⟩ := mem_gi ((h.2.2.2.2 y hy).mem (v := (v : Int)) (by omega) (by rw [hl]; omega))
  rw [hl] at hk
  exact ⟨k, hk, by rw [← he, gi_col hk]⟩
theorem nodup_gi {xs : List Int} (h : xs.Nodup) {i j : Nat} (hi : i < xs.length) (hj : j < xs.length) (e : gi xs i = gi xs j) : i = j := by
  have h1 : gi xs i = xs[i] := gi_of (List.getElem?_eq_getElem hi)
  have h2 : gi xs j = xs[j] := gi_of (List.getElem?_eq_getElem hj)
  rw [h1, h2] at e
  have hp := List.pairwise_iff_getElem.1 h
  by_cases h3 : i = j
  · exact h3
  · rcases Nat.lt_or_gt_of_ne h3 with h4 | h4
    · exact absurd e (hp i j hi hj h4)
    · exact absurd e.symm (hp j i hj hi h4)
theorem SqOk.rowInj {p : List (List Int)} {n : Nat} (h : SqOk p) (hn : n = p.length) {u y z : Nat} (hu : u < n) (hy : y < n) (hz : z < n) (e : at2 p u y = at2 p u z) : y = z := by
  subst hn
  have hl := h.2.2.1.2 u hu
  exact nodup_gi (h.2.2.2.1 u hu).1 (by omega) (by omega) e
theorem SqOk.colInj {p : List (List Int)} {n : Nat} (h : SqOk p) (hn : n = p.length) {u v y : Nat} (hu : u < n) (hv : v < n) (hy : y < n) (e : at2 p u y = at2 p v y) : u = v := by
  subst hn
  have hl := col_length p p.length y
  exact nodup_gi (h.2.2.2.2 y hy).1 (by omega) (by omega) (by rw [gi_col hu, gi_col hv]; exact e)

theorem invTo_at {xs : List Int} (h : IsPerm xs) {k : Nat} (hk : k ≤ xs.length) {y : Nat} (hy : y < k) : gi (invTo xs xs.length k) (gi xs y).toNat = y := by
  induction k with
  | zero => omega
  | succ k ih =>
    have hb : ∀ i, i < xs.length → (gi xs i).toNat < (invTo xs xs.length k).length ∧ 0 ≤ gi xs i := by
      intro i hi
      obtain ⟨v, h1, h2⟩ := h.below i hi
      rw [invTo_length]; omega
    rw [invTo]
    by_cases e : y = k
    · subst e
      exact gi_of (List.getElem?_set_self (hb y (by omega)).1)
    · have hne : (gi xs k).toNat ≠ (gi xs y).toNat := by
        intro h2
        have h3 := (hb k (by omega)).2
        have h4 := (hb y (by omega)).2
        exact e (nodup_gi h.1 (by omega) (by omega) (by omega))
      rw [← ih (by omega) (by omega)]
      apply gi_of
      rw [List.getElem?_set_ne hne, gi_get (hb y (by omega)).1]

/-- The table of the reference. -/
def bkM (p : List (List Int)) (k : Nat) : List (List Int) := (List.range k).map fun u => inv (gr p u)
theorem bkM_succ (p : List (List Int)) (k : Nat) : bkM p (k + 1) = bkM p k ++ [inv (gr p k)] := by rw [bkM, List.range_succ, List.map_append]; rfl
theorem gr_bkM {p : List (List Int)} {n u : Nat} (hu : u < n) : gr (bkM p n) u = inv (gr p u) := gr_of (by simp [bkM, hu])
theorem bkM_rect {p : List (List Int)} {n : Nat} (hr : Rect p n n) : Rect (bkM p n) n n := ⟨by simp [bkM], fun u hu => by rw [gr_bkM hu, inv_length, hr.2 u hu]⟩
theorem bkM_tab {p : List (List Int)} {n : Nat} (h : SqOk p) (hn : n = p.length) : RowTab p (bkM p n) n := by
  subst hn
  refine ⟨⟨bkM_rect h.2.2.1, h.2.1, fun x y hx hy => ?_⟩, fun u z hu hz => ?_⟩
  · rw [at2, gr_bkM hx]
    obtain ⟨v, h1, h2⟩ := inv_below (gr p x) y (by rw [inv_length, h.2.2.1.2 x hx]; exact hy)
    rw [h.2.2.1.2 x hx] at h2
    omega
  · rw [at2, gr_bkM hu]
    exact invTo_at (h.2.2.2.1 u hu) (Nat.le_refl _) (by rw [h.2.2.1.2 u hu]; exact hz)

theorem RowTab.at_ {p I : List (List Int)} {n : Nat} (h : RowTab p I n) (hp : SqOk p) (hn : n = p.length) {u v : Nat} (hu : u < n) (hv : v < n) : ∃ e : Nat, at2 I u v = e ∧ e < n ∧ at2 p u e = v := by
  obtain ⟨y, hy, he⟩ := hp.rowHas hn hu hv
  have := h.2 u y hu hy
  rw [he] at this
  exact ⟨y, this, hy, he⟩
theorem ColTab.at_ {p J : List (List Int)} {n : Nat} (h : ColTab p J n) (hp : SqOk p) (hn : n = p.length) {e v : Nat} (hu : e < n) (hv : v < n) : ∃ x : Nat, at2 J e v = x ∧ x < n ∧ at2 p x e = v := by
  obtain ⟨y, hy, he⟩ := hp.colHas hn hu hv
  have := h.2 y e hy hu
  rw [he] at this
  exact ⟨y, this, hy, he⟩

/-- What the reference asks of four rows. -/
def qE (p B : List (List Int)) (r u c : Nat) : Nat := (at2 B u (at2 p r c).toNat).toNat
def Q4 (p B : List (List Int)) (n r s u v : Nat) : Prop := ∀ c d, c < n → d < n → at2 p s c = at2 p v (qE p B r u c) → at2 p s d = at2 p v (qE p B r u d)
def QS (p B : List (List Int)) (n : Nat) : Prop := ∀ r s u v, r < n → s < n → u < n → v < n → Q4 p B n r s u v

theorem qE_at {p B : List (List Int)} {n : Nat} (h : RowTab p B n) (hp : SqOk p) (hn : n = p.length) {r u c : Nat} (hr : r < n) (hu : u < n) (hc : c < n) : ∃ k : Nat, at2 p r c = k ∧ k < n ∧ at2 B u k = qE p B r u c ∧ qE p B r u c < n ∧ at2 p u (qE p B r u c) = at2 p r c := by
  obtain ⟨v, hv, hvn⟩ : ∃ v : Nat, at2 p r c = v ∧ v < n := by
    subst hn
    have := hp.lt hr hc
    exact ⟨(at2 p r c).toNat, by omega, by omega⟩
  obtain ⟨e, h1, h2, h3⟩ := h.at_ hp hn hu hvn
  have : qE p B r u c = e := by rw [qE, hv]; show (at2 B u v).toNat = e; rw [h1]; rfl
  exact ⟨v, hv, hvn, by rw [this, h1], by omega, by rw [this, h3, hv]⟩

theorem qs_iff {p B : List (List Int)} {n : Nat} (h : RowTab p B n) (hp : SqOk p) (hn : n = p.length) : QS p B n ↔ QH p n := by
  constructor
  · intro k r s u v c d e f hr hs hu hv hc hd he hf h1 h2 h3
    obtain ⟨_, _, _, _, g2, g3⟩ := qE_at h hp hn hr hu hc
    obtain ⟨_, _, _, _, g5, g6⟩ := qE_at h hp hn hr hu hd
    have e1 : qE p B r u c = e := hp.rowInj hn hu g2 he (by rw [g3, h1])
    have e2 : qE p B r u d = f := hp.rowInj hn hu g5 hf (by rw [g6, h2])
    have := k r s u v hr hs hu hv c d hc hd
    rw [e1, e2] at this
    exact this h3
  · intro k r s u v hr hs hu hv c d hc hd h1
    obtain ⟨_, _, _, _, g2, g3⟩ := qE_at h hp hn hr hu hc
    obtain ⟨_, _, _, _, g5, g6⟩ := qE_at h hp hn hr hu hd
    exact k r s u v c d _ _ hr hs hu hv hc hd g2 g5 g3 g6 h1

/-- What the program asks. -/
def qV (p I J : List (List Int)) (r s u c : Nat) : Nat := (at2 J (qE p I r u c) (at2 p s c).toNat).toNat
def qi (p I J : List (List Int)) (r s c d u : Nat) : Bool := at2 p s d == at2 p (qV p I J r s u c) (qE p I r u d)
def QI (p I J : List (List Int)) (n : Nat) : Prop := All2 n fun r s => pb (All2 n fun c d => pb (AllN n fun u => qi p I J r s c d u))

theorem qV_at {p I J : List (List Int)} {n : Nat} (h : RowTab p I n) (h' : ColTab p J n) (hp : SqOk p) (hn : n = p.length) {r s u c : Nat} (hr : r < n) (hs : s < n) (hu : u < n) (hc : c < n) :
    ∃ k : Nat, at2 p s c = k ∧ k < n ∧ at2 J (qE p I r u c) k = qV p I J r s u c ∧ qV p I J r s u c < n ∧ at2 p (qV p I J r s u c) (qE p I r u c) = at2 p s c := by
  obtain ⟨v, hv, hvn⟩ : ∃ v : Nat, at2 p s c = v ∧ v < n := by
    subst hn
    have := hp.lt hs hc
    exact ⟨(at2 p s c).toNat, by omega, by omega⟩
  obtain ⟨_, _, _, _, g2, _⟩ := qE_at h hp hn hr hu hc
  obtain ⟨e, h1, h2, h3⟩ := h'.at_ hp hn g2 hvn
  have : qV p I J r s u c = e := by rw [qV, hv]; show (at2 J (qE p I r u c) v).toNat = e; rw [h1]; rfl
  exact ⟨v, hv, hvn, by rw [this, h1], by omega, by rw [this, h3, hv]⟩

theorem qi_iff {p I J : List (List Int)} {n : Nat} (h : RowTab p I n) (h' : ColTab p J n) (hp : SqOk p) (hn : n = p.length) : QI p I J n ↔ QH p n := by
  constructor
  · intro k r s u v c d e f hr hs hu hv hc hd he hf h1 h2 h3
    obtain ⟨_, _, _, _, g2, g3⟩ := qE_at h hp hn hr hu hc
    obtain ⟨_, _, _, _, g5, g6⟩ := qE_at h hp hn hr hu hd
    have e1 : qE p I r u c = e := hp.rowInj hn hu g2 he (by rw [g3, h1])
    have e2 : qE p I r u d = f := hp.rowInj hn hu g5 hf (by rw [g6, h2])
    obtain ⟨_, _, _, _, g7, g8⟩ := qV_at h h' hp hn hr hs hu hc
    have e3 : qV p I J r s u c = v := hp.colInj hn g7 hv he (by rw [← e1, g8, e1, h3])
    have := pb_iff.1 (pb_iff.1 (k r s hr hs) c d hc hd) u hu
    simp only [qi, e2, e3, beq_iff_eq] at this
    exact this
  · intro k r s hr hs
    refine pb_true fun c d hc hd => pb_true fun u hu => ?_
    obtain ⟨_, _, _, _, g2, g3⟩ := qE_at h hp hn hr hu hc
    obtain ⟨_, _, _, _, g5, g6⟩ := qE_at h hp hn hr hu hd
    obtain ⟨_, _, _, _, g7, g8⟩ := qV_at h h' hp hn hr hs hu hc
    have := k r s u _ c d _ _ hr hs hu g7 hc hd g2 g5 g3 g6 g8.symm
    simpa [qi] using this

/-- The program's tables, as far as x rows and y cells more. -/
def Upto (x y u z n : Nat) : Prop := (u < x ∧ z < n) ∨ (u = x ∧ z < y)
def TabTo (p I J : List (List Int)) (n x y : Nat) : Prop := Rng I n ∧ Rng J n ∧ ∀ u z, Upto x y u z n → at2 I u (at2 p u z).toNat = z ∧ at2 J z (at2 p u z).toNat = u

theorem tab_start (p : List (List Int)) {n : Nat} (hn : n ≤ 10) : TabTo p (mat n n fun _ _ => 0) (mat n n fun _ _ => 0) n 0 0 := by
  have h : Rng (mat n n fun _ _ => 0) n := ⟨mat_rect _ _ _, hn, fun i j hi hj => by rw [at2, gr_of (mat_row hi), gi_of (v := 0) (by simp [hj])]; omega⟩
  exact ⟨h, h, fun u z k => by rcases k with ⟨h1, _⟩ | ⟨_, h1⟩ <;> omega⟩
theorem tab_row {p I J : List (List Int)} {n x : Nat} (h : TabTo p I J n x n) : TabTo p I J n (x + 1) 0 :=
  ⟨h.1, h.2.1, fun u z k => h.2.2 u z (by rcases k with ⟨h1, h2⟩ | ⟨_, h1⟩ <;> (try omega); exact (Nat.lt_or_eq_of_le (Nat.le_of_lt_succ h1)).elim (fun e => .inl ⟨e, h2⟩) (fun e => .inr ⟨e, h2⟩))⟩
theorem tab_step {p I J : List (List Int)} {n x y : Nat} (hp : SqOk p) (hn : n = p.length) (h : TabTo p I J n x y) (hx : x < n) (hy : y < n) :
    TabTo p (set2 I x (at2 p x y).toNat y) (set2 J y (at2 p x y).toNat x) n x (y + 1) := by
  have hlt : ∀ {i j}, i < n → j < n → 0 ≤ at2 p i j ∧ (at2 p i j).toNat < n := by
    intro i j hi hj
    subst hn
    have := hp.lt hi hj
    omega
  have hv := hlt hx hy
  refine ⟨⟨rect_set2 h.1.1 _ _ _ hx, h.1.2.1, fun i j hi hj => ?_⟩, ⟨rect_set2 h.2.1.1 _ _ _ hy, h.2.1.2.1, fun i j hi hj => ?_⟩, fun u z k => ?_⟩
  · rw [at2_set2 h.1.1 _ hx hv.2]
    split
    · omega
    · exact h.1.2.2 i j hi hj
  · rw [at2_set2 h.2.1.1 _ hy hv.2]
    split
    · omega
    · exact h.2.1.2.2 i j hi hj
  · rw [at2_set2 h.1.1 _ hx hv.2, at2_set2 h.2.1.1 _ hy hv.2]
    have hu : u < n := by rcases k with ⟨h1, h2⟩ | ⟨h1, h2⟩ <;> omega
    have hz : z < n := by rcases k with ⟨h1, h2⟩ | ⟨h1, h2⟩ <;> omega
    have hw := hlt hu hz
    by_cases e : u = x ∧ z = y
    · obtain ⟨rfl, rfl⟩ := e
      simp
    · have hk : Upto x y u z n := by
        rcases k with ⟨h1, h2⟩ | ⟨h1, h2⟩
        · exact .inl ⟨h1, h2⟩
        · exact .inr ⟨h1, by omega⟩
      obtain ⟨g1, g2⟩ := h.2.2 u z hk
      have n1 : ¬ (u = x ∧ (at2 p u z).toNat = (at2 p x y).toNat) := by
        rintro ⟨e1, e2⟩
        subst e1
        exact e ⟨rfl, hp.rowInj hn hu hz hy (by omega)⟩
      have n2 : ¬ (z = y ∧ (at2 p u z).toNat = (at2 p x y).toNat) := by
        rintro ⟨e1, e2⟩
        subst e1
        exact e ⟨hp.colInj hn hu hx hz (by omega), rfl⟩
      rw [if_neg n1, if_neg n2]
      exact ⟨g1, g2⟩
theorem tab_done {p I J : List (List Int)} {n : Nat} (h : TabTo p I J n n 0) : RowTab p I n ∧ ColTab p J n :=
  ⟨⟨h.1, fun u z hu hz => (h.2.2 u z (.inl ⟨hu, hz⟩)).1⟩, h.2.1, fun u z hu hz => (h.2.2 u z (.inl ⟨hu, hz⟩)).2⟩
end Go.Proofs.Ytkapkieeafhaoaa
