/- Lists of rows that are owned, in words. Conditions: none. -/
import Derived.Test.YtgggbicmmijlnaaApp
namespace Go.Proofs.Ytgggbicmmijlnaa
open Go.RowKit

/-- One owned matrix: where its top lies, and where its rows lie. -/
abbrev RowM := Row × List Row
def RowM.val (r : RowM) : Value := Row.val r.1

structure OwnM (w : World) (B : Nat) (a : Option Addr) (n c : Nat) (x : List (List (List Int))) (rs : List RowM) : Prop where
  top : Own 22 RowM.val w B a n c rs
  len : n = x.length
  row : ∀ (i : Nat) (r : RowM) (p : List (List Int)), rs[i]? = some r → x[i]? = some p → OwnR w B r.1.1 r.1.2.1 r.1.2.2 p r.2
  apart : ∀ (r : RowM), r ∈ rs → ∀ g, OwnR.fp r.1.1 r.2 g → blk a ≠ some g
  sep : ∀ (i j : Nat) (r r' : RowM), i < j → rs[i]? = some r → rs[j]? = some r' → ∀ g, OwnR.fp r.1.1 r.2 g → ¬ OwnR.fp r'.1.1 r'.2 g

section
variable {w w' : World} {B : Nat} {a : Option Addr} {n c : Nat} {x : List (List (List Int))} {rs : List RowM}

theorem OwnM.nil_ (w : World) (B : Nat) : OwnM w B none 0 0 [] [] :=
  ⟨Own.nil_ _ _ _ _, rfl, fun i r p h => by simp at h, fun r h => by simp at h, fun i j r r' _ h => by simp at h⟩

def OwnM.fp (a : Option Addr) (rs : List RowM) (g : Nat) : Prop := blk a = some g ∨ ∃ r : RowM, r ∈ rs ∧ OwnR.fp r.1.1 r.2 g

theorem OwnM.rlen (h : OwnM w B a n c x rs) : rs.length = x.length := by rw [← h.top.len, h.len]

theorem OwnM.lt (h : OwnM w B a n c x rs) {g : Nat} (hg : OwnM.fp a rs g) : B ≤ g ∧ g < w.heap.size := by
  rcases hg with hg | ⟨r, hr, hg⟩
  · exact h.top.lt hg
  · obtain ⟨i, hi⟩ := List.getElem?_of_mem hr
    have hi' : i < rs.length := (List.getElem?_eq_some_iff.1 hi).1
    have hl := h.rlen
    exact (h.row i r _ hi (List.getElem?_eq_getElem (by omega))).lt hg

theorem OwnM.keep (h : OwnM w B a n c x rs) (hk : ∀ g, OwnM.fp a rs g → w'.heap[g]? = w.heap[g]?) : OwnM w' B a n c x rs :=
  ⟨h.top.keep fun g hg => hk g (.inl hg), h.len, fun i r p hr hx => (h.row i r p hr hx).keep fun g hg => hk g (.inr ⟨r, List.mem_of_getElem? hr, hg⟩), h.apart, h.sep⟩
theorem OwnM.ext (h : OwnM w B a n c x rs) (k : Ext w w') : OwnM w' B a n c x rs := h.keep fun g hg => Below.block k g (h.lt hg).2
theorem OwnM.base {B' : Nat} (h : OwnM w B a n c x rs) (k : B' ≤ B) : OwnM w B' a n c x rs :=
  ⟨h.top.base k, h.len, fun i r p hr hx => (h.row i r p hr hx).base k, h.apart, h.sep⟩
theorem OwnM.only {S : Nat → Prop} (h : OwnM w B a n c x rs) (k : Only S w w') (hS : ∀ g, OwnM.fp a rs g → ¬ S g) : OwnM w' B a n c x rs :=
  h.keep fun g hg => k.block g (h.lt hg).2 (hS g hg)

theorem OwnM.at_ (h : OwnM w B a n c x rs) {k : Nat} (hk : k < n) :
    ∃ g r p, a = some ⟨g, 0, none⟩ ∧ B ≤ g ∧ w.cell? ⟨g, k, none⟩ = some (.slice r.1.1 r.1.2.1 r.1.2.2) ∧ w.frozen? ⟨g, k, none⟩ = false ∧ OwnR w B r.1.1 r.1.2.1 r.1.2.2 p r.2 ∧ Hid (rs[k]? = some r) ∧ Hid (x[k]? = some p) := by
  obtain ⟨g, r, h1, h2, h3, h4, h5⟩ := h.top.at_ hk
  have hk' : k < x.length := by have := h.len; omega
  exact ⟨g, r, x[k], h1, h2, h3, h4, h.row k r _ h5.out (List.getElem?_eq_getElem hk'), h5, List.getElem?_eq_getElem hk'⟩

theorem OwnM.rd (h : OwnM w B a n c x rs) : RdM w a n c x := by
  have ht := Own.rd (R := fun _ v r => v = RowM.val r) (fun _ _ => rfl) h.top
  refine ⟨h.len, ht.le, ht.max, ht.nil, fun k p hx => ?_⟩
  have hk : k < n := by rw [h.len]; exact (List.getElem?_eq_some_iff.1 hx).1
  obtain ⟨g, r, p', h1, h2, h3, h4, h5, h6, h7⟩ := h.at_ hk
  rw [h7.out] at hx
  cases hx
  exact ⟨g, 0, _, h1, by rw [Nat.zero_add]; exact h3, _, _, _, rfl, h5.rd⟩

theorem RdM.at_ {xs : List (List (List Int))} (h : RdM w a n c xs) {k : Nat} (hk : k < n) :
    ∃ b off ai ni ci p, a = some ⟨b, off, none⟩ ∧ w.cell? ⟨b, off + k, none⟩ = some (.slice ai ni ci) ∧ RdR w ai ni ci p ∧ Hid (xs[k]? = some p) := by
  have hk' : k < xs.length := by have := h.len; omega
  obtain ⟨b, off, v, h1, h2, ai, ni, ci, rfl, h3⟩ := h.get k xs[k] (List.getElem?_eq_getElem hk')
  exact ⟨b, off, ai, ni, ci, _, h1, h2, h3, List.getElem?_eq_getElem hk'⟩

theorem OwnM.setRow (h : OwnM w B a n c x rs) {g k : Nat} (ha : a = some ⟨g, 0, none⟩) (r : RowM) (p : List (List Int)) (hr : OwnR w B r.1.1 r.1.2.1 r.1.2.2 p r.2)
    (hd : ∀ g', OwnR.fp r.1.1 r.2 g' → ¬ OwnM.fp a rs g') : OwnM (w.setCell ⟨g, k, none⟩ (RowM.val r)) B a n c (x.set k p) (rs.set k r) := by
  subst ha
  have hng : ∀ r' : RowM, (∀ g', OwnR.fp r'.1.1 r'.2 g' → blk (some (⟨g, 0, none⟩ : Addr)) ≠ some g') → ¬ OwnR.fp r'.1.1 r'.2 g := fun r' h' e => h' g e rfl
  have hrg : ¬ OwnR.fp r.1.1 r.2 g := fun e => hd g e (.inl rfl)
  have mem : ∀ {i : Nat} {r' : RowM}, rs[i]? = some r' → r' ∈ rs := fun hi => List.mem_of_getElem? hi
  refine ⟨h.top.set rfl r, by simpa using h.len, fun i r' p' hr' hx' => ?_, fun r' hr' g' hg' => ?_, fun i j r1 r2 hij h1 h2 g' hg1 hg2 => ?_⟩
  · rw [List.getElem?_set] at hr' hx'
    by_cases e : k = i
    · subst e
      have hk : k < rs.length := by
        apply Classical.byContradiction; intro hk; simp [hk] at hr'
      have hk' : k < x.length := by rw [← h.rlen]; exact hk
      simp only [if_true, hk, hk', if_pos, Option.some.injEq] at hr' hx'
      subst hr' hx'
      exact hr.setOther hrg _
    · rw [if_neg e] at hr' hx'
      exact (h.row i r' p' hr' hx').setOther (hng r' (fun g' hg' => h.apart r' (mem hr') g' hg')) _
  · rcases List.mem_or_eq_of_mem_set hr' with hm | rfl
    · exact h.apart r' hm g' hg'
    · exact fun e => hd g' hg' (.inl e)
  · rw [List.getElem?_set] at h1 h2
    by_cases e1 : k = i
    · subst e1
      rw [if_neg (by omega)] at h2
      by_cases hk : k < rs.length
      · simp only [if_true, hk, if_pos, Option.some.injEq] at h1
        subst h1
        exact hd g' hg1 (.inr ⟨r2, mem h2, hg2⟩)
      · simp [hk] at h1
    · rw [if_neg e1] at h1
      by_cases e2 : k = j
      · subst e2
        by_cases hk : k < rs.length
        · simp only [if_true, hk, if_pos, Option.some.injEq] at h2
          subst h2
          exact hd g' hg2 (.inr ⟨r1, mem h1, hg1⟩)
        · simp [hk] at h2
      · rw [if_neg e2] at h2
        exact h.sep i j r1 r2 hij h1 h2 g' hg1 hg2

/-- Matrix k was written by a callee. -/
theorem OwnM.only_row (h : OwnM w B a n c x rs) {k : Nat} {r : RowM} {q : List (List Int)} (hr : rs[k]? = some r)
    (ho : Only (fun g => OwnR.fp r.1.1 r.2 g) w w') (hy : OwnR w' B r.1.1 r.1.2.1 r.1.2.2 q r.2) : OwnM w' B a n c (x.set k q) rs := by
  have mem : ∀ {i : Nat} {r' : RowM}, rs[i]? = some r' → r' ∈ rs := fun hi => List.mem_of_getElem? hi
  refine ⟨h.top.only ho (fun g hg e => h.apart r (mem hr) g e hg), by simpa using h.len, fun i r' p' hr' hx' => ?_, h.apart, h.sep⟩
  rw [List.getElem?_set] at hx'
  by_cases e : k = i
  · subst e
    rw [hr] at hr'
    cases hr'
    have hk : k < x.length := by
      apply Classical.byContradiction; intro hk; simp [hk] at hx'
    simp only [if_true, hk, if_pos, Option.some.injEq] at hx'
    subst hx'
    exact hy
  · rw [if_neg e] at hx'
    refine (h.row i r' p' hr' hx').only ho (fun g hg e' => ?_)
    rcases Nat.lt_or_gt_of_ne e with hlt | hlt
    · exact h.sep k i r r' hlt hr hr' g e' hg
    · exact h.sep i k r' r hlt hr' hr g hg e'

theorem OwnM.empty (w : World) : OwnM (w.alloc (.cells #[] 22)) w.heap.size (some ⟨w.heap.size, 0, none⟩) 0 0 [] [] :=
  ⟨Own.lit w _ rfl (Nat.zero_le _) rfl, rfl, fun i r p h => by simp at h, fun r h => by simp at h, fun i j r r' _ h => by simp at h⟩

/-- New lists of rows, all nil. -/
theorem OwnM.made (w : World) (n : Nat) (hn : n ≤ 9223372036854775807) :
    OwnM (w.alloc (.cells (madeCells #[.slice none 0 0] n) 22)) w.heap.size (some ⟨w.heap.size, 0, none⟩) n n (List.replicate n []) (List.replicate n ((none, 0, 0), [])) := by
  have rep : ∀ {i : Nat} {r : RowM}, (List.replicate n (((none, 0, 0), []) : RowM))[i]? = some r → r = ((none, 0, 0), []) := fun h => by
    rw [List.getElem?_replicate] at h; split at h <;> simp_all
  have nofp : ∀ g, ¬ OwnR.fp (((none, 0, 0), []) : RowM).1.1 (((none, 0, 0), []) : RowM).2 g := fun g h => by
    rcases h with h | ⟨r, hr, _⟩
    · cases h
    · simp at hr
  refine ⟨Own.lit w _ (by rw [size_madeCells]) (by unfold maxLen; omega) (by rw [toList_madeCells_one, List.map_replicate]; rfl), by simp, fun i r p hr hx => ?_, fun r hr g hg => ?_, fun i j r r' _ h1 _ g hg => ?_⟩
  · obtain rfl := rep hr
    rw [List.getElem?_replicate] at hx
    split at hx
    · simp only [Option.some.injEq] at hx; subst hx; exact OwnR.nil_ _ _
    · cases hx
  · obtain ⟨i, hi⟩ := List.getElem?_of_mem hr
    obtain rfl := rep hi
    exact absurd hg (nofp g)
  · obtain rfl := rep h1
    exact absurd hg (nofp g)

theorem OwnM.push {a' : Option Addr} {c' : Nat} (h : OwnM w B a n c x rs) {r : RowM} {p : List (List Int)} (hr : OwnR w B r.1.1 r.1.2.1 r.1.2.2 p r.2)
    (hd : ∀ g, OwnR.fp r.1.1 r.2 g → ¬ OwnM.fp a rs g) (ht : Own 22 RowM.val w' B a' (n + 1) c' (rs ++ [r])) (ho : Only (onlyA a) w w') (hm : Moved w a a') : OwnM w' B a' (n + 1) c' (x ++ [p]) (rs ++ [r]) := by
  have mem : ∀ {i : Nat} {r' : RowM}, rs[i]? = some r' → r' ∈ rs := fun hi => List.mem_of_getElem? hi
  have hl := h.rlen
  have hrow : OwnR w' B r.1.1 r.1.2.1 r.1.2.2 p r.2 := hr.only ho (fun g hg e => hd g hg (.inl e))
  have hold : ∀ r', r' ∈ rs → ∀ g, OwnR.fp r'.1.1 r'.2 g → blk a' ≠ some g := fun r' hr' g hg e => by
    rcases hm with hm | ⟨g', hm, hlt⟩
    · exact h.apart r' hr' g hg (by rw [← hm]; exact e)
    · rw [hm] at e; cases e
      have := (h.lt (.inr ⟨r', hr', hg⟩)).2; omega
  refine ⟨ht, by simp [h.len], fun i r' p' hr' hx' => ?_, fun r' hr' g hg => ?_, fun i j r1 r2 hij h1 h2 g hg1 hg2 => ?_⟩
  · by_cases hi : i < rs.length
    · rw [List.getElem?_append_left hi] at hr'
      rw [List.getElem?_append_left (by omega)] at hx'
      exact (h.row i r' p' hr' hx').only ho (fun g hg e => h.apart r' (mem hr') g hg e)
    · rw [List.getElem?_append_right (by omega)] at hr' hx'
      have hi0 : i - rs.length = 0 := by
        have := (List.getElem?_eq_some_iff.1 hr').1; simp at this; omega
      rw [hi0] at hr'; rw [← hl, hi0] at hx'
      simp at hr' hx'
      subst hr' hx'
      exact hrow
  · rcases List.mem_append.1 hr' with hr' | hr'
    · exact hold r' hr' g hg
    · simp at hr'; subst hr'
      intro e
      rcases hm with hm | ⟨g', hm, hlt⟩
      · exact hd g hg (.inl (by rw [← hm]; exact e))
      · rw [hm] at e; cases e
        have := (hr.lt hg).2; omega
  · have hj : j < (rs ++ [r]).length := (List.getElem?_eq_some_iff.1 h2).1
    simp at hj
    rw [List.getElem?_append_left (by omega)] at h1
    by_cases hj' : j < rs.length
    · rw [List.getElem?_append_left hj'] at h2
      exact h.sep i j r1 r2 hij h1 h2 g hg1 hg2
    · rw [List.getElem?_append_right (by omega)] at h2
      have hj0 : j - rs.length = 0 := by omega
      rw [hj0] at h2
      simp at h2
      subst h2
      exact hd g hg2 (.inr ⟨r1, mem h1, hg1⟩)
end

theorem Try.info_SS : (Try.prog.info? 22).map (fun i => (i.zero, i.size, i.bytes)) = some (some (.slice none 0 0), 1, 24) := by kernel_rfl

def onlyM (a : Option Addr) (rs : List RowM) (g : Nat) : Prop := OwnM.fp a rs g

/-- New lists of rows. -/
def RetM (w : World) (x : List (List (List Int))) (e : Ending) (w' : World) : Prop := ∃ a n c rs, e = .returned (.slice a n c) ∧ OwnM w' w.heap.size a n c x rs ∧ Ext w w'
/-- New lists of rows and a code. -/
def RetMC (w : World) (x : List (List (List Int))) (code : Int) (e : Ending) (w' : World) : Prop := ∃ a n c rs, e = .returned (.tuple #[.slice a n c, .int .i64 code]) ∧ OwnM w' w.heap.size a n c x rs ∧ Ext w w'
theorem RetMC.mk_ {w w' : World} {B : Nat} {a : Option Addr} {n c : Nat} {x x' : List (List (List Int))} {rs : List RowM} {code code' : Int} (h : OwnM w' B a n c x' rs) (hB : w.heap.size ≤ B) (hx : x' = x) (hc : code' = code) (hE : Ext w w') :
    RetMC w x code (.returned (.tuple #[.slice a n c, .int .i64 code'])) w' := by subst hx hc; exact ⟨a, n, c, rs, rfl, h.base hB, hE⟩
theorem RetMC.nil_ {w w' : World} {x : List (List (List Int))} {code code' : Int} (hx : [] = x) (hc : code' = code) (hE : Ext w w') :
    RetMC w x code (.returned (.tuple #[.slice none 0 0, .int .i64 code'])) w' := RetMC.mk_ (OwnM.nil_ _ _) (Nat.le_refl _) hx hc hE

/-- 'append(list, rows)': the rows' value has just been laid. -/
theorem app_M {ops : Array Oper} {rest : List Oper} {o : Oper} {a : Act} {Q : Exit → Act → World → Prop} (hgd : o.guard = none) (s x : Operand)
    (ho : o.op = .call { callee := .builtin .append, args := #[s, x], argTypes := #[43, 43] })
    {w : World} {B : Nat} {ad : Option Addr} {n c : Nat} {y : List (List (List Int))} {rs : List RowM} (hown : OwnM w B ad n c y rs) (hB : B ≤ w.heap.size)
    {ra : Option Addr} {rn rc : Nat} {p : List (List Int)} {rr : List Row} (hr : OwnR w B ra rn rc p rr) (hd : ∀ g, OwnR.fp ra rr g → ¬ OwnM.fp ad rs g)
    {bk : Nat} (hbk : w.heap.size = bk) (hn : n + 1 ≤ 1099511627776) (hs : a.eval s = .slice ad n c) (hx : a.eval x = .slice (some ⟨bk, 0, none⟩) 1 1)
    (h : ∀ ad' c' w', OwnM w' B ad' (n + 1) c' (y ++ [p]) (rs ++ [((ra, rn, rc), rr)]) → Only (onlyA ad) w w' → Moved w ad ad' → wpList Try.prog ops Q rest (a.put o.dst (.slice ad' (n + 1) c')) w') :
    wpList Try.prog ops Q (o :: rest) a (w.alloc (.cells #[.slice ra rn rc] 22)) := by
  subst hbk
  refine wpList_app Try.underlying43 Try.info_SS rfl (by decide) hgd s x ho (hown.top.alloc _) (by simp; omega) [((ra, rn, rc), rr)] rfl (cell_one_new _ _ _) (by intro u hu; simp at hu; subst hu; rfl) hn hs hx ?_
  intro ad' c' w' h1 h2 h3
  have ho2 := Only.trans (Only.of_ext ((Ext.refl w).alloc _)) h2
  have hm2 : Moved w ad ad' := by
    rcases h3 with h3 | ⟨g, h3, h4⟩
    · exact .inl h3
    · exact .inr ⟨g, h3, by simp at h4; omega⟩
  exact h ad' c' w' (OwnM.push (r := ((ra, rn, rc), rr)) hown hr hd h1 ho2 hm2) ho2 hm2
end Go.Proofs.Ytgggbicmmijlnaa
