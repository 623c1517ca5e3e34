/- Rows that are owned wherever their lists stand; lists of rows that grow by parts of others. Conditions: none. -/
import Derived.Test.YtjlfngnmmmaefaaApp
import Derived.Test.YtjlfngnmmmaefaaTl
import Derived.Test.YtjlfngnmmmaefaaOwnL
namespace Go.Proofs.Ytjlfngnmmmaefaa
open Go.RowKit

def IsRow (_ : World) (v : Value) (r : Row) : Prop := v = Row.val r
theorem lastsRow : Lasts IsRow := fun _ _ _ _ _ h => h
/-- A slice whose cells are some rows' values. -/
abbrev RdT (w : World) (a : Option Addr) (n c : Nat) (rs : List Row) : Prop := Rd IsRow w a n c rs
abbrev OwnT (w : World) (B : Nat) (a : Option Addr) (n c : Nat) (rs : List Row) : Prop := Own 26 Row.val w B a n c rs
theorem Own.rdT {w : World} {B : Nat} {a : Option Addr} {n c : Nat} {rs : List Row} (h : OwnT w B a n c rs) : RdT w a n c rs := Own.rd (R := IsRow) (fun _ _ => rfl) h

theorem Own.nil_len {α : Type} {E : TypeId} {f : α → Value} {w : World} {B n c : Nat} {xs : List α} (h : Own E f w B none n c xs) : n = 0 := by
  rcases h.cases with ⟨_, h1, _⟩ | ⟨g, _, h1, _⟩
  · exact h1
  · cases h1

structure RowsO (w : World) (B : Nat) (rs : List Row) (xss : List (List Int)) : Prop where
  len : rs.length = xss.length
  row : ∀ (i : Nat) (r : Row) (xs : List Int), rs[i]? = some r → xss[i]? = some xs → OwnI w B r.1 r.2.1 r.2.2 xs
  sep : ∀ (i j : Nat) (r r' : Row), i < j → rs[i]? = some r → rs[j]? = some r' → ∀ g, blk r.1 = some g → blk r'.1 ≠ some g

section
variable {w w' : World} {B B' : Nat} {a : Option Addr} {n c : Nat} {xss : List (List Int)} {rs : List Row}

theorem RowsO.nil_ (w : World) (B : Nat) : RowsO w B [] [] := ⟨rfl, fun i r xs h => by simp at h, fun i j r r' _ h => by simp at h⟩
theorem OwnR.rowsO (h : OwnR w B a n c xss rs) : RowsO w B rs xss := ⟨h.rlen, h.row, h.sep⟩
theorem RowsO.lt (h : RowsO w B rs xss) {r : Row} (hr : r ∈ rs) {g : Nat} (hg : blk r.1 = some g) : B ≤ g ∧ g < w.heap.size := by
  obtain ⟨i, hi⟩ := List.mem_iff_getElem?.1 hr
  have hx : i < xss.length := by rw [← h.len]; exact (List.getElem?_eq_some_iff.1 hi).1
  exact (h.row i r _ hi (List.getElem?_eq_getElem hx)).lt hg
theorem RowsO.own (h : RowsO w B rs xss) (ht : OwnT w B a n c rs) (hd : ∀ r, r ∈ rs → ∀ g, blk r.1 = some g → blk a ≠ some g) : OwnR w B a n c xss rs :=
  ⟨ht, by rw [ht.len, h.len], h.row, hd, h.sep⟩
theorem RowsO.only {S : Nat → Prop} (h : RowsO w B rs xss) (k : Only S w w') (hS : ∀ r, r ∈ rs → ∀ g, blk r.1 = some g → ¬ S g) : RowsO w' B rs xss :=
  ⟨h.len, fun i r xs h1 h2 => (h.row i r xs h1 h2).only k (fun g hg => hS r (List.mem_of_getElem? h1) g hg), h.sep⟩
theorem RowsO.ext (h : RowsO w B rs xss) (k : Ext w w') : RowsO w' B rs xss := ⟨h.len, fun i r xs h1 h2 => (h.row i r xs h1 h2).ext k, h.sep⟩
theorem RowsO.base (h : RowsO w B rs xss) (k : B' ≤ B) : RowsO w B' rs xss := ⟨h.len, fun i r xs h1 h2 => (h.row i r xs h1 h2).base k, h.sep⟩

theorem sep_iff {rs : List Row} : (∀ (i j : Nat) (r r' : Row), i < j → rs[i]? = some r → rs[j]? = some r' → ∀ g, blk r.1 = some g → blk r'.1 ≠ some g) ↔ rs.Pairwise fun r r' => ∀ g, blk r.1 = some g → blk r'.1 ≠ some g := by
  rw [List.pairwise_iff_getElem]
  constructor
  · intro h i j hi hj hij g
    exact h i j _ _ hij (List.getElem?_eq_getElem hi) (List.getElem?_eq_getElem hj) g
  · intro h i j r r' hij h1 h2 g
    obtain ⟨hi, rfl⟩ := List.getElem?_eq_some_iff.1 h1
    obtain ⟨hj, rfl⟩ := List.getElem?_eq_some_iff.1 h2
    exact h i j hi hj hij g

/-- A further row put in at place k. -/
theorem RowsO.put (h : RowsO w B rs xss) {r : Row} {xs : List Int} (hr : OwnI w B r.1 r.2.1 r.2.2 xs) (hd : ∀ r', r' ∈ rs → ∀ g, blk r.1 = some g → blk r'.1 ≠ some g) {k : Nat} (hk : k ≤ rs.length) :
    RowsO w B (rs.take k ++ r :: rs.drop k) (xss.take k ++ xs :: xss.drop k) := by
  have hl := h.len
  have hl1 : (rs.take k).length = k := by rw [List.length_take]; omega
  have hl2 : (xss.take k).length = k := by rw [List.length_take]; omega
  refine ⟨by simp; omega, fun i r' xs' h1 h2 => ?_, sep_iff.2 ?_⟩
  · by_cases e : i < k
    · rw [List.getElem?_append_left (by omega), List.getElem?_take_of_lt e] at h1 h2
      exact h.row i r' xs' h1 h2
    · rw [List.getElem?_append_right (by omega), hl1] at h1
      rw [List.getElem?_append_right (by omega), hl2] at h2
      obtain ⟨j, hj⟩ : ∃ j, i - k = j := ⟨_, rfl⟩
      rw [hj] at h1 h2
      cases j with
      | zero =>
        cases h1; cases h2
        exact hr
      | succ j =>
        rw [List.getElem?_cons_succ, List.getElem?_drop] at h1 h2
        exact h.row _ r' xs' h1 h2
  · have hs := sep_iff.1 h.sep
    rw [List.pairwise_append, List.pairwise_cons]
    have hs2 : (rs.take k ++ rs.drop k).Pairwise fun r r' => ∀ g, blk r.1 = some g → blk r'.1 ≠ some g := by rw [List.take_append_drop]; exact hs
    rw [List.pairwise_append] at hs2
    refine ⟨hs2.1, ⟨fun r' hr' g hg => hd r' (List.mem_of_mem_drop hr') g hg, hs2.2.1⟩, fun r1 h1 r2 h2 g hg => ?_⟩
    rcases List.mem_cons.1 h2 with rfl | h2
    · exact fun e => hd r1 (List.mem_of_mem_take h1) g e hg
    · exact hs2.2.2 r1 h1 r2 h2 g hg
theorem RowsO.snoc (h : RowsO w B rs xss) {r : Row} {xs : List Int} (hr : OwnI w B r.1 r.2.1 r.2.2 xs) (hd : ∀ r', r' ∈ rs → ∀ g, blk r.1 = some g → blk r'.1 ≠ some g) : RowsO w B (rs ++ [r]) (xss ++ [xs]) := by
  have := h.put hr hd (Nat.le_refl _)
  rw [List.take_length, List.drop_length, h.len, List.take_length, List.drop_length] at this
  exact this

/-- The list of rows reads as their lists. -/
theorem RowsO.rdR (h : RowsO w B rs xss) (ht : RdT w a n c rs) : RdR w a n c xss := by
  refine ⟨by rw [ht.len, h.len], ht.le, ht.max, ht.nil, fun k xs hx => ?_⟩
  have hk : k < rs.length := by rw [h.len]; exact (List.getElem?_eq_some_iff.1 hx).1
  obtain ⟨b, o, v, h1, h2, h3⟩ := ht.get k _ (List.getElem?_eq_getElem hk)
  exact ⟨b, o, v, h1, h2, _, _, _, h3, (h.row k _ xs (List.getElem?_eq_getElem hk) hx).rdI⟩
end

/-- 'append(s, rows...)': rows of another list. -/
theorem app_rows {ops : Array Oper} {rest : List Oper} {o : Oper} {a : Act} {Q : Exit → Act → World → Prop} (hgd : o.guard = none) (s x : Operand)
    (ho : o.op = .call { callee := .builtin .append, args := #[s, x], argTypes := #[22, 22] })
    {w : World} {B : Nat} {ad : Option Addr} {n c : Nat} {rs : List Row} (hown : OwnT w B ad n c rs) (hB : B ≤ w.heap.size)
    {sa : Option Addr} {m d : Nat} {ys : List Row} (hsrc : RdT w sa m d ys) (hn : n + m ≤ 1099511627776) (hs : a.eval s = .slice ad n c) (hx : a.eval x = .slice sa m d)
    (h : ∀ ad' c' w', OwnT w' B ad' (n + m) c' (rs ++ ys) → Only (onlyA ad) w w' → Moved w ad ad' → wpList Try.prog ops Q rest (a.put o.dst (.slice ad' (n + m) c')) w') :
    wpList Try.prog ops Q (o :: rest) a w := by
  have hl := hsrc.len
  cases sa with
  | none =>
    obtain rfl : d = 0 := hsrc.nil rfl
    obtain rfl : m = 0 := by have := hsrc.le; omega
    obtain rfl : ys = [] := List.eq_nil_of_length_eq_zero hl.symm
    obtain ⟨i, hi, _⟩ := Option.map_eq_some_iff.1 Try.info_S
    refine wpList_append_own_none hgd s x _ ho B _ i 1 Try.underlying22 hi _ n _ hs hown.row hx ?_
    exact h ad c w (by rw [List.append_nil]; exact hown) (Only.refl _ _) (.inl rfl)
  | some xa =>
    refine wpList_app Try.underlying22 Try.info_S rfl (by decide) hgd s x ho hown hB ys hl.symm (fun j u hj => ?_) (by intro u hu; obtain ⟨z, _, rfl⟩ := List.mem_map.1 hu; rfl) hn hs hx h
    rw [List.getElem?_map] at hj
    obtain ⟨z, hz, rfl⟩ := Option.map_eq_some_iff.1 hj
    obtain ⟨b, off, v, h1, h2, h3⟩ := hsrc.get j z hz
    cases h1
    cases h3
    have e : (⟨b, off, none⟩ : Addr).add j = ⟨b, off + j, none⟩ := by unfold Addr.add; split <;> simp_all
    rw [e]; exact h2

/-- 'append(s, row)' where the rows are told apart from the list. -/
theorem app_T {ops : Array Oper} {rest : List Oper} {o : Oper} {a : Act} {Q : Exit → Act → World → Prop} (hgd : o.guard = none) (s x : Operand)
    (ho : o.op = .call { callee := .builtin .append, args := #[s, x], argTypes := #[22, 22] })
    {w : World} {B : Nat} {ad : Option Addr} {n c : Nat} {rs : List Row} (hown : OwnT w B ad n c rs) (hB : B ≤ w.heap.size) {ra : Option Addr} {rn rc : Nat}
    {bk : Nat} (hbk : w.heap.size = bk) (hn : n + 1 ≤ 1099511627776) (hs : a.eval s = .slice ad n c) (hx : a.eval x = .slice (some ⟨bk, 0, none⟩) 1 1)
    (h : ∀ ad' c' w', OwnT w' B ad' (n + 1) c' (rs ++ [(ra, rn, rc)]) → Only (onlyA ad) w w' → Moved w ad ad' → wpList Try.prog ops Q rest (a.put o.dst (.slice ad' (n + 1) c')) w') :
    wpList Try.prog ops Q (o :: rest) a (w.alloc (.cells #[.slice ra rn rc] 26)) := by
  subst hbk
  refine wpList_app Try.underlying22 Try.info_S rfl (by decide) hgd s x ho (hown.alloc _) (by simp; omega) [(ra, rn, rc)] rfl (cell_one_new _ _ _) (by intro u hu; simp at hu; subst hu; rfl) hn hs hx ?_
  intro ad' c' w' h1 h2 h3
  refine h ad' c' w' h1 (Only.trans (Only.of_ext ((Ext.refl w).alloc _)) h2) ?_
  rcases h3 with h3 | ⟨g, h3, h4⟩
  · exact .inl h3
  · exact .inr ⟨g, h3, by simp at h4; omega⟩
end Go.Proofs.Ytjlfngnmmmaefaa
