/- Appending one element to what is owned. Conditions: none. -/
import Derived.Test.YtnimmkfkijcbbaaDoorLib
namespace Go.Proofs.YtnimmkfkijcbbaaDoor
open Go.RowKit

theorem Tryd.info_i64 : (Tryd.prog.info? 2).map (fun i => (i.zero, i.size, i.bytes)) = some (some (.int .i64 0), 1, 8) := by kernel_rfl
theorem Tryd.info_S : (Tryd.prog.info? 32).map (fun i => (i.zero, i.size, i.bytes)) = some (some (.slice none 0 0), 1, 24) := by kernel_rfl

def onlyA (a : Option Addr) (g : Nat) : Prop := blk a = some g
def onlyR (a : Option Addr) (rs : List Row) (g : Nat) : Prop := OwnR.fp a rs g

/-- The new slice lies where the old one lay, or in a new block. -/
def Moved (w : World) (a a' : Option Addr) : Prop := blk a' = blk a ∨ ∃ g, blk a' = some g ∧ w.heap.size ≤ g

theorem ownBlock_slice (a : Option Addr) (n c : Nat) : (Value.slice a n c).ownBlock = blk a := by cases a <;> rfl

theorem shape_row {w : World} {B E : Nat} {v : Value} {n : Nat} {ys : List Value} (h : w.ownsRow B E 1 v n ys) : ∃ a c, v = .slice a n c := by
  rcases h.2 with ⟨rfl, rfl⟩ | ⟨g, cap, cur, rfl, _⟩
  · exact ⟨none, 0, rfl⟩
  · exact ⟨_, _, rfl⟩

/-- What an append of news has done. -/
theorem run_app {α : Type} {E T : TypeId} {f : α → Value} {z : Value} {bytes : Nat} (hT : Tryd.prog.underlying T = some (.slice E)) (hinfo : (Tryd.prog.info? E).map (fun i => (i.zero, i.size, i.bytes)) = some (some z, 1, bytes)) (hz : z.cells.size = 1)
    (w : World) (B : Nat) (ad : Option Addr) (n c : Nat) (xs : List α) (hown : Own E f w B ad n c xs) (hB : B ≤ w.heap.size)
    (x : Addr) (m d : Nat) (news : List α) (hm : news.length = m) (hnews : ∀ j u, (news.map f)[j]? = some u → w.cell? (x.add j) = some u) (h1 : ∀ u ∈ news.map f, u.oneCell' = true)
    (hn : n + m ≤ 1099511627776) (hby : bytes ≤ 100) (ty : TypeId) :
    ∃ ad' c' w', (Builtin.append_ #[T, T] ty #[.slice ad n c, .slice (some x) m d]).run Tryd.prog w = .ok (.slice ad' (n + m) c') w' ∧ Own E f w' B ad' (n + m) c' (xs ++ news) ∧ Only (onlyA ad) w w' ∧ Moved w ad ad' := by
  obtain ⟨i, hi, hzz⟩ := Option.map_eq_some_iff.1 hinfo
  simp only [Prod.mk.injEq] at hzz
  obtain ⟨h0, hs, hb⟩ := hzz
  have hbytes : (n + m) * bytes ≤ 140737488355328 := by
    have := Nat.mul_le_mul hn hby; omega
  obtain ⟨v', w', hr, ho, hg, _⟩ := run_append_own w B T ty E i z 1 bytes hT hi h0 hs hb hz (by decide) _ n _ hown.row x m d (news.map f) (by simp [hm]) hnews h1 (by unfold maxLen; omega) hbytes hB
  obtain ⟨ad', c', rfl⟩ := shape_row ho
  refine ⟨ad', c', w', hr, Own.of_row (by rw [List.map_append]; exact ho), ?_, ?_⟩
  · exact ⟨hg.os, hg.tape, hg.output, hg.size, fun b hb hs => hg.block b hb (fun e => hs (by rw [ownBlock_slice] at e; exact e.symm))⟩
  · unfold Moved
    by_cases hmv : blk ad' = blk ad
    · exact .inl hmv
    · right
      have hO : Own E f w' B ad' (n + m) c' (xs ++ news) := Own.of_row (by rw [List.map_append]; exact ho)
      have hrun := hr
      rcases hown.cases with ⟨rfl, rfl, rfl, rfl⟩ | ⟨g, cur, rfl, h2, h3, h4, h5, h6, h7⟩
      · by_cases hm0 : m = 0
        · subst hm0
          have : news = [] := List.eq_nil_of_length_eq_zero hm
          subst this
          simp [Builtin.append_, run_underlying hT, sizeOf, typeInfo, hi, Builtin.lenOf, Builtin.firstCells, loadCells, loadCellsFrom, hs] at hrun
          obtain ⟨⟨rfl, _⟩, _⟩ := hrun
          exact absurd rfl hmv
        · have := run_append_nil (P := Tryd.prog) w T ty E i z hT hi h0 x m d (news.map f) (by simp [hm, hs]) hnews (by omega) (by omega) (by rw [hb]; simp only [Nat.zero_add] at hbytes; omega)
          rw [hrun] at this
          simp only [Result.ok.injEq, Value.slice.injEq] at this
          obtain ⟨⟨rfl, _⟩, _⟩ := this
          exact ⟨_, rfl, Nat.le_refl _⟩
      · by_cases hroom : n + m ≤ c
        · have := run_append_room (P := Tryd.prog) w T ty E i hT hi g n c cur h3 x m d (news.map f) (by simp [hm, hs]) hnews h1 hroom (by rw [hs]; simp [hm]; omega)
          rw [hrun] at this
          simp only [Result.ok.injEq, Value.slice.injEq] at this
          obtain ⟨⟨rfl, _⟩, _⟩ := this
          exact absurd rfl hmv
        · have holds : ∀ j u, (xs.map f)[j]? = some u → w.cell? ((⟨g, 0, none⟩ : Addr).add j) = some u := hown.row.cells (g := g) rfl
          have := run_append_grow (P := Tryd.prog) w T ty E i z hT hi h0 ⟨g, 0, none⟩ n c (xs.map f) (by simp [hs, hown.len]) holds x m d (news.map f) (by simp [hm, hs]) hnews (by omega) (by omega) (growslice_fits (by omega) (by rw [hb]; exact hbytes))
          rw [hrun] at this
          simp only [Result.ok.injEq, Value.slice.injEq] at this
          obtain ⟨⟨rfl, _⟩, _⟩ := this
          exact ⟨_, rfl, Nat.le_refl _⟩


/-- 'append(s, x...)' where s is the call's own. -/
theorem wpList_app {α : Type} {E T : TypeId} {f : α → Value} {z : Value} {bytes : Nat} (hT : Tryd.prog.underlying T = some (.slice E)) (hinfo : (Tryd.prog.info? E).map (fun i => (i.zero, i.size, i.bytes)) = some (some z, 1, bytes)) (hz : z.cells.size = 1) (hby : bytes ≤ 100)
    {ops : Array Oper} {rest : List Oper} {o : Oper} {a : Act} {Q : Exit → Act → World → Prop} (hgd : o.guard = none) (s x : Operand)
    (ho : o.op = .call { callee := .builtin .append, args := #[s, x], argTypes := #[T, T] })
    {w : World} {B : Nat} {ad : Option Addr} {n c : Nat} {xs : List α} (hown : Own E f w B ad n c xs) (hB : B ≤ w.heap.size)
    {xa : Addr} {m d : Nat} (news : List α) (hm : news.length = m) (hnews : ∀ j u, (news.map f)[j]? = some u → w.cell? (xa.add j) = some u) (h1 : ∀ u ∈ news.map f, u.oneCell' = true)
    (hn : n + m ≤ 1099511627776) (hs : a.eval s = .slice ad n c) (hx : a.eval x = .slice (some xa) m d)
    (h : ∀ ad' c' w', Own E f w' B ad' (n + m) c' (xs ++ news) → Only (onlyA ad) w w' → Moved w ad ad' → wpList Tryd.prog ops Q rest (a.put o.dst (.slice ad' (n + m) c')) w') :
    wpList Tryd.prog ops Q (o :: rest) a w := by
  refine wpList_plain hgd fun K hK => ?_
  obtain ⟨ad', c', w', hr, h2, h3, h4⟩ := run_app hT hinfo hz w B ad n c xs hown hB xa m d news hm hnews h1 hn hby o.type
  unfold Oper.wp execOp
  simp only [ho, resolve, invoke, builtin, Sem.run_bind, Sem.run_pure, Result.andThen_ok, List.map_toArray, List.map_cons, List.map_nil, hs, hx, hr]
  exact hK _ _ (h ad' c' w' h2 h3 h4)

/-- 'append(s, x)' on integers: the new element has just been laid. -/
theorem app_I {ops : Array Oper} {rest : List Oper} {o : Oper} {a : Act} {Q : Exit → Act → World → Prop} (hgd : o.guard = none) (s x : Operand)
    (ho : o.op = .call { callee := .builtin .append, args := #[s, x], argTypes := #[32, 32] })
    {w : World} {B : Nat} {ad : Option Addr} {n c : Nat} {xs : List Int} (hown : OwnI w B ad n c xs) (hB : B ≤ w.heap.size) {v : Int}
    {bk : Nat} (hbk : w.heap.size = bk) (hn : n + 1 ≤ 1099511627776) (hs : a.eval s = .slice ad n c) (hx : a.eval x = .slice (some ⟨bk, 0, none⟩) 1 1)
    (h : ∀ ad' c' w', OwnI w' B ad' (n + 1) c' (xs ++ [v]) → Only (onlyA ad) w w' → Moved w ad ad' → wpList Tryd.prog ops Q rest (a.put o.dst (.slice ad' (n + 1) c')) w') :
    wpList Tryd.prog ops Q (o :: rest) a (w.alloc (.cells #[.int .i64 v] 2)) := by
  subst hbk
  refine wpList_app Tryd.underlying32 Tryd.info_i64 rfl (by decide) hgd s x ho (hown.alloc _) (by simp; omega) [v] rfl (cell_one_new _ _ _) (by intro u hu; simp at hu; subst hu; rfl) hn hs hx ?_
  intro ad' c' w' h1 h2 h3
  refine h ad' c' w' h1 (Only.trans (Only.of_ext ((Ext.refl w).alloc _)) h2) ?_
  rcases h3 with h3 | ⟨g, h3, h4⟩
  · exact .inl h3
  · exact .inr ⟨g, h3, by simp at h4; omega⟩

theorem OwnR.push {w w' : World} {B : Nat} {a a' : Option Addr} {n c c' : Nat} {xss : List (List Int)} {rs : List Row} (h : OwnR w B a n c xss rs) {r : Row} {xs : List Int} (hr : OwnI w B r.1 r.2.1 r.2.2 xs)
    (hd : ∀ g, blk r.1 = some g → ¬ OwnR.fp a rs g) (ht : Own 32 Row.val w' B a' (n + 1) c' (rs ++ [r])) (ho : Only (onlyA a) w w') (hm : Moved w a a') : OwnR w' B a' (n + 1) c' (xss ++ [xs]) (rs ++ [r]) := by
  have mem : ∀ {i : Nat} {r' : Row}, rs[i]? = some r' → r' ∈ rs := fun hi => List.mem_of_getElem? hi
  have hl := h.rlen
  have hrow : OwnI w' B r.1 r.2.1 r.2.2 xs := hr.only ho (fun g hg e => hd g hg (.inl e))
  have hold : ∀ r', r' ∈ rs → ∀ g, blk r'.1 = some g → blk a' ≠ some g := fun r' hr' g hg e => by
    rcases hm with hm | ⟨g', hm, hlt⟩
    · exact h.apart r' hr' g hg (by rw [← hm]; exact e)
    · rw [hm] at e; cases e
      have := (h.lt (.inr ⟨r', hr', hg⟩)).2; omega
  refine ⟨ht, by simp [h.len], fun i r' xs' hr' hx' => ?_, fun r' hr' g hg => ?_, fun i j r1 r2 hij h1 h2 g hg1 hg2 => ?_⟩
  · by_cases hi : i < rs.length
    · rw [List.getElem?_append_left hi] at hr'
      rw [List.getElem?_append_left (by omega)] at hx'
      exact (h.row i r' xs' hr' hx').only ho (fun g hg e => h.apart r' (mem hr') g hg e)
    · rw [List.getElem?_append_right (by omega)] at hr' hx'
      have hi0 : i - rs.length = 0 := by
        have := (List.getElem?_eq_some_iff.1 hr').1; simp at this; omega
      rw [hi0] at hr'; rw [← hl, hi0] at hx'
      simp at hr' hx'
      subst hr' hx'
      exact hrow
  · rcases List.mem_append.1 hr' with hr' | hr'
    · exact hold r' hr' g hg
    · simp at hr'; subst hr'
      intro e
      rcases hm with hm | ⟨g', hm, hlt⟩
      · exact hd g hg (.inl (by rw [← hm]; exact e))
      · rw [hm] at e; cases e
        have := (hr.lt hg).2; omega
  · have hj : j < (rs ++ [r]).length := (List.getElem?_eq_some_iff.1 h2).1
    simp at hj
    rw [List.getElem?_append_left (by omega)] at h1
    by_cases hj' : j < rs.length
    · rw [List.getElem?_append_left hj'] at h2
      exact h.sep i j r1 r2 hij h1 h2 g hg1 hg2
    · rw [List.getElem?_append_right (by omega)] at h2
      have hj0 : j - rs.length = 0 := by omega
      rw [hj0] at h2
      simp at h2
      subst h2
      exact hd g hg2 (.inr ⟨r1, mem h1, hg1⟩)

/-- 'append(rows, row)': the row's value has just been laid. -/
theorem app_S {ops : Array Oper} {rest : List Oper} {o : Oper} {a : Act} {Q : Exit → Act → World → Prop} (hgd : o.guard = none) (s x : Operand)
    (ho : o.op = .call { callee := .builtin .append, args := #[s, x], argTypes := #[22, 22] })
    {w : World} {B : Nat} {ad : Option Addr} {n c : Nat} {xss : List (List Int)} {rs : List Row} (hown : OwnR w B ad n c xss rs) (hB : B ≤ w.heap.size)
    {ra : Option Addr} {rn rc : Nat} {xs : List Int} (hr : OwnI w B ra rn rc xs) (hd : ∀ g, blk ra = some g → ¬ OwnR.fp ad rs g)
    {bk : Nat} (hbk : w.heap.size = bk) (hn : n + 1 ≤ 1099511627776) (hs : a.eval s = .slice ad n c) (hx : a.eval x = .slice (some ⟨bk, 0, none⟩) 1 1)
    (h : ∀ ad' c' w', OwnR w' B ad' (n + 1) c' (xss ++ [xs]) (rs ++ [(ra, rn, rc)]) → Only (onlyA ad) w w' → Moved w ad ad' → wpList Tryd.prog ops Q rest (a.put o.dst (.slice ad' (n + 1) c')) w') :
    wpList Tryd.prog ops Q (o :: rest) a (w.alloc (.cells #[.slice ra rn rc] 32)) := by
  subst hbk
  refine wpList_app Tryd.underlying22 Tryd.info_S rfl (by decide) hgd s x ho (hown.top.alloc _) (by simp; omega) [(ra, rn, rc)] rfl (cell_one_new _ _ _) (by intro u hu; simp at hu; subst hu; rfl) hn hs hx ?_
  intro ad' c' w' h1 h2 h3
  have ho2 := Only.trans (Only.of_ext ((Ext.refl w).alloc _)) h2
  have hm2 : Moved w ad ad' := by
    rcases h3 with h3 | ⟨g, h3, h4⟩
    · exact .inl h3
    · exact .inr ⟨g, h3, by simp at h4; omega⟩
  exact h ad' c' w' (OwnR.push (r := (ra, rn, rc)) hown hr hd h1 ho2 hm2) ho2 hm2

/-- 'append(s, x...)' on integers, x a list that can be read (nil too). -/
theorem app_list {ops : Array Oper} {rest : List Oper} {o : Oper} {a : Act} {Q : Exit → Act → World → Prop} (hgd : o.guard = none) (s x : Operand)
    (ho : o.op = .call { callee := .builtin .append, args := #[s, x], argTypes := #[32, 32] })
    {w : World} {B : Nat} {ad : Option Addr} {n c : Nat} {xs : List Int} (hown : OwnI w B ad n c xs) (hB : B ≤ w.heap.size)
    {sa : Option Addr} {m d : Nat} {ys : List Int} (hsrc : RdI w sa m d ys) (hn : n + m ≤ 1099511627776) (hs : a.eval s = .slice ad n c) (hx : a.eval x = .slice sa m d)
    (h : ∀ ad' c' w', OwnI w' B ad' (n + m) c' (xs ++ ys) → Only (onlyA ad) w w' → Moved w ad ad' → wpList Tryd.prog ops Q rest (a.put o.dst (.slice ad' (n + m) c')) w') :
    wpList Tryd.prog ops Q (o :: rest) a w := by
  have hl := hsrc.len
  cases sa with
  | none =>
    obtain rfl : d = 0 := hsrc.nil rfl
    obtain rfl : m = 0 := by have := hsrc.le; omega
    obtain rfl : ys = [] := List.eq_nil_of_length_eq_zero hl.symm
    obtain ⟨i, hi, _⟩ := Option.map_eq_some_iff.1 Tryd.info_i64
    refine wpList_append_own_none hgd s x _ ho B _ i 1 Tryd.underlying32 hi _ n _ hs hown.row hx ?_
    exact h ad c w (by rw [List.append_nil]; exact hown) (Only.refl _ _) (.inl rfl)
  | some xa =>
    refine wpList_app Tryd.underlying32 Tryd.info_i64 rfl (by decide) hgd s x ho hown hB ys hl.symm (fun j u hj => ?_) (by intro u hu; obtain ⟨z, _, rfl⟩ := List.mem_map.1 hu; rfl) hn hs hx h
    rw [List.getElem?_map] at hj
    obtain ⟨z, hz, rfl⟩ := Option.map_eq_some_iff.1 hj
    obtain ⟨b, off, v, h1, h2, h3⟩ := hsrc.get j z hz
    cases h1
    cases h3
    have e : (⟨b, off, none⟩ : Addr).add j = ⟨b, off + j, none⟩ := by unfold Addr.add; split <;> simp_all
    rw [e]; exact h2

/-- What is written by an append that began after w0 is younger than w0. -/
theorem Ext.app {w0 w w' : World} {B : Nat} {ad : Option Addr} {α : Type} {E : TypeId} {f : α → Value} {n c : Nat} {xs : List α} (h : Ext w0 w) (hown : Own E f w B ad n c xs) (k : Only (onlyA ad) w w') (hB : w0.heap.size ≤ B) : Ext w0 w' :=
  h.only k (fun b hb => by have := (hown.lt hb).1; omega)

/-- An append of one integer inside a region that draws its order. -/
theorem step_app_I {ops : Array Oper} {o : Oper} {a : Act} {W : World} {K : Act → World → Prop} {Q : Exit → Act → World → Prop} {E : Prop} (hgd : o.guard = none) (s x : Operand)
    (ho : o.op = .call { callee := .builtin .append, args := #[s, x], argTypes := #[32, 32] })
    {B : Nat} {ad : Option Addr} {n c : Nat} {xs : List Int} (hown : OwnI W B ad n c xs) (hB : B ≤ W.heap.size) {b : Nat} {v : Int} (hv : W.cell? ⟨b, 0, none⟩ = some (.int .i64 v))
    (hn : n + 1 ≤ 1099511627776) (hs : a.eval s = .slice ad n c) (hx : a.eval x = .slice (some ⟨b, 0, none⟩) 1 1)
    (h : ∀ ad' c' w', OwnI w' B ad' (n + 1) c' (xs ++ [v]) → Only (onlyA ad) W w' → Moved W ad ad' → K (a.put o.dst (.slice ad' (n + 1) c')) w') :
    if Region.wanted o (yielded ops a.tmps) = true then Oper.wp Tryd.prog o a W K Q else E := by
  have hw : Region.wanted o (yielded ops a.tmps) = true := by simp [Region.wanted, hgd]
  rw [if_pos hw]
  have hnews : ∀ j u, ([v].map (Value.int .i64))[j]? = some u → W.cell? ((⟨b, 0, none⟩ : Addr).add j) = some u := by
    intro j u hu
    cases j with
    | zero => simp at hu; subst hu; exact hv
    | succ j => simp at hu
  obtain ⟨ad', c', w', hr, h2, h3, h4⟩ := run_app Tryd.underlying32 Tryd.info_i64 rfl W B ad n c xs hown hB ⟨b, 0, none⟩ 1 1 [v] rfl hnews (by intro u hu; simp at hu; subst hu; rfl) hn (by decide) o.type
  unfold Oper.wp execOp
  simp only [ho, resolve, invoke, builtin, Sem.run_bind, Sem.run_pure, Result.andThen_ok, List.map_toArray, List.map_cons, List.map_nil, hs, hx, hr]
  exact h ad' c' w' h2 h3 h4

end Go.Proofs.YtnimmkfkijcbbaaDoor
