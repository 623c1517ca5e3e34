/- Words for memory: what a slice reads as, what a call owns, and how both last. Conditions: none. -/
import Derived.Test.YtnimmkfkijcbbaaDoorChecked
import Derived.WalkKit
import Derived.Deep.LoopGhost
import Derived.Deep.OwnRows
import Derived.Deep.Cut
import Derived.Deep.Light
import Derived.Deep.QuietTactic
import Derived.BigQuiet
import Derived.Lib.Hide
import Derived.WalkLawsBesides
import Derived.WalkSpells
import Derived.Laws.AppendOwnNone
import Derived.StillTailTactics
import Derived.Deep.RegionHeld3
namespace Go.Proofs.YtnimmkfkijcbbaaDoor
open Go.RowKit

/-! ### Worlds -/

theorem ret_int {a b : Int} (h : a = b) : Ending.returned (.int .i64 a) = .returned (.int .i64 b) := by rw [h]
theorem ret_bool {a b : Bool} (h : a = b) : Ending.returned (.bool a) = .returned (.bool b) := by rw [h]
theorem ret_slice {a b : Option Addr} {n m c d : Nat} (h : a = b) (h1 : n = m) (h2 : c = d) : Ending.returned (.slice a n c) = .returned (.slice b m d) := by rw [h, h1, h2]

/-- Only draws have been made. -/
def Q (w w' : World) : Prop := ∃ n, w' = w.drewN n

/-- All that was there is as it was. -/
def Ext (w w' : World) : Prop := Below w.heap.size w w'

theorem Q.refl (w : World) : Q w w := ⟨0, rfl⟩
theorem Ext.refl (w : World) : Ext w w := Below.refl _ _
theorem Ext.size {w w' : World} (h : Ext w w') : w.heap.size ≤ w'.heap.size := Below.size h
theorem Ext.trans {a b c : World} (h : Ext a b) (k : Ext b c) : Ext a c := Below.trans h (Below.mono k h.size)
theorem Ext.drew {w w' : World} (h : Ext w w') : Ext w w'.drew := Below.drew h
theorem Ext.drewN {w w' : World} (h : Ext w w') (n : Nat) : Ext w (w'.drewN n) := below_drewN h n
theorem Ext.alloc {w w' : World} (h : Ext w w') (o : Obj) : Ext w (w'.alloc o) := Below.alloc h h.size o
theorem Ext.setCell {w w' : World} (h : Ext w w') {p : Addr} (hp : w.heap.size ≤ p.block) (u : Value) : Ext w (w'.setCell p u) := Below.setCell h hp u
theorem Ext.below {w w' : World} (h : Ext w w') {B : Nat} (hB : B ≤ w.heap.size) : Below B w w' := Below.mono h hB
theorem Ext.of_below {w w1 w2 : World} {B : Nat} (h : Ext w w1) (k : Below B w1 w2) (hB : w.heap.size ≤ B) : Ext w w2 := Below.trans h (Below.mono k hB)
theorem Q.drewN {w w' : World} (h : Q w w') (n : Nat) : Q w (w'.drewN n) := by obtain ⟨m, rfl⟩ := h; exact ⟨m + n, World.drewN_drewN _ _ _⟩
theorem Q.drew {w w' : World} (h : Q w w') : Q w w'.drew := h.drewN 1
theorem Q.trans {a b c : World} (h : Q a b) (k : Q b c) : Q a c := by obtain ⟨m, rfl⟩ := k; exact h.drewN m
theorem Q.ext {w w' : World} (h : Q w w') : Ext w w' := by obtain ⟨n, rfl⟩ := h; exact (Ext.refl w).drewN n
theorem Ext.grown {w a b : World} {row : Option Nat} (h : Ext w a) (hg : a.grownBy b row) (hr : ∀ k, row = some k → w.heap.size ≤ k) : Ext w b := Below.grown h hg h.size hr
theorem Ext.cell {w w' : World} (h : Ext w w') {p : Addr} {v : Value} (hv : w.cell? p = some v) : w'.cell? p = some v := by
  rw [Below.cell h (World.block_lt_of_cell? _ _ hv)]; exact hv

/-- A callee that draws nothing, met inside a region that draws. -/
theorem quiet_same {f : FuncId} {args : Array Value} {w : World} {n : Nat} {v : Value} (h : Calls Tryd.prog f args (w.drewN n) fun e w' => e = .returned v ∧ w.drewN n = w') :
    Calls Tryd.prog f args (w.drewN n) fun e w'' => e = .returned v ∧ ∃ m, w'' = w.drewN m := h.mono fun _ _ ⟨he, hm⟩ => ⟨he, n, hm.symm⟩
theorem quiet_q {f : FuncId} {args : Array Value} {w : World} {n : Nat} {v : Value} (h : Calls Tryd.prog f args (w.drewN n) fun e w' => e = .returned v ∧ Q (w.drewN n) w') :
    Calls Tryd.prog f args (w.drewN n) fun e w'' => e = .returned v ∧ ∃ m, w'' = w.drewN m := Calls.quiet_of h

/-! ### Reading -/

/-- A slice value reads as a list, each cell by its own relation. -/
structure Rd {α : Type} (R : World → Value → α → Prop) (w : World) (a : Option Addr) (n c : Nat) (xs : List α) : Prop where
  len : n = xs.length
  le : n ≤ c
  max : c ≤ 9223372036854775807
  nil : a = none → c = 0
  get : ∀ k x, xs[k]? = some x → ∃ b off v, a = some ⟨b, off, none⟩ ∧ w.cell? ⟨b, off + k, none⟩ = some v ∧ R w v x

def IsI (_ : World) (v : Value) (x : Int) : Prop := v = .int .i64 x
def IsB (_ : World) (v : Value) (x : Bool) : Prop := v = .bool x
def IsS {α : Type} (R : World → Value → α → Prop) (w : World) (v : Value) (xs : List α) : Prop := ∃ a n c, v = .slice a n c ∧ Rd R w a n c xs

abbrev RdI := Rd IsI
abbrev RdB := Rd IsB
abbrev RdR := Rd (IsS IsI)
abbrev RdM := Rd (IsS (IsS IsI))

/-- The relation lasts. -/
def Lasts {α : Type} (R : World → Value → α → Prop) : Prop := ∀ w w' v x, Ext w w' → R w v x → R w' v x

theorem Rd.ext {α : Type} {R : World → Value → α → Prop} (hR : Lasts R) {w w' : World} {a : Option Addr} {n c : Nat} {xs : List α} (h : Rd R w a n c xs) (k : Ext w w') : Rd R w' a n c xs :=
  ⟨h.len, h.le, h.max, h.nil, fun i x hx => let ⟨b, off, v, h1, h2, h3⟩ := h.get i x hx; ⟨b, off, v, h1, k.cell h2, hR _ _ _ _ k h3⟩⟩

theorem lastsI : Lasts IsI := fun _ _ _ _ _ h => h
theorem lastsB : Lasts IsB := fun _ _ _ _ _ h => h
theorem lastsS {α : Type} {R : World → Value → α → Prop} (hR : Lasts R) : Lasts (IsS R) := fun _ _ _ _ k ⟨a, n, c, h1, h2⟩ => ⟨a, n, c, h1, h2.ext hR k⟩
theorem lastsR : Lasts (IsS IsI) := lastsS lastsI
theorem lastsM : Lasts (IsS (IsS IsI)) := lastsS lastsR

theorem RdI.ext {w w' : World} {a : Option Addr} {n c : Nat} {xs : List Int} (h : RdI w a n c xs) (k : Ext w w') : RdI w' a n c xs := Rd.ext lastsI h k
theorem RdB.ext {w w' : World} {a : Option Addr} {n c : Nat} {xs : List Bool} (h : RdB w a n c xs) (k : Ext w w') : RdB w' a n c xs := Rd.ext lastsB h k
theorem RdR.ext {w w' : World} {a : Option Addr} {n c : Nat} {xs : List (List Int)} (h : RdR w a n c xs) (k : Ext w w') : RdR w' a n c xs := Rd.ext lastsR h k
theorem RdM.ext {w w' : World} {a : Option Addr} {n c : Nat} {xs : List (List (List Int))} (h : RdM w a n c xs) (k : Ext w w') : RdM w' a n c xs := Rd.ext lastsM h k

/-- Element k of a list of integers. -/
theorem RdI.at_ {w : World} {a : Option Addr} {n c : Nat} {xs : List Int} (h : RdI w a n c xs) {k : Nat} (hk : k < n) :
    ∃ b off v, a = some ⟨b, off, none⟩ ∧ w.cell? ⟨b, off + k, none⟩ = some (.int .i64 v) ∧ Hid (xs[k]? = some v) := by
  have hk' : k < xs.length := by have := h.len; omega
  obtain ⟨b, off, v, h1, h2, h3⟩ := h.get k xs[k] (List.getElem?_eq_getElem hk')
  cases h3
  exact ⟨b, off, _, h1, h2, List.getElem?_eq_getElem hk'⟩

theorem RdB.at_ {w : World} {a : Option Addr} {n c : Nat} {xs : List Bool} (h : RdB w a n c xs) {k : Nat} (hk : k < n) :
    ∃ b off v, a = some ⟨b, off, none⟩ ∧ w.cell? ⟨b, off + k, none⟩ = some (.bool v) ∧ Hid (xs[k]? = some v) := by
  have hk' : k < xs.length := by have := h.len; omega
  obtain ⟨b, off, v, h1, h2, h3⟩ := h.get k xs[k] (List.getElem?_eq_getElem hk')
  cases h3
  exact ⟨b, off, _, h1, h2, List.getElem?_eq_getElem hk'⟩

theorem RdR.at_ {w : World} {a : Option Addr} {n c : Nat} {xss : List (List Int)} (h : RdR w a n c xss) {k : Nat} (hk : k < n) :
    ∃ b off ai ni ci xs, a = some ⟨b, off, none⟩ ∧ w.cell? ⟨b, off + k, none⟩ = some (.slice ai ni ci) ∧ RdI w ai ni ci xs ∧ Hid (xss[k]? = some xs) := by
  have hk' : k < xss.length := by have := h.len; omega
  obtain ⟨b, off, v, h1, h2, ai, ni, ci, rfl, h3⟩ := h.get k xss[k] (List.getElem?_eq_getElem hk')
  exact ⟨b, off, ai, ni, ci, _, h1, h2, h3, List.getElem?_eq_getElem hk'⟩

/-! ### Owning -/

/-- A slice of the call's own, from block B on, whose cells hold 'f x'. -/
structure Own {α : Type} (E : TypeId) (f : α → Value) (w : World) (B : Nat) (a : Option Addr) (n c : Nat) (xs : List α) : Prop where
  len : n = xs.length
  row : w.ownsRow B E 1 (.slice a n c) n (xs.map f)

def blk (a : Option Addr) : Option Nat := a.map (·.block)
theorem blk_eq {b o : Nat} {s : Option Nat} {g : Nat} (h : blk (some ⟨b, o, s⟩) = some g) : b = g := Option.some.inj h

section
variable {α : Type} {E : TypeId} {f : α → Value} {w w' : World} {B : Nat} {a : Option Addr} {n c : Nat} {xs : List α}

theorem Own.cases (h : Own E f w B a n c xs) : (a = none ∧ n = 0 ∧ c = 0 ∧ xs = []) ∨
    ∃ g cur, a = some ⟨g, 0, none⟩ ∧ B ≤ g ∧ w.heap[g]? = some (.cells cur E (0, 0)) ∧ n ≤ c ∧ c ≤ maxLen ∧ cur.size = c ∧ cur.toList.take n = xs.map f := by
  obtain ⟨hl, hx, h⟩ := h
  rcases h with ⟨h1, h2⟩ | ⟨g, cap, cur, h1, h2, h3, h4, h5, h6, h7⟩
  · simp only [Value.slice.injEq] at h1
    obtain ⟨rfl, _, rfl⟩ := h1
    subst h2
    exact .inl ⟨rfl, rfl, rfl, List.eq_nil_of_length_eq_zero hl.symm⟩
  · simp only [Value.slice.injEq, true_and] at h1
    obtain ⟨rfl, rfl⟩ := h1
    exact .inr ⟨g, cur, rfl, h2, h3, h4, h5, by simpa using h6, by simpa using h7⟩

theorem Own.nil_ (E : TypeId) (f : α → Value) (w : World) (B : Nat) : Own E f w B none 0 0 [] := ⟨rfl, World.ownsRow_nil _ _ _ _⟩

theorem Own.of_row (h : w.ownsRow B E 1 (.slice a n c) n (xs.map f)) : Own E f w B a n c xs := ⟨by have := h.1; simpa using this.symm, h⟩

theorem Own.mk_ {g : Nat} {cur : Array Value} (hl : n = xs.length) (hB : B ≤ g) (hg : w.heap[g]? = some (.cells cur E (0, 0))) (hn : n ≤ c) (hc : c ≤ maxLen) (hs : cur.size = c) (ht : cur.toList.take n = xs.map f) :
    Own E f w B (some ⟨g, 0, none⟩) n c xs := ⟨hl, by simp [hl], .inr ⟨g, c, cur, rfl, hB, hg, hn, hc, by simpa using hs, by simpa using ht⟩⟩

/-- What is owned lies in blocks from B on that are there. -/
theorem Own.lt (h : Own E f w B a n c xs) {g : Nat} (hg : blk a = some g) : B ≤ g ∧ g < w.heap.size := by
  have := h.row.lt g (by cases a <;> simp_all [blk, Value.ownBlock])
  exact this

theorem Own.keep (h : Own E f w B a n c xs) (hk : ∀ g, blk a = some g → w'.heap[g]? = w.heap[g]?) : Own E f w' B a n c xs := by
  rcases h.cases with ⟨rfl, rfl, rfl, rfl⟩ | ⟨g, cur, rfl, h2, h3, h4, h5, h6, h7⟩
  · exact Own.nil_ _ _ _ _
  · exact Own.mk_ h.len h2 (by rw [hk g rfl]; exact h3) h4 h5 h6 h7

theorem Own.ext (h : Own E f w B a n c xs) (k : Ext w w') : Own E f w' B a n c xs := h.keep fun g hg => Below.block k g (h.lt hg).2

theorem Own.base {B' : Nat} (h : Own E f w B a n c xs) (k : B' ≤ B) : Own E f w B' a n c xs := by
  rcases h.cases with ⟨rfl, rfl, rfl, rfl⟩ | ⟨g, cur, rfl, h2, h3, h4, h5, h6, h7⟩
  · exact Own.nil_ _ _ _ _
  · exact Own.mk_ h.len (by omega) h3 h4 h5 h6 h7

theorem Own.at_ (h : Own E f w B a n c xs) {k : Nat} (hk : k < n) :
    ∃ g x, a = some ⟨g, 0, none⟩ ∧ B ≤ g ∧ w.cell? ⟨g, k, none⟩ = some (f x) ∧ w.frozen? ⟨g, k, none⟩ = false ∧ Hid (xs[k]? = some x) := by
  have hl := h.len
  rcases h.cases with ⟨rfl, rfl, rfl, rfl⟩ | ⟨g, cur, rfl, h2, h3, h4, h5, h6, h7⟩
  · omega
  · have hk' : k < xs.length := by omega
    refine ⟨g, xs[k], rfl, h2, ?_, ?_, List.getElem?_eq_getElem hk'⟩
    · have := congrArg (·[k]?) h7
      simp [List.getElem?_take, hk, hk'] at this
      simp [World.cell?, h3, this]
    · simp [World.frozen?, h3]

theorem Own.le (h : Own E f w B a n c xs) : n ≤ c ∧ c ≤ 9223372036854775807 := by
  rcases h.cases with ⟨rfl, rfl, rfl, rfl⟩ | ⟨g, cur, rfl, h2, h3, h4, h5, h6, h7⟩
  · omega
  · unfold maxLen at h5; omega

/-- What is owned can be read. -/
theorem Own.rd {R : World → Value → α → Prop} (hR : ∀ x, x ∈ xs → R w (f x) x) (h : Own E f w B a n c xs) : Rd R w a n c xs := by
  refine ⟨h.len, h.le.1, h.le.2, fun ha => ?_, fun k x hx => ?_⟩
  · rcases h.cases with ⟨_, _, rfl, _⟩ | ⟨g, cur, rfl, _⟩
    · rfl
    · cases ha
  · have hk : k < xs.length := (List.getElem?_eq_some_iff.1 hx).1
    obtain ⟨g, y, h1, _, h2, _, h3⟩ := h.at_ (k := k) (by have := h.len; omega)
    rw [h3.out] at hx
    cases hx
    exact ⟨g, 0, _, h1, by rw [Nat.zero_add]; exact h2, hR _ (List.mem_of_getElem? h3.out)⟩

theorem Own.set (h : Own E f w B a n c xs) {g k : Nat} (ha : a = some ⟨g, 0, none⟩) (x : α) : Own E f (w.setCell ⟨g, k, none⟩ (f x)) B a n c (xs.set k x) := by
  rcases h.cases with ⟨rfl, rfl, rfl, rfl⟩ | ⟨g', cur, rfl, h2, h3, h4, h5, h6, h7⟩
  · cases ha
  · simp only [Option.some.injEq, Addr.mk.injEq, and_true] at ha
    subst ha
    refine Own.mk_ (cur := cur.setIfInBounds k (f x)) (by simpa using h.len) h2 ?_ h4 h5 (by simpa using h6) ?_
    · simp [World.setCell, Array.getElem?_modify, h3]
    · rw [Array.toList_setIfInBounds, List.take_set, h7, List.map_set]

theorem Own.setOther (h : Own E f w B a n c xs) {p : Addr} (hp : blk a ≠ some p.block) (u : Value) : Own E f (w.setCell p u) B a n c xs :=
  h.keep fun g hg => Below.heap_setCell _ _ _ _ (fun e => hp (by rw [hg, e]))

theorem Own.alloc (h : Own E f w B a n c xs) (o : Obj) : Own E f (w.alloc o) B a n c xs := h.ext ((Ext.refl w).alloc o)
theorem Own.drewN (h : Own E f w B a n c xs) (m : Nat) : Own E f (w.drewN m) B a n c xs := h.ext ((Ext.refl w).drewN m)

/-- A cut to a shorter length keeps. -/
theorem Own.take (h : Own E f w B a n c xs) {m : Nat} (hm : m ≤ n) (h0 : 0 < m ∨ a ≠ none ∨ n = 0) : Own E f w B a m c (xs.take m) := by
  rcases h.cases with ⟨rfl, rfl, rfl, rfl⟩ | ⟨g, cur, rfl, h2, h3, h4, h5, h6, h7⟩
  · obtain rfl : m = 0 := by omega
    exact Own.nil_ _ _ _ _
  · have hl := h.len
    refine Own.mk_ (by rw [List.length_take]; omega) h2 h3 (by omega) h5 h6 ?_
    rw [List.map_take, ← h7, List.take_take, Nat.min_eq_left hm]

theorem Own.lit (w : World) (cs : Array Value) {xs : List α} (hn : n = cs.size) (hm : n ≤ maxLen) (hxs : cs.toList = xs.map f) : Own E f (w.alloc (.cells cs E)) w.heap.size (some ⟨w.heap.size, 0, none⟩) n n xs := by
  have hl : cs.toList.length = xs.length := by rw [hxs, List.length_map]
  rw [Array.length_toList] at hl
  refine Own.mk_ (by omega) (Nat.le_refl _) (heap_alloc_new w _) (Nat.le_refl _) hm hn.symm ?_
  rw [List.take_of_length_le (by simp; omega), hxs]

end

/-- A new row of zeros. -/
theorem own_made (w : World) (E : TypeId) {α : Type} (f : α → Value) (z : α) (n : Nat) (hn : n ≤ 9223372036854775807) :
    Own E f (w.alloc (.cells (madeCells #[f z] n) E)) w.heap.size (some ⟨w.heap.size, 0, none⟩) n n (List.replicate n z) :=
  Own.lit w _ (by rw [size_madeCells]) (by unfold maxLen; omega) (by rw [toList_madeCells_one, List.map_replicate])

abbrev OwnI (w : World) (B : Nat) (a : Option Addr) (n c : Nat) (xs : List Int) : Prop := Own 2 (Value.int .i64) w B a n c xs
abbrev OwnB (w : World) (B : Nat) (a : Option Addr) (n c : Nat) (xs : List Bool) : Prop := Own 4 Value.bool w B a n c xs

theorem Own.rdI {E : TypeId} {w : World} {B : Nat} {a : Option Addr} {n c : Nat} {xs : List Int} (h : Own E (Value.int .i64) w B a n c xs) : RdI w a n c xs := Own.rd (R := IsI) (fun _ _ => rfl) h
theorem Own.rdB {E : TypeId} {w : World} {B : Nat} {a : Option Addr} {n c : Nat} {xs : List Bool} (h : Own E Value.bool w B a n c xs) : RdB w a n c xs := Own.rd (R := IsB) (fun _ _ => rfl) h

/-! ### Rows that are owned: each in a block of its own -/

abbrev Row := Option Addr × Nat × Nat
def Row.val (r : Row) : Value := .slice r.1 r.2.1 r.2.2

structure OwnR (w : World) (B : Nat) (a : Option Addr) (n c : Nat) (xss : List (List Int)) (rs : List Row) : Prop where
  top : Own 32 Row.val w B a n c rs
  len : n = xss.length
  row : ∀ (i : Nat) (r : Row) (xs : List Int), rs[i]? = some r → xss[i]? = some xs → OwnI w B r.1 r.2.1 r.2.2 xs
  apart : ∀ (r : Row), r ∈ rs → ∀ g, blk r.1 = some g → blk a ≠ some g
  sep : ∀ (i j : Nat) (r r' : Row), i < j → rs[i]? = some r → rs[j]? = some r' → ∀ g, blk r.1 = some g → blk r'.1 ≠ some g

section
variable {w w' : World} {B : Nat} {a : Option Addr} {n c : Nat} {xss : List (List Int)} {rs : List Row}

theorem OwnR.nil_ (w : World) (B : Nat) : OwnR w B none 0 0 [] [] :=
  ⟨Own.nil_ _ _ _ _, rfl, fun i r xs h => by simp at h, fun r h => by simp at h, fun i j r r' _ h => by simp at h⟩

/-- The blocks of rows. -/
def OwnR.fp (a : Option Addr) (rs : List Row) (g : Nat) : Prop := blk a = some g ∨ ∃ r : Row, r ∈ rs ∧ blk r.1 = some g

theorem OwnR.lt (h : OwnR w B a n c xss rs) {g : Nat} (hg : OwnR.fp a rs g) : B ≤ g ∧ g < w.heap.size := by
  rcases hg with hg | ⟨r, hr, hg⟩
  · exact h.top.lt hg
  · obtain ⟨i, hi⟩ := List.getElem?_of_mem hr
    have hi' : i < rs.length := (List.getElem?_eq_some_iff.1 hi).1
    have hl : rs.length = xss.length := by rw [← h.top.len, h.len]
    exact (h.row i r _ hi (List.getElem?_eq_getElem (by omega))).lt hg

theorem OwnR.young (h : OwnR w B a n c xss rs) {b o : Nat} {s : Option Nat} (hb : w.heap.size ≤ b) : ∀ g, blk (some (⟨b, o, s⟩ : Addr)) = some g → ¬ OwnR.fp a rs g := fun g hg hf => by
  have := (h.lt hf).2
  have := blk_eq hg
  omega

theorem OwnR.keep (h : OwnR w B a n c xss rs) (hk : ∀ g, OwnR.fp a rs g → w'.heap[g]? = w.heap[g]?) : OwnR w' B a n c xss rs :=
  ⟨h.top.keep fun g hg => hk g (.inl hg), h.len, fun i r xs hr hx => (h.row i r xs hr hx).keep fun g hg => hk g (.inr ⟨r, List.mem_of_getElem? hr, hg⟩), h.apart, h.sep⟩

theorem OwnR.ext (h : OwnR w B a n c xss rs) (k : Ext w w') : OwnR w' B a n c xss rs := h.keep fun g hg => Below.block k g (h.lt hg).2

theorem OwnR.base {B' : Nat} (h : OwnR w B a n c xss rs) (k : B' ≤ B) : OwnR w B' a n c xss rs :=
  ⟨h.top.base k, h.len, fun i r xs hr hx => (h.row i r xs hr hx).base k, h.apart, h.sep⟩

theorem OwnR.rlen (h : OwnR w B a n c xss rs) : rs.length = xss.length := by rw [← h.top.len, h.len]

theorem OwnR.at_ (h : OwnR w B a n c xss rs) {k : Nat} (hk : k < n) :
    ∃ g r xs, a = some ⟨g, 0, none⟩ ∧ B ≤ g ∧ w.cell? ⟨g, k, none⟩ = some (.slice r.1 r.2.1 r.2.2) ∧ w.frozen? ⟨g, k, none⟩ = false ∧ OwnI w B r.1 r.2.1 r.2.2 xs ∧ Hid (rs[k]? = some r) ∧ Hid (xss[k]? = some xs) := by
  obtain ⟨g, r, h1, h2, h3, h4, h5⟩ := h.top.at_ hk
  have hk' : k < xss.length := by have := h.len; omega
  exact ⟨g, r, xss[k], h1, h2, h3, h4, h.row k r _ h5.out (List.getElem?_eq_getElem hk'), h5, List.getElem?_eq_getElem hk'⟩

theorem OwnR.rd (h : OwnR w B a n c xss rs) : RdR w a n c xss := by
  have ht := Own.rd (R := fun _ v r => v = Row.val r) (fun _ _ => rfl) h.top
  refine ⟨h.len, ht.le, ht.max, ht.nil, fun k xs hx => ?_⟩
  have hk : k < n := by rw [h.len]; exact (List.getElem?_eq_some_iff.1 hx).1
  obtain ⟨g, r, xs', h1, h2, h3, h4, h5, h6, h7⟩ := h.at_ hk
  rw [h7.out] at hx
  cases hx
  exact ⟨g, 0, _, h1, by rw [Nat.zero_add]; exact h3, _, _, _, rfl, h5.rdI⟩

theorem OwnR.setRow (h : OwnR w B a n c xss rs) {g k : Nat} (ha : a = some ⟨g, 0, none⟩) (r : Row) (xs : List Int) (hr : OwnI w B r.1 r.2.1 r.2.2 xs)
    (hd : ∀ g', blk r.1 = some g' → ¬ OwnR.fp a rs g') : OwnR (w.setCell ⟨g, k, none⟩ (Row.val r)) B a n c (xss.set k xs) (rs.set k r) := by
  subst ha
  have hne : ∀ r' : Row, (∀ g', blk r'.1 = some g' → blk (some (⟨g, 0, none⟩ : Addr)) ≠ some g') → blk r'.1 ≠ some g := fun r' h' e => h' g e rfl
  have hrg : blk r.1 ≠ some g := fun e => hd g e (.inl rfl)
  have mem : ∀ {i : Nat} {r' : Row}, rs[i]? = some r' → r' ∈ rs := fun hi => List.mem_of_getElem? hi
  refine ⟨h.top.set rfl r, by simpa using h.len, fun i r' xs' hr' hx' => ?_, fun r' hr' g' hg' => ?_, fun i j r1 r2 hij h1 h2 g' hg1 hg2 => ?_⟩
  · rw [List.getElem?_set] at hr' hx'
    by_cases e : k = i
    · subst e
      have hk : k < rs.length := by
        apply Classical.byContradiction; intro hk; simp [hk] at hr'
      have hk' : k < xss.length := by rw [← h.rlen]; exact hk
      simp only [if_true, hk, hk', if_pos, Option.some.injEq] at hr' hx'
      subst hr' hx'
      exact hr.setOther hrg _
    · rw [if_neg e] at hr' hx'
      exact (h.row i r' xs' hr' hx').setOther (hne r' (fun g' hg' => h.apart r' (mem hr') g' hg')) _
  · rcases List.mem_or_eq_of_mem_set hr' with hm | rfl
    · exact h.apart r' hm g' hg'
    · exact fun e => hd g' hg' (.inl e)
  · rw [List.getElem?_set] at h1 h2
    by_cases e1 : k = i
    · subst e1
      rw [if_neg (by omega)] at h2
      by_cases hk : k < rs.length
      · simp only [if_true, hk, if_pos, Option.some.injEq] at h1
        subst h1
        exact hd g' hg1 (.inr ⟨r2, mem h2, hg2⟩)
      · simp [hk] at h1
    · rw [if_neg e1] at h1
      by_cases e2 : k = j
      · subst e2
        by_cases hk : k < rs.length
        · simp only [if_true, hk, if_pos, Option.some.injEq] at h2
          subst h2
          exact hd g' hg2 (.inr ⟨r1, mem h1, hg1⟩)
        · simp [hk] at h2
      · rw [if_neg e2] at h2
        exact h.sep i j r1 r2 hij h1 h2 g' hg1 hg2

/-- A store into a block that is none of the rows'. -/
theorem OwnR.setOther (h : OwnR w B a n c xss rs) {p : Addr} (hp : ¬ OwnR.fp a rs p.block) (u : Value) : OwnR (w.setCell p u) B a n c xss rs :=
  h.keep fun g hg => Below.heap_setCell _ _ _ _ (fun e => hp (e ▸ hg))

/-- A store into a cell of row k. -/
theorem OwnR.setIn (h : OwnR w B a n c xss rs) {g k j : Nat} {r : Row} {xs : List Int} (hr : rs[k]? = some r) (hx : xss[k]? = some xs) (hg : r.1 = some ⟨g, 0, none⟩) (v : Int) :
    OwnR (w.setCell ⟨g, j, none⟩ (.int .i64 v)) B a n c (xss.set k (xs.set j v)) rs := by
  have hb : blk r.1 = some g := by rw [hg]; rfl
  have mem : ∀ {i : Nat} {r' : Row}, rs[i]? = some r' → r' ∈ rs := fun hi => List.mem_of_getElem? hi
  refine ⟨h.top.setOther (h.apart r (mem hr) g hb) _, by simpa using h.len, fun i r' xs' hr' hx' => ?_, h.apart, h.sep⟩
  rw [List.getElem?_set] at hx'
  by_cases e : k = i
  · subst e
    have hk : k < xss.length := (List.getElem?_eq_some_iff.1 hx).1
    simp only [if_true, hk, if_pos, Option.some.injEq] at hx'
    subst hx'
    rw [hr] at hr'
    cases hr'
    exact (h.row k r xs hr hx).set hg v
  · rw [if_neg e] at hx'
    refine (h.row i r' xs' hr' hx').setOther (fun e' => ?_) _
    rcases Nat.lt_or_gt_of_ne e with hlt | hlt
    · exact h.sep k i r r' hlt hr hr' g hb e'
    · exact h.sep i k r' r hlt hr' hr g e' hb

/-- A new list without rows. -/
theorem OwnR.empty (w : World) : OwnR (w.alloc (.cells #[] 32)) w.heap.size (some ⟨w.heap.size, 0, none⟩) 0 0 [] [] :=
  ⟨Own.lit w _ rfl (Nat.zero_le _) rfl, rfl, fun i r xs h => by simp at h, fun r h => by simp at h, fun i j r r' _ h => by simp at h⟩

theorem Own.empty {α : Type} (E : TypeId) (f : α → Value) (w : World) : Own E f (w.alloc (.cells #[] E)) w.heap.size (some ⟨w.heap.size, 0, none⟩) 0 0 [] :=
  Own.lit w _ rfl (Nat.zero_le _) rfl

/-- A new list of rows, all nil. -/
theorem OwnR.made (w : World) (n : Nat) (hn : n ≤ 9223372036854775807) :
    OwnR (w.alloc (.cells (madeCells #[.slice none 0 0] n) 32)) w.heap.size (some ⟨w.heap.size, 0, none⟩) n n (List.replicate n []) (List.replicate n (none, 0, 0)) := by
  have rep : ∀ {i : Nat} {r : Row}, (List.replicate n ((none, 0, 0) : Row))[i]? = some r → r = (none, 0, 0) := fun h => by
    rw [List.getElem?_replicate] at h; split at h <;> simp_all
  refine ⟨Own.lit w _ (by rw [size_madeCells]) (by unfold maxLen; omega) (by rw [toList_madeCells_one, List.map_replicate]; rfl), by simp, fun i r xs hr hx => ?_, fun r hr g hg => ?_, fun i j r r' _ h1 _ g hg => ?_⟩
  · obtain rfl := rep hr
    rw [List.getElem?_replicate] at hx
    split at hx
    · simp only [Option.some.injEq] at hx; subst hx; exact Own.nil_ _ _ _ _
    · cases hx
  · obtain ⟨i, hi⟩ := List.getElem?_of_mem hr
    obtain rfl := rep hi
    cases hg
  · obtain rfl := rep h1
    cases hg

end

/-! ### Writing into what is owned -/

/-- Of what was there only the blocks in S may have changed. -/
structure Only (S : Nat → Prop) (w w' : World) : Prop where
  os : w'.os = w.os
  tape : w'.tape = w.tape
  output : w'.output = w.output
  size : w.heap.size ≤ w'.heap.size
  block : ∀ b, b < w.heap.size → ¬ S b → w'.heap[b]? = w.heap[b]?

theorem Only.refl (S : Nat → Prop) (w : World) : Only S w w := ⟨rfl, rfl, rfl, Nat.le_refl _, fun _ _ _ => rfl⟩
theorem Only.trans {S : Nat → Prop} {a b c : World} (h : Only S a b) (k : Only S b c) : Only S a c :=
  ⟨k.os.trans h.os, k.tape.trans h.tape, k.output.trans h.output, Nat.le_trans h.size k.size, fun i hi hs => (k.block i (Nat.lt_of_lt_of_le hi h.size) hs).trans (h.block i hi hs)⟩
theorem Only.mono {S T : Nat → Prop} {w w' : World} (h : Only S w w') (k : ∀ b, S b → T b) : Only T w w' := ⟨h.os, h.tape, h.output, h.size, fun b hb hs => h.block b hb (fun e => hs (k b e))⟩
theorem Only.setCell {S : Nat → Prop} {w w' : World} (h : Only S w w') {p : Addr} (hp : S p.block) (u : Value) : Only S w (w'.setCell p u) :=
  h.trans ⟨rfl, rfl, rfl, by simp [World.setCell], fun k _ hs => Below.heap_setCell _ _ _ _ (fun e => hs (e ▸ hp))⟩
theorem Only.of_ext {S : Nat → Prop} {w w' : World} (h : Ext w w') : Only S w w' := ⟨h.os, h.tape, h.output, h.size, fun b hb _ => Below.block h b hb⟩
theorem Only.drewN {S : Nat → Prop} {w w' : World} (h : Only S w w') (n : Nat) : Only S w (w'.drewN n) := h.trans (Only.of_ext ((Ext.refl _).drewN n))
theorem Only.drew {S : Nat → Prop} {w w' : World} (h : Only S w w') : Only S w w'.drew := h.drewN 1
/-- What is written is younger than w0. -/
theorem Ext.only {S : Nat → Prop} {w0 w w' : World} (h : Ext w0 w) (k : Only S w w') (hS : ∀ b, S b → w0.heap.size ≤ b) : Ext w0 w' :=
  Below.trans h ⟨k.os, k.tape, k.output, k.size, fun b hb => k.block b (Nat.lt_of_lt_of_le hb h.size) (fun e => by have := hS b e; omega)⟩

theorem Own.only {α : Type} {E : TypeId} {f : α → Value} {S : Nat → Prop} {w w' : World} {B : Nat} {a : Option Addr} {n c : Nat} {xs : List α} (h : Own E f w B a n c xs) (k : Only S w w') (hS : ∀ g, blk a = some g → ¬ S g) : Own E f w' B a n c xs :=
  h.keep fun g hg => k.block g (h.lt hg).2 (hS g hg)
theorem OwnR.only {S : Nat → Prop} {w w' : World} {B : Nat} {a : Option Addr} {n c : Nat} {xss : List (List Int)} {rs : List Row} (h : OwnR w B a n c xss rs) (k : Only S w w') (hS : ∀ g, OwnR.fp a rs g → ¬ S g) : OwnR w' B a n c xss rs :=
  h.keep fun g hg => k.block g (h.lt hg).2 (hS g hg)

/-- Row k was written by a callee. -/
theorem OwnR.only_row {w w' : World} {B : Nat} {a : Option Addr} {n c : Nat} {xss : List (List Int)} {rs : List Row} (h : OwnR w B a n c xss rs) {k : Nat} {r : Row} {ys : List Int} (hr : rs[k]? = some r)
    (ho : Only (fun g => blk r.1 = some g) w w') (hy : OwnI w' B r.1 r.2.1 r.2.2 ys) : OwnR w' B a n c (xss.set k ys) rs := by
  have mem : ∀ {i : Nat} {r' : Row}, rs[i]? = some r' → r' ∈ rs := fun hi => List.mem_of_getElem? hi
  refine ⟨h.top.only ho (fun g hg e => h.apart r (mem hr) g e hg), by simpa using h.len, fun i r' xs' hr' hx' => ?_, h.apart, h.sep⟩
  rw [List.getElem?_set] at hx'
  by_cases e : k = i
  · subst e
    rw [hr] at hr'
    cases hr'
    have hk : k < xss.length := by
      apply Classical.byContradiction; intro hk; simp [hk] at hx'
    simp only [if_true, hk, if_pos, Option.some.injEq] at hx'
    subst hx'
    exact hy
  · rw [if_neg e] at hx'
    refine (h.row i r' xs' hr' hx').only ho (fun g hg e' => ?_)
    rcases Nat.lt_or_gt_of_ne e with hlt | hlt
    · exact h.sep k i r r' hlt hr hr' g e' hg
    · exact h.sep i k r' r hlt hr' hr g hg e'

/-! ### What a call hands back -/

/-- A new list of integers. -/
def RetI (w : World) (xs : List Int) (e : Ending) (w' : World) : Prop := ∃ a n c, e = .returned (.slice a n c) ∧ OwnI w' w.heap.size a n c xs ∧ Ext w w'
/-- New rows and a code. -/
def RetRC (w : World) (xss : List (List Int)) (code : Int) (e : Ending) (w' : World) : Prop := ∃ a n c rs, e = .returned (.tuple #[.slice a n c, .int .i64 code]) ∧ OwnR w' w.heap.size a n c xss rs ∧ Ext w w'
/-- A new list and a code. -/
def RetIC (w : World) (xs : List Int) (code : Int) (e : Ending) (w' : World) : Prop := ∃ a n c, e = .returned (.tuple #[.slice a n c, .int .i64 code]) ∧ OwnI w' w.heap.size a n c xs ∧ Ext w w'
theorem RetRC.mk_ {w w' : World} {B : Nat} {a : Option Addr} {n c : Nat} {xss xss' : List (List Int)} {rs : List Row} {code code' : Int} (h : OwnR w' B a n c xss' rs) (hB : w.heap.size ≤ B) (hx : xss' = xss) (hc : code' = code) (hE : Ext w w') :
    RetRC w xss code (.returned (.tuple #[.slice a n c, .int .i64 code'])) w' := by subst hx hc; exact ⟨a, n, c, rs, rfl, h.base hB, hE⟩
theorem RetIC.mk_ {w w' : World} {B : Nat} {a : Option Addr} {n c : Nat} {xs xs' : List Int} {code code' : Int} (h : OwnI w' B a n c xs') (hB : w.heap.size ≤ B) (hx : xs' = xs) (hc : code' = code) (hE : Ext w w') :
    RetIC w xs code (.returned (.tuple #[.slice a n c, .int .i64 code'])) w' := by subst hx hc; exact ⟨a, n, c, rfl, h.base hB, hE⟩
theorem RetRC.nil_ {w w' : World} {xss : List (List Int)} {code code' : Int} (hx : [] = xss) (hc : code' = code) (hE : Ext w w') :
    RetRC w xss code (.returned (.tuple #[.slice none 0 0, .int .i64 code'])) w' := RetRC.mk_ (OwnR.nil_ _ _) (Nat.le_refl _) hx hc hE
theorem RetIC.nil_ {w w' : World} {xs : List Int} {code code' : Int} (hx : [] = xs) (hc : code' = code) (hE : Ext w w') :
    RetIC w xs code (.returned (.tuple #[.slice none 0 0, .int .i64 code'])) w' := RetIC.mk_ (Own.nil_ _ _ _ _) (Nat.le_refl _) hx hc hE
/-- New rows. -/
def RetR (w : World) (xss : List (List Int)) (e : Ending) (w' : World) : Prop := ∃ a n c rs, e = .returned (.slice a n c) ∧ OwnR w' w.heap.size a n c xss rs ∧ Ext w w'

end Go.Proofs.YtnimmkfkijcbbaaDoor
