/- Two owned lists of rows that grow together, and their two next rows. Conditions: none. -/
import Derived.Test.YtkapkieeafhaoaaApp
namespace Go.Proofs.Ytkapkieeafhaoaa
open Go.RowKit

structure Two (w : World) (B : Nat) (a : Option Addr) (n c : Nat) (L : List (List Int)) (rs : List Row) (a' : Option Addr) (n' c' : Nat) (L' : List (List Int)) (rs' : List Row) : Prop where
  one : OwnR w B a n c L rs
  two : OwnR w B a' n' c' L' rs'
  ap : ∀ g, OwnR.fp a rs g → ¬ OwnR.fp a' rs' g

structure Three (w : World) (B : Nat) (a : Option Addr) (n c : Nat) (L : List (List Int)) (rs : List Row) (a' : Option Addr) (n' c' : Nat) (L' : List (List Int)) (rs' : List Row) (y : Option Addr) (m d : Nat) (ys : List Int) : Prop where
  t : Two w B a n c L rs a' n' c' L' rs'
  row : OwnI w B y m d ys
  ap : ∀ g, blk y = some g → ¬ OwnR.fp a rs g ∧ ¬ OwnR.fp a' rs' g

structure Four (w : World) (B : Nat) (a : Option Addr) (n c : Nat) (L : List (List Int)) (rs : List Row) (a' : Option Addr) (n' c' : Nat) (L' : List (List Int)) (rs' : List Row) (x : Option Addr) (k e : Nat) (xs : List Int) (y : Option Addr) (m d : Nat) (ys : List Int) : Prop where
  t : Three w B a n c L rs a' n' c' L' rs' y m d ys
  row : OwnI w B x k e xs
  ap : ∀ g, blk x = some g → ¬ OwnR.fp a rs g ∧ ¬ OwnR.fp a' rs' g ∧ blk y ≠ some g

section
variable {w w' : World} {B : Nat} {a : Option Addr} {n c : Nat} {L : List (List Int)} {rs : List Row} {a' : Option Addr} {n' c' : Nat} {L' : List (List Int)} {rs' : List Row} {x : Option Addr} {k e : Nat} {xs : List Int} {y : Option Addr} {m d : Nat} {ys : List Int}

theorem Two.ext (h : Two w B a n c L rs a' n' c' L' rs') (q : Ext w w') : Two w' B a n c L rs a' n' c' L' rs' := ⟨h.one.ext q, h.two.ext q, h.ap⟩
theorem Three.ext (h : Three w B a n c L rs a' n' c' L' rs' y m d ys) (q : Ext w w') : Three w' B a n c L rs a' n' c' L' rs' y m d ys := ⟨h.t.ext q, h.row.ext q, h.ap⟩
theorem Four.ext (h : Four w B a n c L rs a' n' c' L' rs' x k e xs y m d ys) (q : Ext w w') : Four w' B a n c L rs a' n' c' L' rs' x k e xs y m d ys := ⟨h.t.ext q, h.row.ext q, h.ap⟩

theorem two_start (w : World) :
    Two ((w.alloc (.cells #[] 29)).alloc (.cells #[] 29)) w.heap.size (some ⟨w.heap.size, 0, none⟩) 0 0 [] [] (some ⟨w.heap.size + 1, 0, none⟩) 0 0 [] [] := by
  have e1 := OwnR.empty w
  have e2 := OwnR.empty (w.alloc (.cells #[] 29))
  have q2 : Ext (w.alloc (.cells #[] 29)) ((w.alloc (.cells #[] 29)).alloc (.cells #[] 29)) := (Ext.refl _).alloc _
  have hsz : (w.alloc (.cells #[] 29)).heap.size = w.heap.size + 1 := by simp
  rw [hsz] at e2
  refine ⟨e1.ext q2, e2.base (by omega), fun g hg hf => ?_⟩
  have h1 := (e1.lt hg).2
  have h2 := (e2.lt hf).1
  omega

theorem Four.start (h : Two w B a n c L rs a' n' c' L' rs') (hB : B ≤ w.heap.size) :
    Four ((w.alloc (.cells #[] 2)).alloc (.cells #[] 2)) B a n c L rs a' n' c' L' rs' (some ⟨w.heap.size, 0, none⟩) 0 0 [] (some ⟨w.heap.size + 1, 0, none⟩) 0 0 [] := by
  have e1 := Own.empty 2 (Value.int .i64) w
  have e2 := Own.empty 2 (Value.int .i64) (w.alloc (.cells #[] 2))
  have q1 : Ext w (w.alloc (.cells #[] 2)) := (Ext.refl w).alloc _
  have q2 : Ext (w.alloc (.cells #[] 2)) ((w.alloc (.cells #[] 2)).alloc (.cells #[] 2)) := (Ext.refl _).alloc _
  have hsz : (w.alloc (.cells #[] 2)).heap.size = w.heap.size + 1 := by simp
  rw [hsz] at e2
  refine ⟨⟨h.ext (q1.trans q2), e2.base (by omega), fun g hg => ?_⟩, (e1.ext q2).base hB, fun g hg => ?_⟩
  · have := blk_eq hg
    exact ⟨fun hf => by have := (h.one.lt hf).2; omega, fun hf => by have := (h.two.lt hf).2; omega⟩
  · have := blk_eq hg
    exact ⟨fun hf => by have := (h.one.lt hf).2; omega, fun hf => by have := (h.two.lt hf).2; omega, fun e => by have := blk_eq e; omega⟩

theorem Four.appX {x2 : Option Addr} {k2 e2 : Nat} {xs2 : List Int} (h : Four w B a n c L rs a' n' c' L' rs' x k e xs y m d ys) (hr : OwnI w' B x2 k2 e2 xs2) (ho : Only (onlyA x) w w') (hm : Moved w x x2) :
    Four w' B a n c L rs a' n' c' L' rs' x2 k2 e2 xs2 y m d ys := by
  refine ⟨⟨⟨h.t.t.one.only ho (fun g hg e => (h.ap g e).1 hg), h.t.t.two.only ho (fun g hg e => (h.ap g e).2.1 hg), h.t.t.ap⟩, h.t.row.only ho (fun g hg e => (h.ap g e).2.2 hg), h.t.ap⟩, hr, fun g hg => ?_⟩
  rcases hm with hm | ⟨g', hm, hlt⟩
  · exact h.ap g (by rw [← hm]; exact hg)
  · rw [hm] at hg; cases hg
    exact ⟨fun hf => by have := (h.t.t.one.lt hf).2; omega, fun hf => by have := (h.t.t.two.lt hf).2; omega, fun e => by have := (h.t.row.lt e).2; omega⟩

theorem Four.appY {y2 : Option Addr} {m2 d2 : Nat} {ys2 : List Int} (h : Four w B a n c L rs a' n' c' L' rs' x k e xs y m d ys) (hr : OwnI w' B y2 m2 d2 ys2) (ho : Only (onlyA y) w w') (hm : Moved w y y2) :
    Four w' B a n c L rs a' n' c' L' rs' x k e xs y2 m2 d2 ys2 := by
  refine ⟨⟨⟨h.t.t.one.only ho (fun g hg e => (h.t.ap g e).1 hg), h.t.t.two.only ho (fun g hg e => (h.t.ap g e).2 hg), h.t.t.ap⟩, hr, fun g hg => ?_⟩, h.row.only ho (fun g hg e => (h.ap g hg).2.2 e), fun g hg => ⟨(h.ap g hg).1, (h.ap g hg).2.1, ?_⟩⟩
  · rcases hm with hm | ⟨g', hm, hlt⟩
    · exact h.t.ap g (by rw [← hm]; exact hg)
    · rw [hm] at hg; cases hg
      exact ⟨fun hf => by have := (h.t.t.one.lt hf).2; omega, fun hf => by have := (h.t.t.two.lt hf).2; omega⟩
  · rcases hm with hm | ⟨g', hm, hlt⟩
    · rw [hm]; exact (h.ap g hg).2.2
    · intro e2
      rw [hm] at e2; cases e2
      have := (h.row.lt hg).2; omega

theorem Four.push {a2 : Option Addr} {n2 c2 : Nat} {L2 : List (List Int)} (h : Four w B a n c L rs a' n' c' L' rs' x k e xs y m d ys) (hr : OwnR w' B a2 n2 c2 L2 (rs ++ [(x, k, e)])) (ho : Only (onlyA a) w w') (hm : Moved w a a2) :
    Three w' B a2 n2 c2 L2 (rs ++ [(x, k, e)]) a' n' c' L' rs' y m d ys := by
  have key : ∀ g, OwnR.fp a2 (rs ++ [(x, k, e)]) g → OwnR.fp a rs g ∨ blk x = some g ∨ w.heap.size ≤ g := by
    rintro g (hg | ⟨r, hr, hg⟩)
    · rcases hm with hm | ⟨g', hm, hlt⟩
      · exact .inl (.inl (by rw [← hm]; exact hg))
      · rw [hm] at hg; cases hg
        exact .inr (.inr hlt)
    · rcases List.mem_append.1 hr with hr | hr
      · exact .inl (.inr ⟨r, hr, hg⟩)
      · simp at hr; subst hr
        exact .inr (.inl hg)
  refine ⟨⟨hr, h.t.t.two.only ho (fun g hg e => h.t.t.ap g (.inl e) hg), fun g hg hf => ?_⟩, h.t.row.only ho (fun g hg e => (h.t.ap g hg).1 (.inl e)), fun g hg => ⟨fun hf => ?_, (h.t.ap g hg).2⟩⟩
  · rcases key g hg with h1 | h1 | h1
    · exact h.t.t.ap g h1 hf
    · exact (h.ap g h1).2.1 hf
    · have := (h.t.t.two.lt hf).2; omega
  · rcases key g hf with h1 | h1 | h1
    · exact (h.t.ap g hg).1 h1
    · exact (h.ap g h1).2.2 hg
    · have := (h.t.row.lt hg).2; omega

theorem Three.push {a2 : Option Addr} {n2 c2 : Nat} {L2 : List (List Int)} (h : Three w B a n c L rs a' n' c' L' rs' y m d ys) (hr : OwnR w' B a2 n2 c2 L2 (rs' ++ [(y, m, d)])) (ho : Only (onlyA a') w w') (hm : Moved w a' a2) :
    Two w' B a n c L rs a2 n2 c2 L2 (rs' ++ [(y, m, d)]) := by
  refine ⟨h.t.one.only ho (fun g hg e => h.t.ap g hg (.inl e)), hr, fun g hg hf => ?_⟩
  rcases hf with hf | ⟨r, hr, hf⟩
  · rcases hm with hm | ⟨g', hm, hlt⟩
    · exact h.t.ap g hg (.inl (by rw [← hm]; exact hf))
    · rw [hm] at hf; cases hf
      have := (h.t.one.lt hg).2; omega
  · rcases List.mem_append.1 hr with hr | hr
    · exact h.t.ap g hg (.inr ⟨r, hr, hf⟩)
    · simp at hr; subst hr
      exact (h.ap g hf).1 hg

end
end Go.Proofs.Ytkapkieeafhaoaa
