/- Squares that are filled by a function. Conditions: none. -/
import Derived.Test.YtjlfngnmmmaefaaApp
import Derived.Test.YtjlfngnmmmaefaaEnt
namespace Go.Proofs.Ytjlfngnmmmaefaa
open Go.RowKit

/-- The rows whose numbers a function gives. -/
def sq (n : Nat) (g : Nat → Nat → Int) : List (List Int) := (List.range n).map fun x => (List.range n).map fun y => g x y

/-- Calling a function value at (x, y) gives g x y, and only reads. -/
def Gives (F : FuncId) (cap : Array Value) (n : Nat) (g : Nat → Nat → Int) (w : World) : Prop :=
  ∀ (x y : Nat) (w1 : World), x < n → y < n → Ext w w1 → Calls Try.prog F (#[.int .i64 x, .int .i64 y] ++ cap) w1 fun e w2 => e = .returned (.int .i64 (g x y)) ∧ Q w1 w2

structure Own2 (w : World) (B : Nat) (a : Option Addr) (n c : Nat) (xss : List (List Int)) (rs : List Row) (ad : Option Addr) (m d : Nat) (xs : List Int) : Prop where
  rows : OwnR w B a n c xss rs
  row : OwnI w B ad m d xs
  apart : ∀ g, blk ad = some g → ¬ OwnR.fp a rs g

section
variable {w w' : World} {B : Nat} {a : Option Addr} {n c : Nat} {xss : List (List Int)} {rs : List Row} {ad ad' : Option Addr} {m d d' : Nat} {xs : List Int}

theorem Own2.start (h : OwnR w B a n c xss rs) : Own2 w B a n c xss rs none 0 0 [] := ⟨h, Own.nil_ _ _ _ _, fun g hg => by cases hg⟩
theorem Own2.ext (h : Own2 w B a n c xss rs ad m d xs) (k : Ext w w') : Own2 w' B a n c xss rs ad m d xs := ⟨h.rows.ext k, h.row.ext k, h.apart⟩
theorem Own2.app {v : Int} (h : Own2 w B a n c xss rs ad m d xs) (hr : OwnI w' B ad' (m + 1) d' (xs ++ [v])) (ho : Only (onlyA ad) w w') (hm : Moved w ad ad') : Own2 w' B a n c xss rs ad' (m + 1) d' (xs ++ [v]) := by
  refine ⟨h.rows.only ho (fun g hg e => h.apart g e hg), hr, fun g hg hf => ?_⟩
  rcases hm with hm | ⟨g', hm, hlt⟩
  · exact h.apart g (by rw [← hm]; exact hg) hf
  · rw [hm] at hg; cases hg
    have := (h.rows.lt hf).2; omega

theorem Own2.app2 {m2 d2 : Nat} {ys : List Int} (h : Own2 w B a n c xss rs ad m d xs) (hr : OwnI w' B ad' m2 d2 ys) (ho : Only (onlyA ad) w w') (hm : Moved w ad ad') : Own2 w' B a n c xss rs ad' m2 d2 ys := by
  refine ⟨h.rows.only ho (fun g hg e => h.apart g e hg), hr, fun g hg hf => ?_⟩
  rcases hm with hm | ⟨g', hm, hlt⟩
  · exact h.apart g (by rw [← hm]; exact hg) hf
  · rw [hm] at hg; cases hg
    have := (h.rows.lt hf).2; omega
theorem Own2.startE (h : OwnR w B a n c xss rs) (hB : B ≤ w.heap.size) : Own2 (w.alloc (.cells #[] 2)) B a n c xss rs (some ⟨w.heap.size, 0, none⟩) 0 0 [] :=
  ⟨h.ext ((Ext.refl w).alloc _), (Own.empty 2 (Value.int .i64) w).base hB, h.young (Nat.le_refl _)⟩
end

theorem sq_row_step {y : Nat} {f : Nat → Int} : ((List.range y).map f) ++ [f y] = (List.range (y + 1)).map f := by rw [List.range_succ, List.map_append]; rfl

end Go.Proofs.Ytjlfngnmmmaefaa
