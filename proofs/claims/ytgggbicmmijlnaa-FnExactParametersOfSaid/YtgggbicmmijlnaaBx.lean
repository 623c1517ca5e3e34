/- Structs of a number and rows. Conditions: none. -/
import Derived.Test.YtgggbicmmijlnaaTo
import Derived.Test.YtgggbicmmijlnaaEq
import Derived.Test.YtgggbicmmijlnaaMark
namespace Go.Proofs.Ytgggbicmmijlnaa
open Go.RowKit

/-- A new struct of a number and rows. -/
def RetD (w : World) (z : Int) (xss : List (List Int)) (e : Ending) (w' : World) : Prop :=
  ∃ a n c rs, e = .returned (.agg #[.int .i64 z, .slice a n c]) ∧ OwnR w' w.heap.size a n c xss rs ∧ Ext w w'

/-- Such a struct and a code. -/
def RetDC (w : World) (z : Int) (xss : List (List Int)) (code : Int) (e : Ending) (w' : World) : Prop :=
  ∃ a n c rs, e = .returned (.tuple #[.agg #[.int .i64 z, .slice a n c], .int .i64 code]) ∧ OwnR w' w.heap.size a n c xss rs ∧ Ext w w'
theorem RetDC.mk_ {w w' : World} {B : Nat} {z z' : Int} {a : Option Addr} {n c : Nat} {xss xss' : List (List Int)} {rs : List Row} {code code' : Int} (h : OwnR w' B a n c xss' rs) (hB : w.heap.size ≤ B) (hz : z' = z) (hx : xss' = xss) (hc : code' = code) (hE : Ext w w') :
    RetDC w z xss code (.returned (.tuple #[.agg #[.int .i64 z', .slice a n c], .int .i64 code'])) w' := by subst hz hx hc; exact ⟨a, n, c, rs, rfl, h.base hB, hE⟩
theorem RetDC.nil_ {w w' : World} {z : Int} {xss : List (List Int)} {code code' : Int} (hz : 0 = z) (hx : [] = xss) (hc : code' = code) (hE : Ext w w') :
    RetDC w z xss code (.returned (.tuple #[.agg #[.int .i64 0, .slice none 0 0], .int .i64 code'])) w' := RetDC.mk_ (OwnR.nil_ _ _) (Nat.le_refl _) hz hx hc hE

/-- A box of a number and rows. -/
def Bx (w : World) (b : Nat) (z : Int) (a : Option Addr) (n c : Nat) : Prop :=
  w.cell? ⟨b, 0, none⟩ = some (.int .i64 z) ∧ w.cell? ⟨b, 1, none⟩ = some (.slice a n c)
theorem Bx.ext {w w' : World} {b : Nat} {z : Int} {a : Option Addr} {n c : Nat} (h : Bx w b z a n c) (k : Ext w w') : Bx w' b z a n c := ⟨k.cell h.1, k.cell h.2⟩
theorem Only.cell {S : Nat → Prop} {w w' : World} (k : Only S w w') {p : Addr} {v : Value} (hv : w.cell? p = some v) (hp : ¬ S p.block) : w'.cell? p = some v := by
  rw [World.cell?_of_block (w := w) (k.block p.block (World.block_lt_of_cell? _ _ hv) hp)]; exact hv
theorem Bx.only {S : Nat → Prop} {w w' : World} {b : Nat} {z : Int} {a : Option Addr} {n c : Nat} (h : Bx w b z a n c) (k : Only S w w') (hb : ¬ S b) : Bx w' b z a n c := ⟨k.cell h.1 hb, k.cell h.2 hb⟩

end Go.Proofs.Ytgggbicmmijlnaa
