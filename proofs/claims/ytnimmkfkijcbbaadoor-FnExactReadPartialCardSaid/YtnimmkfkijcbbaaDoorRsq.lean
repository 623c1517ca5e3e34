/- ReadSquare of impl. Conditions: none. -/
import Derived.Test.YtnimmkfkijcbbaaDoorRdd
import Derived.Test.YtnimmkfkijcbbaaDoorSqt
namespace Go.Proofs.YtnimmkfkijcbbaaDoor
open Go.RowKit

/-- New rows and whether there are any. -/
def RetRB (w : World) (xss : List (List Int)) (b : Bool) (e : Ending) (w' : World) : Prop := ∃ a n c rs, e = .returned (.tuple #[.slice a n c, .bool b]) ∧ OwnR w' w.heap.size a n c xss rs ∧ Ext w w'
theorem RetRB.mk_ {w w' : World} {B : Nat} {a : Option Addr} {n c : Nat} {xss xss' : List (List Int)} {rs : List Row} {b b' : Bool} (h : OwnR w' B a n c xss' rs) (hB : w.heap.size ≤ B) (hx : xss' = xss) (hc : b' = b) (hE : Ext w w') :
    RetRB w xss b (.returned (.tuple #[.slice a n c, .bool b'])) w' := by subst hx hc; exact ⟨a, n, c, rs, rfl, h.base hB, hE⟩
theorem RetRB.nil_ {w w' : World} {xss : List (List Int)} {b b' : Bool} (hx : [] = xss) (hc : b' = b) (hE : Ext w w') :
    RetRB w xss b (.returned (.tuple #[.slice none 0 0, .bool b'])) w' := RetRB.mk_ (OwnR.nil_ _ _) (Nat.le_refl _) hx hc hE

set_option maxRecDepth 100000 in
set_option maxHeartbeats 1600000 in
theorem implRsq (s : List UInt8) (m : Int) (w : World) (hm : w.cell? ⟨0, 0, none⟩ = some (.int .i64 m)) (hs : s.length ≤ 1048576) :
    Calls Tryd.prog 19 #[.string (bs s)] w (RetRB w (rdM s) (pb (SqOk (rdRows s)))) := by
  go_enter Tryd.func19, Tryd.ntmps19
  go_wp2_with fail
  refine (readDigitRows_any s m w hm hs).mono ?_
  rintro e w2 ⟨a, n, c, rs, rfl, hO, hE⟩
  by_cases h : SqOk (rdRows s)
  · have H := Lib.hid h
    have hT : sqTx (rdRows s) = bs s := sqTx_rd h
    clear h
    have hV := validSquare_any a n c (rdRows s) w2 hO.rd
    rw [pb_true H.out] at hV
    go_wp2_with fail
    refine hV.mono ?_
    rintro e w3 ⟨rfl, hE3⟩
    have hO3 := hO.ext hE3
    have hS := implSqt0 a n c (rdRows s) w3 hO3.rd
    rw [hT] at hS
    clear hO hV
    go_wp2_with fail
    refine hS.mono ?_
    rintro e w4 ⟨rfl, hE4⟩
    have hO4 := hO3.ext hE4
    have hEf := (hE.trans hE3).trans hE4
    clear hO3 hS
    go_wp2
    go_ret2
    exact RetRB.mk_ hO4 (Nat.le_refl _) (rdM_yes H.out).symm (pb_true H.out).symm hEf
  · have H := Lib.hid h
    clear h
    have hV := validSquare_any a n c (rdRows s) w2 hO.rd
    rw [pb_false H.out] at hV
    clear hO
    go_wp2_with fail
    refine hV.mono ?_
    rintro e w3 ⟨rfl, hE3⟩
    have hEf := hE.trans hE3
    clear hV
    go_wp2
    go_ret2
    exact RetRB.nil_ (rdM_no H.out).symm (pb_false H.out).symm hEf
end Go.Proofs.YtnimmkfkijcbbaaDoor
