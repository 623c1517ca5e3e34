/-
  DERIVED. GIVEN WITH THE SEED: THE CARDS: each row of YtnimmkfkijcbbaaDoorRows.lean that lists a variable, with what it lists TIED to the program's text (the seventh form; the later family's looks); each row that meets fmt, with fmt's text TOLD by the authors' own Lean function (tested against real Go, not proved from fmt's source: count such statements apart). THE CARD IS WHAT COUNTS. Prove the row's statement (the work); the ties are given (YtnimmkfkijcbbaaDoorTie.lean); close each card by the builder's one call (the guide's Derived/Test/ToyasCard.lean, 'card_holds'). Laid BY PROGRAM, IN A SANDBOX (cutbox-door.mjs). By AI agents, Wed Nov 11 2026. No macro, syntax, notation, axiom, sorry.
-/
import Derived.Test.YtnimmkfkijcbbaaDoorRows
import GoSem.ClaimSeven
namespace Go.Proofs.YtnimmkfkijcbbaaDoor
namespace Rows

/-- THE TIED CARD OF 'laws.FnExactPartialText'. -/
def fnExactPartialTextCard : Claim7 := { stood := { row := fnExactPartialTextRow, standIns := [], harness := (true, "c305fbd08fe39d44c954611cc510efd9a41872951b19bbdf71628efc6f7e7c4b"), looks := false }, kinds := [], alts := [], laidByText := true, laidKinds := [.data, .data, .data, .data, .pinned], laidTests := true, laidLooks := .later }
def FnExactPartialTextCardSaid : Prop := Claim7.holds Tryd.pinned (.plain (OpenSpec.ofChange fnExactPartialTextSpec)) fnExactPartialTextCard

/-- THE TIED CARD OF 'laws.FnExactReadPartial'. -/
def fnExactReadPartialCard : Claim7 := { stood := { row := fnExactReadPartialRow, standIns := [], harness := (true, "c305fbd08fe39d44c954611cc510efd9a41872951b19bbdf71628efc6f7e7c4b"), looks := false }, kinds := [], alts := [], laidByText := true, laidKinds := [.data, .data, .data, .data, .pinned], laidTests := true, laidLooks := .later }
def FnExactReadPartialCardSaid : Prop := Claim7.holds Tryd.pinned (.plain (OpenSpec.ofChange fnExactReadPartialSpec)) fnExactReadPartialCard

/-- THE TIED CARD OF 'laws.FnExactSquareText'. -/
def fnExactSquareTextCard : Claim7 := { stood := { row := fnExactSquareTextRow, standIns := [], harness := (true, "c305fbd08fe39d44c954611cc510efd9a41872951b19bbdf71628efc6f7e7c4b"), looks := false }, kinds := [], alts := [], laidByText := true, laidKinds := [.data, .data, .data], laidTests := true, laidLooks := .later }
def FnExactSquareTextCardSaid : Prop := Claim7.holds Tryd.pinned (.plain (OpenSpec.ofChange fnExactSquareTextSpec)) fnExactSquareTextCard

/-- THE TIED CARD OF 'laws.FnExactReadSquare'. -/
def fnExactReadSquareCard : Claim7 := { stood := { row := fnExactReadSquareRow, standIns := [], harness := (true, "c305fbd08fe39d44c954611cc510efd9a41872951b19bbdf71628efc6f7e7c4b"), looks := false }, kinds := [], alts := [], laidByText := true, laidKinds := [.data, .data, .data, .data, .pinned], laidTests := true, laidLooks := .later }
def FnExactReadSquareCardSaid : Prop := Claim7.holds Tryd.pinned (.plain (OpenSpec.ofChange fnExactReadSquareSpec)) fnExactReadSquareCard

/-- THE SECOND FORM's CARD OF 'laws.FnExactPartialText'. -/
def fnExactPartialTextUptoCard : Claim7 := { stood := { row := fnExactPartialTextUptoRow, standIns := [], harness := (true, "c305fbd08fe39d44c954611cc510efd9a41872951b19bbdf71628efc6f7e7c4b"), looks := false }, kinds := [], alts := [], laidByText := true, laidKinds := [.data, .data, .data, .data, .pinned], laidTests := true, laidLooks := .later }
def FnExactPartialTextUptoCardSaid : Prop := Claim7.holds Tryd.pinned (.plain (OpenSpec.upto fnExactPartialTextSpec)) fnExactPartialTextUptoCard

/-- THE SECOND FORM's CARD OF 'laws.FnExactReadPartial'. -/
def fnExactReadPartialUptoCard : Claim7 := { stood := { row := fnExactReadPartialUptoRow, standIns := [], harness := (true, "c305fbd08fe39d44c954611cc510efd9a41872951b19bbdf71628efc6f7e7c4b"), looks := false }, kinds := [], alts := [], laidByText := true, laidKinds := [.data, .data, .data, .data, .pinned], laidTests := true, laidLooks := .later }
def FnExactReadPartialUptoCardSaid : Prop := Claim7.holds Tryd.pinned (.plain (OpenSpec.upto fnExactReadPartialSpec)) fnExactReadPartialUptoCard

/-- THE SECOND FORM's CARD OF 'laws.FnExactSquareText'. -/
def fnExactSquareTextUptoCard : Claim7 := { stood := { row := fnExactSquareTextUptoRow, standIns := [], harness := (true, "c305fbd08fe39d44c954611cc510efd9a41872951b19bbdf71628efc6f7e7c4b"), looks := false }, kinds := [], alts := [], laidByText := true, laidKinds := [.data, .data, .data], laidTests := true, laidLooks := .later }
def FnExactSquareTextUptoCardSaid : Prop := Claim7.holds Tryd.pinned (.plain (OpenSpec.upto fnExactSquareTextSpec)) fnExactSquareTextUptoCard

/-- THE SECOND FORM's CARD OF 'laws.FnExactReadSquare'. -/
def fnExactReadSquareUptoCard : Claim7 := { stood := { row := fnExactReadSquareUptoRow, standIns := [], harness := (true, "c305fbd08fe39d44c954611cc510efd9a41872951b19bbdf71628efc6f7e7c4b"), looks := false }, kinds := [], alts := [], laidByText := true, laidKinds := [.data, .data, .data, .data, .pinned], laidTests := true, laidLooks := .later }
def FnExactReadSquareUptoCardSaid : Prop := Claim7.holds Tryd.pinned (.plain (OpenSpec.upto fnExactReadSquareSpec)) fnExactReadSquareUptoCard
end Rows
end Go.Proofs.YtnimmkfkijcbbaaDoor
