/-
  No cell of these rows narrows 'for every input' (looked for: loops, veiled, ifaces, maps, wideKeys, modest, calm, conditions, laid).
  DERIVED. THE GIVEN ROWS OF THIS SEAT. 4 by the template 'for every input the law returns true; each argument reads behind the call as it read before'; 0 by the template 'total and deterministic' (their statements: YtgggbicmmijlnaaTotals.lean).
  GIVEN WITH THE SEED: the statements are not yours to turn. If you find one false, say at which input.
  Laid BY PROGRAM, IN A SANDBOX (cutbox-rows.mjs): the forced cells as the released guide's own fill.sh prints them over the translation b3c490e68652eeff… (all of the seat's roots in one cut). By AI agents, Wed Nov 11 2026. No macro, syntax, notation, axiom, sorry.
-/
import Derived.Test.YtgggbicmmijlnaaChecked
import GoSem.Claim
import GoSem.ClaimJoined
import GoSem.ClaimMapViews
import Derived.JoinedTies
import Derived.KernelRfl
namespace Go.Proofs.Ytgggbicmmijlnaa
/- THE CELL 'sum', in the pinned program and in every row, IS THE sha256 OF THE DUMP (.gsa) THAT YtgggbicmmijlnaaProg.lean LOADS. Nothing in Lean hashes anything: it is a label: what it is worth is what the hold of that sum in a sandbox is worth. -/
noncomputable def Try.pinned : Pinned := { name := "ytgggbicmmijlnaa", sum := "b3c490e68652eeffc167ee445576edb94742731b17451bc1e719305ec9001204", checked := Try.checked }
namespace Rows
def none {H : Type} : Left H := { results := [], args := [] }

/-- 'laws.FnExactParametersOf': WHATEVER THE INPUT: true; the input reads as it did. -/
def fnExactParametersOfSpec : ChangeSpec := { name := "fnExactParametersOf", fn := fun _ => fun
  | [d] => { results := [.lit (.bool true)], args := [d] }
  | _ => none }
def fnExactParametersOfRow : OpenClaim := { program := "ytgggbicmmijlnaa", sum := "b3c490e68652eeffc167ee445576edb94742731b17451bc1e719305ec9001204", func := "loop.example/g00920/laws.FnExactParametersOf", spec := "fnExactParametersOf", unfollowed := true, recurses := true, apart := false }
def FnExactParametersOfSaid : Prop := fnExactParametersOfRow.holds Try.pinned (OpenSpec.ofChange fnExactParametersOfSpec)

/-- ITS FALSE NEIGHBOUR: 'it returns false'. Refute it at one input. -/
def fnExactParametersOfWrong : ChangeSpec := { name := "fnExactParametersOf", fn := fun _ => fun
  | [d] => { results := [.lit (.bool false)], args := [d] }
  | _ => none }
def FnExactParametersOfWrongFalsely : Prop := fnExactParametersOfRow.holds Try.pinned (OpenSpec.ofChange fnExactParametersOfWrong)

/-- 'laws.FnExactExtendRectangle': WHATEVER THE INPUT: true; the input reads as it did. -/
def fnExactExtendRectangleSpec : ChangeSpec := { name := "fnExactExtendRectangle", fn := fun _ => fun
  | [d] => { results := [.lit (.bool true)], args := [d] }
  | _ => none }
def fnExactExtendRectangleRow : OpenClaim := { program := "ytgggbicmmijlnaa", sum := "b3c490e68652eeffc167ee445576edb94742731b17451bc1e719305ec9001204", func := "loop.example/g00920/laws.FnExactExtendRectangle", spec := "fnExactExtendRectangle", unfollowed := true, recurses := true, apart := false }
def FnExactExtendRectangleSaid : Prop := fnExactExtendRectangleRow.holds Try.pinned (OpenSpec.ofChange fnExactExtendRectangleSpec)

/-- ITS FALSE NEIGHBOUR: 'it returns false'. Refute it at one input. -/
def fnExactExtendRectangleWrong : ChangeSpec := { name := "fnExactExtendRectangle", fn := fun _ => fun
  | [d] => { results := [.lit (.bool false)], args := [d] }
  | _ => none }
def FnExactExtendRectangleWrongFalsely : Prop := fnExactExtendRectangleRow.holds Try.pinned (OpenSpec.ofChange fnExactExtendRectangleWrong)

/-- 'laws.FnExactFieldSquare': WHATEVER THE INPUT: true; the input reads as it did. -/
def fnExactFieldSquareSpec : ChangeSpec := { name := "fnExactFieldSquare", fn := fun _ => fun
  | [d1, d2] => { results := [.lit (.bool true)], args := [d1, d2] }
  | _ => none }
def fnExactFieldSquareRow : OpenClaim := { program := "ytgggbicmmijlnaa", sum := "b3c490e68652eeffc167ee445576edb94742731b17451bc1e719305ec9001204", func := "loop.example/g00920/laws.FnExactFieldSquare", spec := "fnExactFieldSquare", unfollowed := true, recurses := true, apart := false }
def FnExactFieldSquareSaid : Prop := fnExactFieldSquareRow.holds Try.pinned (OpenSpec.ofChange fnExactFieldSquareSpec)

/-- ITS FALSE NEIGHBOUR: 'it returns false'. Refute it at one input. -/
def fnExactFieldSquareWrong : ChangeSpec := { name := "fnExactFieldSquare", fn := fun _ => fun
  | [d1, d2] => { results := [.lit (.bool false)], args := [d1, d2] }
  | _ => none }
def FnExactFieldSquareWrongFalsely : Prop := fnExactFieldSquareRow.holds Try.pinned (OpenSpec.ofChange fnExactFieldSquareWrong)

/-- 'laws.FnExactFieldMols': WHATEVER THE INPUT: true; the input reads as it did. -/
def fnExactFieldMolsSpec : ChangeSpec := { name := "fnExactFieldMols", fn := fun _ => fun
  | [d] => { results := [.lit (.bool true)], args := [d] }
  | _ => none }
def fnExactFieldMolsRow : OpenClaim := { program := "ytgggbicmmijlnaa", sum := "b3c490e68652eeffc167ee445576edb94742731b17451bc1e719305ec9001204", func := "loop.example/g00920/laws.FnExactFieldMols", spec := "fnExactFieldMols", unfollowed := true, recurses := true, apart := false }
def FnExactFieldMolsSaid : Prop := fnExactFieldMolsRow.holds Try.pinned (OpenSpec.ofChange fnExactFieldMolsSpec)

/-- ITS FALSE NEIGHBOUR: 'it returns false'. Refute it at one input. -/
def fnExactFieldMolsWrong : ChangeSpec := { name := "fnExactFieldMols", fn := fun _ => fun
  | [d] => { results := [.lit (.bool false)], args := [d] }
  | _ => none }
def FnExactFieldMolsWrongFalsely : Prop := fnExactFieldMolsRow.holds Try.pinned (OpenSpec.ofChange fnExactFieldMolsWrong)

/- THE SECOND FORM. 'bulk': how many values and letters a reading holds, each counted each time it is reached (what is shared counts as often as it is met; a slice's spare places count too). A statement '..UptoSaid' is the law's where the arguments, and the package variables that the reading takes, are together of bulk at most 1048576: NARROWER than '..Said'. Prove '..Said' where nothing that the law and all that it calls make is longer than what came in: it says more and counts as full. Else prove '..UptoSaid'. A law counts once. -/
mutual
def uptoBulk {H : Type} : DataW H → Nat
  | .lit (.string bytes) => bytes.length + 1
  | .lit _ => 1
  | .nil => 1
  | .ptr d => uptoBulk d + 1
  | .slice elems spare => uptoBulkAll elems + uptoBulkAll spare + 1
  | .agg parts => uptoBulkAll parts + 1
  | .iface _ d => uptoBulk d + 1
  | .map entries => uptoBulkEntries entries + 1
  | .held _ => 1
def uptoBulkAll {H : Type} : List (DataW H) → Nat
  | [] => 0
  | d :: r => uptoBulk d + uptoBulkAll r
def uptoBulkEntries {H : Type} : List (Lit × DataW H) → Nat
  | [] => 0
  | x :: r => uptoBulkEntry x + uptoBulkEntries r
def uptoBulkEntry {H : Type} : Lit × DataW H → Nat
  | (.string bytes, d) => bytes.length + uptoBulk d + 1
  | (_, d) => uptoBulk d + 1
 end
def uptoSmall : (H : Type) → List (DataW H) → Bool := fun _ ds => decide (uptoBulkAll ds ≤ 1048576)
def OpenSpec.upto (s : _root_.Go.ChangeSpec) : _root_.Go.OpenSpec := { _root_.Go.OpenSpec.ofChange s with cond := some uptoSmall }

/-- 'laws.FnExactParametersOf', WHERE WHAT IT READS IS OF BULK AT MOST 1048576: true; the input reads as it did. -/
def fnExactParametersOfUptoRow : OpenClaim := { program := "ytgggbicmmijlnaa", sum := "b3c490e68652eeffc167ee445576edb94742731b17451bc1e719305ec9001204", func := "loop.example/g00920/laws.FnExactParametersOf", spec := "fnExactParametersOf", unfollowed := true, recurses := true, apart := false, narrowed := true }
def FnExactParametersOfUptoSaid : Prop := fnExactParametersOfUptoRow.holds Try.pinned (OpenSpec.upto fnExactParametersOfSpec)

/-- 'laws.FnExactExtendRectangle', WHERE WHAT IT READS IS OF BULK AT MOST 1048576: true; the input reads as it did. -/
def fnExactExtendRectangleUptoRow : OpenClaim := { program := "ytgggbicmmijlnaa", sum := "b3c490e68652eeffc167ee445576edb94742731b17451bc1e719305ec9001204", func := "loop.example/g00920/laws.FnExactExtendRectangle", spec := "fnExactExtendRectangle", unfollowed := true, recurses := true, apart := false, narrowed := true }
def FnExactExtendRectangleUptoSaid : Prop := fnExactExtendRectangleUptoRow.holds Try.pinned (OpenSpec.upto fnExactExtendRectangleSpec)

/-- 'laws.FnExactFieldSquare', WHERE WHAT IT READS IS OF BULK AT MOST 1048576: true; the input reads as it did. -/
def fnExactFieldSquareUptoRow : OpenClaim := { program := "ytgggbicmmijlnaa", sum := "b3c490e68652eeffc167ee445576edb94742731b17451bc1e719305ec9001204", func := "loop.example/g00920/laws.FnExactFieldSquare", spec := "fnExactFieldSquare", unfollowed := true, recurses := true, apart := false, narrowed := true }
def FnExactFieldSquareUptoSaid : Prop := fnExactFieldSquareUptoRow.holds Try.pinned (OpenSpec.upto fnExactFieldSquareSpec)

/-- 'laws.FnExactFieldMols', WHERE WHAT IT READS IS OF BULK AT MOST 1048576: true; the input reads as it did. -/
def fnExactFieldMolsUptoRow : OpenClaim := { program := "ytgggbicmmijlnaa", sum := "b3c490e68652eeffc167ee445576edb94742731b17451bc1e719305ec9001204", func := "loop.example/g00920/laws.FnExactFieldMols", spec := "fnExactFieldMols", unfollowed := true, recurses := true, apart := false, narrowed := true }
def FnExactFieldMolsUptoSaid : Prop := fnExactFieldMolsUptoRow.holds Try.pinned (OpenSpec.upto fnExactFieldMolsSpec)

end Rows
end Go.Proofs.Ytgggbicmmijlnaa
