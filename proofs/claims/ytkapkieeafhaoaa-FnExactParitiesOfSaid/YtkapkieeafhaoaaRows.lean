/-
  No cell of these rows narrows 'for every input' (looked for: loops, veiled, ifaces, maps, wideKeys, modest, calm, conditions, laid).
  DERIVED. THE GIVEN ROWS OF THIS SEAT. 11 by the template 'for every input the law returns true; each argument reads behind the call as it read before'; 0 by the template 'total and deterministic' (their statements: YtkapkieeafhaoaaTotals.lean).
  GIVEN WITH THE SEED: the statements are not yours to turn. If you find one false, say at which input.
  Laid BY PROGRAM, IN A SANDBOX (cutbox-rows.mjs): the forced cells as the released guide's own fill.sh prints them over the translation 9551024320628df8… (all of the seat's roots in one cut). By AI agents, Wed Nov 11 2026. No macro, syntax, notation, axiom, sorry.
-/
import Derived.Test.YtkapkieeafhaoaaChecked
import GoSem.Claim
import GoSem.ClaimJoined
import GoSem.ClaimMapViews
import Derived.JoinedTies
import Derived.KernelRfl
namespace Go.Proofs.Ytkapkieeafhaoaa
/- THE CELL 'sum', in the pinned program and in every row, IS THE sha256 OF THE DUMP (.gsa) THAT YtkapkieeafhaoaaProg.lean LOADS. Nothing in Lean hashes anything: it is a label: what it is worth is what the hold of that sum in a sandbox is worth. -/
noncomputable def Try.pinned : Pinned := { name := "ytkapkieeafhaoaa", sum := "9551024320628df8a35c70c1b25e75ebb9f1e7a4a047f6d164636c0b7ef4d771", checked := Try.checked }
namespace Rows
def none {H : Type} : Left H := { results := [], args := [] }

/-- 'laws.FnExactQuadranglesHold': WHATEVER THE INPUT: true; the input reads as it did. -/
def fnExactQuadranglesHoldSpec : ChangeSpec := { name := "fnExactQuadranglesHold", fn := fun _ => fun
  | [d] => { results := [.lit (.bool true)], args := [d] }
  | _ => none }
def fnExactQuadranglesHoldRow : OpenClaim := { program := "ytkapkieeafhaoaa", sum := "9551024320628df8a35c70c1b25e75ebb9f1e7a4a047f6d164636c0b7ef4d771", func := "loop.example/g00920/laws.FnExactQuadranglesHold", spec := "fnExactQuadranglesHold", unfollowed := true, recurses := true, apart := false }
def FnExactQuadranglesHoldSaid : Prop := fnExactQuadranglesHoldRow.holds Try.pinned (OpenSpec.ofChange fnExactQuadranglesHoldSpec)

/-- ITS FALSE NEIGHBOUR: 'it returns false'. Refute it at one input. -/
def fnExactQuadranglesHoldWrong : ChangeSpec := { name := "fnExactQuadranglesHold", fn := fun _ => fun
  | [d] => { results := [.lit (.bool false)], args := [d] }
  | _ => none }
def FnExactQuadranglesHoldWrongFalsely : Prop := fnExactQuadranglesHoldRow.holds Try.pinned (OpenSpec.ofChange fnExactQuadranglesHoldWrong)

/-- 'laws.FnExactReducedSquare': WHATEVER THE INPUT: true; the input reads as it did. -/
def fnExactReducedSquareSpec : ChangeSpec := { name := "fnExactReducedSquare", fn := fun _ => fun
  | [d] => { results := [.lit (.bool true)], args := [d] }
  | _ => none }
def fnExactReducedSquareRow : OpenClaim := { program := "ytkapkieeafhaoaa", sum := "9551024320628df8a35c70c1b25e75ebb9f1e7a4a047f6d164636c0b7ef4d771", func := "loop.example/g00920/laws.FnExactReducedSquare", spec := "fnExactReducedSquare", unfollowed := true, recurses := true, apart := false }
def FnExactReducedSquareSaid : Prop := fnExactReducedSquareRow.holds Try.pinned (OpenSpec.ofChange fnExactReducedSquareSpec)

/-- ITS FALSE NEIGHBOUR: 'it returns false'. Refute it at one input. -/
def fnExactReducedSquareWrong : ChangeSpec := { name := "fnExactReducedSquare", fn := fun _ => fun
  | [d] => { results := [.lit (.bool false)], args := [d] }
  | _ => none }
def FnExactReducedSquareWrongFalsely : Prop := fnExactReducedSquareRow.holds Try.pinned (OpenSpec.ofChange fnExactReducedSquareWrong)

/-- 'laws.FnExactClosureIn': WHATEVER THE INPUT: true; the input reads as it did. -/
def fnExactClosureInSpec : ChangeSpec := { name := "fnExactClosureIn", fn := fun _ => fun
  | [d1, d2] => { results := [.lit (.bool true)], args := [d1, d2] }
  | _ => none }
def fnExactClosureInRow : OpenClaim := { program := "ytkapkieeafhaoaa", sum := "9551024320628df8a35c70c1b25e75ebb9f1e7a4a047f6d164636c0b7ef4d771", func := "loop.example/g00920/laws.FnExactClosureIn", spec := "fnExactClosureIn", unfollowed := true, recurses := true, apart := false }
def FnExactClosureInSaid : Prop := fnExactClosureInRow.holds Try.pinned (OpenSpec.ofChange fnExactClosureInSpec)

/-- ITS FALSE NEIGHBOUR: 'it returns false'. Refute it at one input. -/
def fnExactClosureInWrong : ChangeSpec := { name := "fnExactClosureIn", fn := fun _ => fun
  | [d1, d2] => { results := [.lit (.bool false)], args := [d1, d2] }
  | _ => none }
def FnExactClosureInWrongFalsely : Prop := fnExactClosureInRow.holds Try.pinned (OpenSpec.ofChange fnExactClosureInWrong)

/-- 'laws.FnExactIsGroupBased': WHATEVER THE INPUT: true; the input reads as it did. -/
def fnExactIsGroupBasedSpec : ChangeSpec := { name := "fnExactIsGroupBased", fn := fun _ => fun
  | [d] => { results := [.lit (.bool true)], args := [d] }
  | _ => none }
def fnExactIsGroupBasedRow : OpenClaim := { program := "ytkapkieeafhaoaa", sum := "9551024320628df8a35c70c1b25e75ebb9f1e7a4a047f6d164636c0b7ef4d771", func := "loop.example/g00920/laws.FnExactIsGroupBased", spec := "fnExactIsGroupBased", unfollowed := true, recurses := true, apart := false }
def FnExactIsGroupBasedSaid : Prop := fnExactIsGroupBasedRow.holds Try.pinned (OpenSpec.ofChange fnExactIsGroupBasedSpec)

/-- ITS FALSE NEIGHBOUR: 'it returns false'. Refute it at one input. -/
def fnExactIsGroupBasedWrong : ChangeSpec := { name := "fnExactIsGroupBased", fn := fun _ => fun
  | [d] => { results := [.lit (.bool false)], args := [d] }
  | _ => none }
def FnExactIsGroupBasedWrongFalsely : Prop := fnExactIsGroupBasedRow.holds Try.pinned (OpenSpec.ofChange fnExactIsGroupBasedWrong)

/-- 'laws.FnExactValidMols': WHATEVER THE INPUT: true; the input reads as it did. -/
def fnExactValidMolsSpec : ChangeSpec := { name := "fnExactValidMols", fn := fun _ => fun
  | [d] => { results := [.lit (.bool true)], args := [d] }
  | _ => none }
def fnExactValidMolsRow : OpenClaim := { program := "ytkapkieeafhaoaa", sum := "9551024320628df8a35c70c1b25e75ebb9f1e7a4a047f6d164636c0b7ef4d771", func := "loop.example/g00920/laws.FnExactValidMols", spec := "fnExactValidMols", unfollowed := true, recurses := true, apart := false }
def FnExactValidMolsSaid : Prop := fnExactValidMolsRow.holds Try.pinned (OpenSpec.ofChange fnExactValidMolsSpec)

/-- ITS FALSE NEIGHBOUR: 'it returns false'. Refute it at one input. -/
def fnExactValidMolsWrong : ChangeSpec := { name := "fnExactValidMols", fn := fun _ => fun
  | [d] => { results := [.lit (.bool false)], args := [d] }
  | _ => none }
def FnExactValidMolsWrongFalsely : Prop := fnExactValidMolsRow.holds Try.pinned (OpenSpec.ofChange fnExactValidMolsWrong)

/-- 'laws.FnExactSwitchIntercalate': WHATEVER THE INPUT: true; the input reads as it did. -/
def fnExactSwitchIntercalateSpec : ChangeSpec := { name := "fnExactSwitchIntercalate", fn := fun _ => fun
  | [d1, d2] => { results := [.lit (.bool true)], args := [d1, d2] }
  | _ => none }
def fnExactSwitchIntercalateRow : OpenClaim := { program := "ytkapkieeafhaoaa", sum := "9551024320628df8a35c70c1b25e75ebb9f1e7a4a047f6d164636c0b7ef4d771", func := "loop.example/g00920/laws.FnExactSwitchIntercalate", spec := "fnExactSwitchIntercalate", unfollowed := true, recurses := true, apart := false }
def FnExactSwitchIntercalateSaid : Prop := fnExactSwitchIntercalateRow.holds Try.pinned (OpenSpec.ofChange fnExactSwitchIntercalateSpec)

/-- ITS FALSE NEIGHBOUR: 'it returns false'. Refute it at one input. -/
def fnExactSwitchIntercalateWrong : ChangeSpec := { name := "fnExactSwitchIntercalate", fn := fun _ => fun
  | [d1, d2] => { results := [.lit (.bool false)], args := [d1, d2] }
  | _ => none }
def FnExactSwitchIntercalateWrongFalsely : Prop := fnExactSwitchIntercalateRow.holds Try.pinned (OpenSpec.ofChange fnExactSwitchIntercalateWrong)

/-- 'laws.FnExactConjugate': WHATEVER THE INPUT: true; the input reads as it did. -/
def fnExactConjugateSpec : ChangeSpec := { name := "fnExactConjugate", fn := fun _ => fun
  | [d1, d2] => { results := [.lit (.bool true)], args := [d1, d2] }
  | _ => none }
def fnExactConjugateRow : OpenClaim := { program := "ytkapkieeafhaoaa", sum := "9551024320628df8a35c70c1b25e75ebb9f1e7a4a047f6d164636c0b7ef4d771", func := "loop.example/g00920/laws.FnExactConjugate", spec := "fnExactConjugate", unfollowed := true, recurses := true, apart := false }
def FnExactConjugateSaid : Prop := fnExactConjugateRow.holds Try.pinned (OpenSpec.ofChange fnExactConjugateSpec)

/-- ITS FALSE NEIGHBOUR: 'it returns false'. Refute it at one input. -/
def fnExactConjugateWrong : ChangeSpec := { name := "fnExactConjugate", fn := fun _ => fun
  | [d1, d2] => { results := [.lit (.bool false)], args := [d1, d2] }
  | _ => none }
def FnExactConjugateWrongFalsely : Prop := fnExactConjugateRow.holds Try.pinned (OpenSpec.ofChange fnExactConjugateWrong)

/-- 'laws.FnExactParitiesOf': WHATEVER THE INPUT: true; the input reads as it did. -/
def fnExactParitiesOfSpec : ChangeSpec := { name := "fnExactParitiesOf", fn := fun _ => fun
  | [d] => { results := [.lit (.bool true)], args := [d] }
  | _ => none }
def fnExactParitiesOfRow : OpenClaim := { program := "ytkapkieeafhaoaa", sum := "9551024320628df8a35c70c1b25e75ebb9f1e7a4a047f6d164636c0b7ef4d771", func := "loop.example/g00920/laws.FnExactParitiesOf", spec := "fnExactParitiesOf", unfollowed := true, recurses := true, apart := false }
def FnExactParitiesOfSaid : Prop := fnExactParitiesOfRow.holds Try.pinned (OpenSpec.ofChange fnExactParitiesOfSpec)

/-- ITS FALSE NEIGHBOUR: 'it returns false'. Refute it at one input. -/
def fnExactParitiesOfWrong : ChangeSpec := { name := "fnExactParitiesOf", fn := fun _ => fun
  | [d] => { results := [.lit (.bool false)], args := [d] }
  | _ => none }
def FnExactParitiesOfWrongFalsely : Prop := fnExactParitiesOfRow.holds Try.pinned (OpenSpec.ofChange fnExactParitiesOfWrong)

/-- 'laws.FnExactTransversalsOfMate': WHATEVER THE INPUT: true; the input reads as it did. -/
def fnExactTransversalsOfMateSpec : ChangeSpec := { name := "fnExactTransversalsOfMate", fn := fun _ => fun
  | [d1, d2] => { results := [.lit (.bool true)], args := [d1, d2] }
  | _ => none }
def fnExactTransversalsOfMateRow : OpenClaim := { program := "ytkapkieeafhaoaa", sum := "9551024320628df8a35c70c1b25e75ebb9f1e7a4a047f6d164636c0b7ef4d771", func := "loop.example/g00920/laws.FnExactTransversalsOfMate", spec := "fnExactTransversalsOfMate", unfollowed := true, recurses := true, apart := false }
def FnExactTransversalsOfMateSaid : Prop := fnExactTransversalsOfMateRow.holds Try.pinned (OpenSpec.ofChange fnExactTransversalsOfMateSpec)

/-- ITS FALSE NEIGHBOUR: 'it returns false'. Refute it at one input. -/
def fnExactTransversalsOfMateWrong : ChangeSpec := { name := "fnExactTransversalsOfMate", fn := fun _ => fun
  | [d1, d2] => { results := [.lit (.bool false)], args := [d1, d2] }
  | _ => none }
def FnExactTransversalsOfMateWrongFalsely : Prop := fnExactTransversalsOfMateRow.holds Try.pinned (OpenSpec.ofChange fnExactTransversalsOfMateWrong)

/-- 'laws.FnExactIdentitiesOf': WHATEVER THE INPUT: true; the input reads as it did. -/
def fnExactIdentitiesOfSpec : ChangeSpec := { name := "fnExactIdentitiesOf", fn := fun _ => fun
  | [d] => { results := [.lit (.bool true)], args := [d] }
  | _ => none }
def fnExactIdentitiesOfRow : OpenClaim := { program := "ytkapkieeafhaoaa", sum := "9551024320628df8a35c70c1b25e75ebb9f1e7a4a047f6d164636c0b7ef4d771", func := "loop.example/g00920/laws.FnExactIdentitiesOf", spec := "fnExactIdentitiesOf", unfollowed := true, recurses := true, apart := false }
def FnExactIdentitiesOfSaid : Prop := fnExactIdentitiesOfRow.holds Try.pinned (OpenSpec.ofChange fnExactIdentitiesOfSpec)

/-- ITS FALSE NEIGHBOUR: 'it returns false'. Refute it at one input. -/
def fnExactIdentitiesOfWrong : ChangeSpec := { name := "fnExactIdentitiesOf", fn := fun _ => fun
  | [d] => { results := [.lit (.bool false)], args := [d] }
  | _ => none }
def FnExactIdentitiesOfWrongFalsely : Prop := fnExactIdentitiesOfRow.holds Try.pinned (OpenSpec.ofChange fnExactIdentitiesOfWrong)

/-- 'laws.FnExactProductMols': WHATEVER THE INPUT: true; the input reads as it did. -/
def fnExactProductMolsSpec : ChangeSpec := { name := "fnExactProductMols", fn := fun _ => fun
  | [d1, d2] => { results := [.lit (.bool true)], args := [d1, d2] }
  | _ => none }
def fnExactProductMolsRow : OpenClaim := { program := "ytkapkieeafhaoaa", sum := "9551024320628df8a35c70c1b25e75ebb9f1e7a4a047f6d164636c0b7ef4d771", func := "loop.example/g00920/laws.FnExactProductMols", spec := "fnExactProductMols", unfollowed := true, recurses := true, apart := false }
def FnExactProductMolsSaid : Prop := fnExactProductMolsRow.holds Try.pinned (OpenSpec.ofChange fnExactProductMolsSpec)

/-- ITS FALSE NEIGHBOUR: 'it returns false'. Refute it at one input. -/
def fnExactProductMolsWrong : ChangeSpec := { name := "fnExactProductMols", fn := fun _ => fun
  | [d1, d2] => { results := [.lit (.bool false)], args := [d1, d2] }
  | _ => none }
def FnExactProductMolsWrongFalsely : Prop := fnExactProductMolsRow.holds Try.pinned (OpenSpec.ofChange fnExactProductMolsWrong)

/- THE SECOND FORM. 'bulk': how many values and letters a reading holds, each counted each time it is reached (what is shared counts as often as it is met; a slice's spare places count too). A statement '..UptoSaid' is the law's where the arguments, and the package variables that the reading takes, are together of bulk at most 1048576: NARROWER than '..Said'. Prove '..Said' where nothing that the law and all that it calls make is longer than what came in: it says more and counts as full. Else prove '..UptoSaid'. A law counts once. -/
mutual
def uptoBulk {H : Type} : DataW H → Nat
  | .lit (.string bytes) => bytes.length + 1
  | .lit _ => 1
  | .nil => 1
  | .ptr d => uptoBulk d + 1
  | .slice elems spare => uptoBulkAll elems + uptoBulkAll spare + 1
  | .agg parts => uptoBulkAll parts + 1
  | .iface _ d => uptoBulk d + 1
  | .map entries => uptoBulkEntries entries + 1
  | .held _ => 1
def uptoBulkAll {H : Type} : List (DataW H) → Nat
  | [] => 0
  | d :: r => uptoBulk d + uptoBulkAll r
def uptoBulkEntries {H : Type} : List (Lit × DataW H) → Nat
  | [] => 0
  | x :: r => uptoBulkEntry x + uptoBulkEntries r
def uptoBulkEntry {H : Type} : Lit × DataW H → Nat
  | (.string bytes, d) => bytes.length + uptoBulk d + 1
  | (_, d) => uptoBulk d + 1
 end
def uptoSmall : (H : Type) → List (DataW H) → Bool := fun _ ds => decide (uptoBulkAll ds ≤ 1048576)
def OpenSpec.upto (s : _root_.Go.ChangeSpec) : _root_.Go.OpenSpec := { _root_.Go.OpenSpec.ofChange s with cond := some uptoSmall }

/-- 'laws.FnExactQuadranglesHold', WHERE WHAT IT READS IS OF BULK AT MOST 1048576: true; the input reads as it did. -/
def fnExactQuadranglesHoldUptoRow : OpenClaim := { program := "ytkapkieeafhaoaa", sum := "9551024320628df8a35c70c1b25e75ebb9f1e7a4a047f6d164636c0b7ef4d771", func := "loop.example/g00920/laws.FnExactQuadranglesHold", spec := "fnExactQuadranglesHold", unfollowed := true, recurses := true, apart := false, narrowed := true }
def FnExactQuadranglesHoldUptoSaid : Prop := fnExactQuadranglesHoldUptoRow.holds Try.pinned (OpenSpec.upto fnExactQuadranglesHoldSpec)

/-- 'laws.FnExactReducedSquare', WHERE WHAT IT READS IS OF BULK AT MOST 1048576: true; the input reads as it did. -/
def fnExactReducedSquareUptoRow : OpenClaim := { program := "ytkapkieeafhaoaa", sum := "9551024320628df8a35c70c1b25e75ebb9f1e7a4a047f6d164636c0b7ef4d771", func := "loop.example/g00920/laws.FnExactReducedSquare", spec := "fnExactReducedSquare", unfollowed := true, recurses := true, apart := false, narrowed := true }
def FnExactReducedSquareUptoSaid : Prop := fnExactReducedSquareUptoRow.holds Try.pinned (OpenSpec.upto fnExactReducedSquareSpec)

/-- 'laws.FnExactClosureIn', WHERE WHAT IT READS IS OF BULK AT MOST 1048576: true; the input reads as it did. -/
def fnExactClosureInUptoRow : OpenClaim := { program := "ytkapkieeafhaoaa", sum := "9551024320628df8a35c70c1b25e75ebb9f1e7a4a047f6d164636c0b7ef4d771", func := "loop.example/g00920/laws.FnExactClosureIn", spec := "fnExactClosureIn", unfollowed := true, recurses := true, apart := false, narrowed := true }
def FnExactClosureInUptoSaid : Prop := fnExactClosureInUptoRow.holds Try.pinned (OpenSpec.upto fnExactClosureInSpec)

/-- 'laws.FnExactIsGroupBased', WHERE WHAT IT READS IS OF BULK AT MOST 1048576: true; the input reads as it did. -/
def fnExactIsGroupBasedUptoRow : OpenClaim := { program := "ytkapkieeafhaoaa", sum := "9551024320628df8a35c70c1b25e75ebb9f1e7a4a047f6d164636c0b7ef4d771", func := "loop.example/g00920/laws.FnExactIsGroupBased", spec := "fnExactIsGroupBased", unfollowed := true, recurses := true, apart := false, narrowed := true }
def FnExactIsGroupBasedUptoSaid : Prop := fnExactIsGroupBasedUptoRow.holds Try.pinned (OpenSpec.upto fnExactIsGroupBasedSpec)

/-- 'laws.FnExactValidMols', WHERE WHAT IT READS IS OF BULK AT MOST 1048576: true; the input reads as it did. -/
def fnExactValidMolsUptoRow : OpenClaim := { program := "ytkapkieeafhaoaa", sum := "9551024320628df8a35c70c1b25e75ebb9f1e7a4a047f6d164636c0b7ef4d771", func := "loop.example/g00920/laws.FnExactValidMols", spec := "fnExactValidMols", unfollowed := true, recurses := true, apart := false, narrowed := true }
def FnExactValidMolsUptoSaid : Prop := fnExactValidMolsUptoRow.holds Try.pinned (OpenSpec.upto fnExactValidMolsSpec)

/-- 'laws.FnExactSwitchIntercalate', WHERE WHAT IT READS IS OF BULK AT MOST 1048576: true; the input reads as it did. -/
def fnExactSwitchIntercalateUptoRow : OpenClaim := { program := "ytkapkieeafhaoaa", sum := "9551024320628df8a35c70c1b25e75ebb9f1e7a4a047f6d164636c0b7ef4d771", func := "loop.example/g00920/laws.FnExactSwitchIntercalate", spec := "fnExactSwitchIntercalate", unfollowed := true, recurses := true, apart := false, narrowed := true }
def FnExactSwitchIntercalateUptoSaid : Prop := fnExactSwitchIntercalateUptoRow.holds Try.pinned (OpenSpec.upto fnExactSwitchIntercalateSpec)

/-- 'laws.FnExactConjugate', WHERE WHAT IT READS IS OF BULK AT MOST 1048576: true; the input reads as it did. -/
def fnExactConjugateUptoRow : OpenClaim := { program := "ytkapkieeafhaoaa", sum := "9551024320628df8a35c70c1b25e75ebb9f1e7a4a047f6d164636c0b7ef4d771", func := "loop.example/g00920/laws.FnExactConjugate", spec := "fnExactConjugate", unfollowed := true, recurses := true, apart := false, narrowed := true }
def FnExactConjugateUptoSaid : Prop := fnExactConjugateUptoRow.holds Try.pinned (OpenSpec.upto fnExactConjugateSpec)

/-- 'laws.FnExactParitiesOf', WHERE WHAT IT READS IS OF BULK AT MOST 1048576: true; the input reads as it did. -/
def fnExactParitiesOfUptoRow : OpenClaim := { program := "ytkapkieeafhaoaa", sum := "9551024320628df8a35c70c1b25e75ebb9f1e7a4a047f6d164636c0b7ef4d771", func := "loop.example/g00920/laws.FnExactParitiesOf", spec := "fnExactParitiesOf", unfollowed := true, recurses := true, apart := false, narrowed := true }
def FnExactParitiesOfUptoSaid : Prop := fnExactParitiesOfUptoRow.holds Try.pinned (OpenSpec.upto fnExactParitiesOfSpec)

/-- 'laws.FnExactTransversalsOfMate', WHERE WHAT IT READS IS OF BULK AT MOST 1048576: true; the input reads as it did. -/
def fnExactTransversalsOfMateUptoRow : OpenClaim := { program := "ytkapkieeafhaoaa", sum := "9551024320628df8a35c70c1b25e75ebb9f1e7a4a047f6d164636c0b7ef4d771", func := "loop.example/g00920/laws.FnExactTransversalsOfMate", spec := "fnExactTransversalsOfMate", unfollowed := true, recurses := true, apart := false, narrowed := true }
def FnExactTransversalsOfMateUptoSaid : Prop := fnExactTransversalsOfMateUptoRow.holds Try.pinned (OpenSpec.upto fnExactTransversalsOfMateSpec)

/-- 'laws.FnExactIdentitiesOf', WHERE WHAT IT READS IS OF BULK AT MOST 1048576: true; the input reads as it did. -/
def fnExactIdentitiesOfUptoRow : OpenClaim := { program := "ytkapkieeafhaoaa", sum := "9551024320628df8a35c70c1b25e75ebb9f1e7a4a047f6d164636c0b7ef4d771", func := "loop.example/g00920/laws.FnExactIdentitiesOf", spec := "fnExactIdentitiesOf", unfollowed := true, recurses := true, apart := false, narrowed := true }
def FnExactIdentitiesOfUptoSaid : Prop := fnExactIdentitiesOfUptoRow.holds Try.pinned (OpenSpec.upto fnExactIdentitiesOfSpec)

/-- 'laws.FnExactProductMols', WHERE WHAT IT READS IS OF BULK AT MOST 1048576: true; the input reads as it did. -/
def fnExactProductMolsUptoRow : OpenClaim := { program := "ytkapkieeafhaoaa", sum := "9551024320628df8a35c70c1b25e75ebb9f1e7a4a047f6d164636c0b7ef4d771", func := "loop.example/g00920/laws.FnExactProductMols", spec := "fnExactProductMols", unfollowed := true, recurses := true, apart := false, narrowed := true }
def FnExactProductMolsUptoSaid : Prop := fnExactProductMolsUptoRow.holds Try.pinned (OpenSpec.upto fnExactProductMolsSpec)

end Rows
end Go.Proofs.Ytkapkieeafhaoaa
