/-
  No cell of these rows narrows 'for every input' (looked for: loops, veiled, ifaces, maps, wideKeys, modest, calm, conditions, laid).
  DERIVED. THE GIVEN ROWS OF THIS SEAT. 12 by the template 'for every input the law returns true; each argument reads behind the call as it read before'; 0 by the template 'total and deterministic' (their statements: YthpcogjglpnjeaaTotals.lean).
  GIVEN WITH THE SEED: the statements are not yours to turn. If you find one false, say at which input.
  Laid BY PROGRAM, IN A SANDBOX (cutbox-rows.mjs): the forced cells as the released guide's own fill.sh prints them over the translation c29654d3512bf128… (all of the seat's roots in one cut). By AI agents, Wed Nov 11 2026. No macro, syntax, notation, axiom, sorry.
-/
import Derived.Test.YthpcogjglpnjeaaChecked
import GoSem.Claim
import GoSem.ClaimJoined
import GoSem.ClaimMapViews
import Derived.JoinedTies
import Derived.KernelRfl
namespace Go.Proofs.Ythpcogjglpnjeaa
/- THE CELL 'sum', in the pinned program and in every row, IS THE sha256 OF THE DUMP (.gsa) THAT YthpcogjglpnjeaaProg.lean LOADS. Nothing in Lean hashes anything: it is a label: what it is worth is what the hold of that sum in a sandbox is worth. -/
noncomputable def Try.pinned : Pinned := { name := "ythpcogjglpnjeaa", sum := "c29654d3512bf128f8860a51faa70f386a8bc3bf579e23d2c9d41ce458989ce6", checked := Try.checked }
namespace Rows
def none {H : Type} : Left H := { results := [], args := [] }

/-- 'laws.FnExactValidSquare': WHATEVER THE INPUT: true; the input reads as it did. -/
def fnExactValidSquareSpec : ChangeSpec := { name := "fnExactValidSquare", fn := fun _ => fun
  | [d] => { results := [.lit (.bool true)], args := [d] }
  | _ => none }
def fnExactValidSquareRow : OpenClaim := { program := "ythpcogjglpnjeaa", sum := "c29654d3512bf128f8860a51faa70f386a8bc3bf579e23d2c9d41ce458989ce6", func := "loop.example/g00920/laws.FnExactValidSquare", spec := "fnExactValidSquare", unfollowed := true, recurses := true, apart := false }
def FnExactValidSquareSaid : Prop := fnExactValidSquareRow.holds Try.pinned (OpenSpec.ofChange fnExactValidSquareSpec)

/-- ITS FALSE NEIGHBOUR: 'it returns false'. Refute it at one input. -/
def fnExactValidSquareWrong : ChangeSpec := { name := "fnExactValidSquare", fn := fun _ => fun
  | [d] => { results := [.lit (.bool false)], args := [d] }
  | _ => none }
def FnExactValidSquareWrongFalsely : Prop := fnExactValidSquareRow.holds Try.pinned (OpenSpec.ofChange fnExactValidSquareWrong)

/-- 'laws.FnExactIsReduced': WHATEVER THE INPUT: true; the input reads as it did. -/
def fnExactIsReducedSpec : ChangeSpec := { name := "fnExactIsReduced", fn := fun _ => fun
  | [d] => { results := [.lit (.bool true)], args := [d] }
  | _ => none }
def fnExactIsReducedRow : OpenClaim := { program := "ythpcogjglpnjeaa", sum := "c29654d3512bf128f8860a51faa70f386a8bc3bf579e23d2c9d41ce458989ce6", func := "loop.example/g00920/laws.FnExactIsReduced", spec := "fnExactIsReduced", unfollowed := true, recurses := true, apart := false }
def FnExactIsReducedSaid : Prop := fnExactIsReducedRow.holds Try.pinned (OpenSpec.ofChange fnExactIsReducedSpec)

/-- ITS FALSE NEIGHBOUR: 'it returns false'. Refute it at one input. -/
def fnExactIsReducedWrong : ChangeSpec := { name := "fnExactIsReduced", fn := fun _ => fun
  | [d] => { results := [.lit (.bool false)], args := [d] }
  | _ => none }
def FnExactIsReducedWrongFalsely : Prop := fnExactIsReducedRow.holds Try.pinned (OpenSpec.ofChange fnExactIsReducedWrong)

/-- 'laws.FnExactIsTransversal': WHATEVER THE INPUT: true; the input reads as it did. -/
def fnExactIsTransversalSpec : ChangeSpec := { name := "fnExactIsTransversal", fn := fun _ => fun
  | [d1, d2] => { results := [.lit (.bool true)], args := [d1, d2] }
  | _ => none }
def fnExactIsTransversalRow : OpenClaim := { program := "ythpcogjglpnjeaa", sum := "c29654d3512bf128f8860a51faa70f386a8bc3bf579e23d2c9d41ce458989ce6", func := "loop.example/g00920/laws.FnExactIsTransversal", spec := "fnExactIsTransversal", unfollowed := true, recurses := true, apart := false }
def FnExactIsTransversalSaid : Prop := fnExactIsTransversalRow.holds Try.pinned (OpenSpec.ofChange fnExactIsTransversalSpec)

/-- ITS FALSE NEIGHBOUR: 'it returns false'. Refute it at one input. -/
def fnExactIsTransversalWrong : ChangeSpec := { name := "fnExactIsTransversal", fn := fun _ => fun
  | [d1, d2] => { results := [.lit (.bool false)], args := [d1, d2] }
  | _ => none }
def FnExactIsTransversalWrongFalsely : Prop := fnExactIsTransversalRow.holds Try.pinned (OpenSpec.ofChange fnExactIsTransversalWrong)

/-- 'laws.FnExactSymbolColumns': WHATEVER THE INPUT: true; the input reads as it did. -/
def fnExactSymbolColumnsSpec : ChangeSpec := { name := "fnExactSymbolColumns", fn := fun _ => fun
  | [d1, d2] => { results := [.lit (.bool true)], args := [d1, d2] }
  | _ => none }
def fnExactSymbolColumnsRow : OpenClaim := { program := "ythpcogjglpnjeaa", sum := "c29654d3512bf128f8860a51faa70f386a8bc3bf579e23d2c9d41ce458989ce6", func := "loop.example/g00920/laws.FnExactSymbolColumns", spec := "fnExactSymbolColumns", unfollowed := true, recurses := true, apart := false }
def FnExactSymbolColumnsSaid : Prop := fnExactSymbolColumnsRow.holds Try.pinned (OpenSpec.ofChange fnExactSymbolColumnsSpec)

/-- ITS FALSE NEIGHBOUR: 'it returns false'. Refute it at one input. -/
def fnExactSymbolColumnsWrong : ChangeSpec := { name := "fnExactSymbolColumns", fn := fun _ => fun
  | [d1, d2] => { results := [.lit (.bool false)], args := [d1, d2] }
  | _ => none }
def FnExactSymbolColumnsWrongFalsely : Prop := fnExactSymbolColumnsRow.holds Try.pinned (OpenSpec.ofChange fnExactSymbolColumnsWrong)

/-- 'laws.FnExactIsSubsquare': WHATEVER THE INPUT: true; the input reads as it did. -/
def fnExactIsSubsquareSpec : ChangeSpec := { name := "fnExactIsSubsquare", fn := fun _ => fun
  | [d1, d2, d3] => { results := [.lit (.bool true)], args := [d1, d2, d3] }
  | _ => none }
def fnExactIsSubsquareRow : OpenClaim := { program := "ythpcogjglpnjeaa", sum := "c29654d3512bf128f8860a51faa70f386a8bc3bf579e23d2c9d41ce458989ce6", func := "loop.example/g00920/laws.FnExactIsSubsquare", spec := "fnExactIsSubsquare", unfollowed := true, recurses := true, apart := false }
def FnExactIsSubsquareSaid : Prop := fnExactIsSubsquareRow.holds Try.pinned (OpenSpec.ofChange fnExactIsSubsquareSpec)

/-- ITS FALSE NEIGHBOUR: 'it returns false'. Refute it at one input. -/
def fnExactIsSubsquareWrong : ChangeSpec := { name := "fnExactIsSubsquare", fn := fun _ => fun
  | [d1, d2, d3] => { results := [.lit (.bool false)], args := [d1, d2, d3] }
  | _ => none }
def FnExactIsSubsquareWrongFalsely : Prop := fnExactIsSubsquareRow.holds Try.pinned (OpenSpec.ofChange fnExactIsSubsquareWrong)

/-- 'laws.FnExactOrthogonal': WHATEVER THE INPUT: true; the input reads as it did. -/
def fnExactOrthogonalSpec : ChangeSpec := { name := "fnExactOrthogonal", fn := fun _ => fun
  | [d1, d2] => { results := [.lit (.bool true)], args := [d1, d2] }
  | _ => none }
def fnExactOrthogonalRow : OpenClaim := { program := "ythpcogjglpnjeaa", sum := "c29654d3512bf128f8860a51faa70f386a8bc3bf579e23d2c9d41ce458989ce6", func := "loop.example/g00920/laws.FnExactOrthogonal", spec := "fnExactOrthogonal", unfollowed := true, recurses := true, apart := false }
def FnExactOrthogonalSaid : Prop := fnExactOrthogonalRow.holds Try.pinned (OpenSpec.ofChange fnExactOrthogonalSpec)

/-- ITS FALSE NEIGHBOUR: 'it returns false'. Refute it at one input. -/
def fnExactOrthogonalWrong : ChangeSpec := { name := "fnExactOrthogonal", fn := fun _ => fun
  | [d1, d2] => { results := [.lit (.bool false)], args := [d1, d2] }
  | _ => none }
def FnExactOrthogonalWrongFalsely : Prop := fnExactOrthogonalRow.holds Try.pinned (OpenSpec.ofChange fnExactOrthogonalWrong)

/-- 'laws.FnExactUnitOf': WHATEVER THE INPUT: true; the input reads as it did. -/
def fnExactUnitOfSpec : ChangeSpec := { name := "fnExactUnitOf", fn := fun _ => fun
  | [d] => { results := [.lit (.bool true)], args := [d] }
  | _ => none }
def fnExactUnitOfRow : OpenClaim := { program := "ythpcogjglpnjeaa", sum := "c29654d3512bf128f8860a51faa70f386a8bc3bf579e23d2c9d41ce458989ce6", func := "loop.example/g00920/laws.FnExactUnitOf", spec := "fnExactUnitOf", unfollowed := true, recurses := true, apart := false }
def FnExactUnitOfSaid : Prop := fnExactUnitOfRow.holds Try.pinned (OpenSpec.ofChange fnExactUnitOfSpec)

/-- ITS FALSE NEIGHBOUR: 'it returns false'. Refute it at one input. -/
def fnExactUnitOfWrong : ChangeSpec := { name := "fnExactUnitOf", fn := fun _ => fun
  | [d] => { results := [.lit (.bool false)], args := [d] }
  | _ => none }
def FnExactUnitOfWrongFalsely : Prop := fnExactUnitOfRow.holds Try.pinned (OpenSpec.ofChange fnExactUnitOfWrong)

/-- 'laws.FnExactRowMap': WHATEVER THE INPUT: true; the input reads as it did. -/
def fnExactRowMapSpec : ChangeSpec := { name := "fnExactRowMap", fn := fun _ => fun
  | [d1, d2, d3] => { results := [.lit (.bool true)], args := [d1, d2, d3] }
  | _ => none }
def fnExactRowMapRow : OpenClaim := { program := "ythpcogjglpnjeaa", sum := "c29654d3512bf128f8860a51faa70f386a8bc3bf579e23d2c9d41ce458989ce6", func := "loop.example/g00920/laws.FnExactRowMap", spec := "fnExactRowMap", unfollowed := true, recurses := true, apart := false }
def FnExactRowMapSaid : Prop := fnExactRowMapRow.holds Try.pinned (OpenSpec.ofChange fnExactRowMapSpec)

/-- ITS FALSE NEIGHBOUR: 'it returns false'. Refute it at one input. -/
def fnExactRowMapWrong : ChangeSpec := { name := "fnExactRowMap", fn := fun _ => fun
  | [d1, d2, d3] => { results := [.lit (.bool false)], args := [d1, d2, d3] }
  | _ => none }
def FnExactRowMapWrongFalsely : Prop := fnExactRowMapRow.holds Try.pinned (OpenSpec.ofChange fnExactRowMapWrong)

/-- 'laws.FnExactSuperpose': WHATEVER THE INPUT: true; the input reads as it did. -/
def fnExactSuperposeSpec : ChangeSpec := { name := "fnExactSuperpose", fn := fun _ => fun
  | [d1, d2] => { results := [.lit (.bool true)], args := [d1, d2] }
  | _ => none }
def fnExactSuperposeRow : OpenClaim := { program := "ythpcogjglpnjeaa", sum := "c29654d3512bf128f8860a51faa70f386a8bc3bf579e23d2c9d41ce458989ce6", func := "loop.example/g00920/laws.FnExactSuperpose", spec := "fnExactSuperpose", unfollowed := true, recurses := true, apart := false }
def FnExactSuperposeSaid : Prop := fnExactSuperposeRow.holds Try.pinned (OpenSpec.ofChange fnExactSuperposeSpec)

/-- ITS FALSE NEIGHBOUR: 'it returns false'. Refute it at one input. -/
def fnExactSuperposeWrong : ChangeSpec := { name := "fnExactSuperpose", fn := fun _ => fun
  | [d1, d2] => { results := [.lit (.bool false)], args := [d1, d2] }
  | _ => none }
def FnExactSuperposeWrongFalsely : Prop := fnExactSuperposeRow.holds Try.pinned (OpenSpec.ofChange fnExactSuperposeWrong)

/-- 'laws.FnExactProductSquare': WHATEVER THE INPUT: true; the input reads as it did. -/
def fnExactProductSquareSpec : ChangeSpec := { name := "fnExactProductSquare", fn := fun _ => fun
  | [d1, d2] => { results := [.lit (.bool true)], args := [d1, d2] }
  | _ => none }
def fnExactProductSquareRow : OpenClaim := { program := "ythpcogjglpnjeaa", sum := "c29654d3512bf128f8860a51faa70f386a8bc3bf579e23d2c9d41ce458989ce6", func := "loop.example/g00920/laws.FnExactProductSquare", spec := "fnExactProductSquare", unfollowed := true, recurses := true, apart := false }
def FnExactProductSquareSaid : Prop := fnExactProductSquareRow.holds Try.pinned (OpenSpec.ofChange fnExactProductSquareSpec)

/-- ITS FALSE NEIGHBOUR: 'it returns false'. Refute it at one input. -/
def fnExactProductSquareWrong : ChangeSpec := { name := "fnExactProductSquare", fn := fun _ => fun
  | [d1, d2] => { results := [.lit (.bool false)], args := [d1, d2] }
  | _ => none }
def FnExactProductSquareWrongFalsely : Prop := fnExactProductSquareRow.holds Try.pinned (OpenSpec.ofChange fnExactProductSquareWrong)

/-- 'laws.FnExactIsotope': WHATEVER THE INPUT: true; the input reads as it did. -/
def fnExactIsotopeSpec : ChangeSpec := { name := "fnExactIsotope", fn := fun _ => fun
  | [d1, d2, d3, d4] => { results := [.lit (.bool true)], args := [d1, d2, d3, d4] }
  | _ => none }
def fnExactIsotopeRow : OpenClaim := { program := "ythpcogjglpnjeaa", sum := "c29654d3512bf128f8860a51faa70f386a8bc3bf579e23d2c9d41ce458989ce6", func := "loop.example/g00920/laws.FnExactIsotope", spec := "fnExactIsotope", unfollowed := true, recurses := true, apart := false }
def FnExactIsotopeSaid : Prop := fnExactIsotopeRow.holds Try.pinned (OpenSpec.ofChange fnExactIsotopeSpec)

/-- ITS FALSE NEIGHBOUR: 'it returns false'. Refute it at one input. -/
def fnExactIsotopeWrong : ChangeSpec := { name := "fnExactIsotope", fn := fun _ => fun
  | [d1, d2, d3, d4] => { results := [.lit (.bool false)], args := [d1, d2, d3, d4] }
  | _ => none }
def FnExactIsotopeWrongFalsely : Prop := fnExactIsotopeRow.holds Try.pinned (OpenSpec.ofChange fnExactIsotopeWrong)

/-- 'laws.FnExactIntercalatesOf': WHATEVER THE INPUT: true; the input reads as it did. -/
def fnExactIntercalatesOfSpec : ChangeSpec := { name := "fnExactIntercalatesOf", fn := fun _ => fun
  | [d] => { results := [.lit (.bool true)], args := [d] }
  | _ => none }
def fnExactIntercalatesOfRow : OpenClaim := { program := "ythpcogjglpnjeaa", sum := "c29654d3512bf128f8860a51faa70f386a8bc3bf579e23d2c9d41ce458989ce6", func := "loop.example/g00920/laws.FnExactIntercalatesOf", spec := "fnExactIntercalatesOf", unfollowed := true, recurses := true, apart := false }
def FnExactIntercalatesOfSaid : Prop := fnExactIntercalatesOfRow.holds Try.pinned (OpenSpec.ofChange fnExactIntercalatesOfSpec)

/-- ITS FALSE NEIGHBOUR: 'it returns false'. Refute it at one input. -/
def fnExactIntercalatesOfWrong : ChangeSpec := { name := "fnExactIntercalatesOf", fn := fun _ => fun
  | [d] => { results := [.lit (.bool false)], args := [d] }
  | _ => none }
def FnExactIntercalatesOfWrongFalsely : Prop := fnExactIntercalatesOfRow.holds Try.pinned (OpenSpec.ofChange fnExactIntercalatesOfWrong)

/- THE SECOND FORM. 'bulk': how many values and letters a reading holds, each counted each time it is reached (what is shared counts as often as it is met; a slice's spare places count too). A statement '..UptoSaid' is the law's where the arguments, and the package variables that the reading takes, are together of bulk at most 1048576: NARROWER than '..Said'. Prove '..Said' where nothing that the law and all that it calls make is longer than what came in: it says more and counts as full. Else prove '..UptoSaid'. A law counts once. -/
mutual
def uptoBulk {H : Type} : DataW H → Nat
  | .lit (.string bytes) => bytes.length + 1
  | .lit _ => 1
  | .nil => 1
  | .ptr d => uptoBulk d + 1
  | .slice elems spare => uptoBulkAll elems + uptoBulkAll spare + 1
  | .agg parts => uptoBulkAll parts + 1
  | .iface _ d => uptoBulk d + 1
  | .map entries => uptoBulkEntries entries + 1
  | .held _ => 1
def uptoBulkAll {H : Type} : List (DataW H) → Nat
  | [] => 0
  | d :: r => uptoBulk d + uptoBulkAll r
def uptoBulkEntries {H : Type} : List (Lit × DataW H) → Nat
  | [] => 0
  | x :: r => uptoBulkEntry x + uptoBulkEntries r
def uptoBulkEntry {H : Type} : Lit × DataW H → Nat
  | (.string bytes, d) => bytes.length + uptoBulk d + 1
  | (_, d) => uptoBulk d + 1
 end
def uptoSmall : (H : Type) → List (DataW H) → Bool := fun _ ds => decide (uptoBulkAll ds ≤ 1048576)
def OpenSpec.upto (s : _root_.Go.ChangeSpec) : _root_.Go.OpenSpec := { _root_.Go.OpenSpec.ofChange s with cond := some uptoSmall }

/-- 'laws.FnExactValidSquare', WHERE WHAT IT READS IS OF BULK AT MOST 1048576: true; the input reads as it did. -/
def fnExactValidSquareUptoRow : OpenClaim := { program := "ythpcogjglpnjeaa", sum := "c29654d3512bf128f8860a51faa70f386a8bc3bf579e23d2c9d41ce458989ce6", func := "loop.example/g00920/laws.FnExactValidSquare", spec := "fnExactValidSquare", unfollowed := true, recurses := true, apart := false, narrowed := true }
def FnExactValidSquareUptoSaid : Prop := fnExactValidSquareUptoRow.holds Try.pinned (OpenSpec.upto fnExactValidSquareSpec)

/-- 'laws.FnExactIsReduced', WHERE WHAT IT READS IS OF BULK AT MOST 1048576: true; the input reads as it did. -/
def fnExactIsReducedUptoRow : OpenClaim := { program := "ythpcogjglpnjeaa", sum := "c29654d3512bf128f8860a51faa70f386a8bc3bf579e23d2c9d41ce458989ce6", func := "loop.example/g00920/laws.FnExactIsReduced", spec := "fnExactIsReduced", unfollowed := true, recurses := true, apart := false, narrowed := true }
def FnExactIsReducedUptoSaid : Prop := fnExactIsReducedUptoRow.holds Try.pinned (OpenSpec.upto fnExactIsReducedSpec)

/-- 'laws.FnExactIsTransversal', WHERE WHAT IT READS IS OF BULK AT MOST 1048576: true; the input reads as it did. -/
def fnExactIsTransversalUptoRow : OpenClaim := { program := "ythpcogjglpnjeaa", sum := "c29654d3512bf128f8860a51faa70f386a8bc3bf579e23d2c9d41ce458989ce6", func := "loop.example/g00920/laws.FnExactIsTransversal", spec := "fnExactIsTransversal", unfollowed := true, recurses := true, apart := false, narrowed := true }
def FnExactIsTransversalUptoSaid : Prop := fnExactIsTransversalUptoRow.holds Try.pinned (OpenSpec.upto fnExactIsTransversalSpec)

/-- 'laws.FnExactSymbolColumns', WHERE WHAT IT READS IS OF BULK AT MOST 1048576: true; the input reads as it did. -/
def fnExactSymbolColumnsUptoRow : OpenClaim := { program := "ythpcogjglpnjeaa", sum := "c29654d3512bf128f8860a51faa70f386a8bc3bf579e23d2c9d41ce458989ce6", func := "loop.example/g00920/laws.FnExactSymbolColumns", spec := "fnExactSymbolColumns", unfollowed := true, recurses := true, apart := false, narrowed := true }
def FnExactSymbolColumnsUptoSaid : Prop := fnExactSymbolColumnsUptoRow.holds Try.pinned (OpenSpec.upto fnExactSymbolColumnsSpec)

/-- 'laws.FnExactIsSubsquare', WHERE WHAT IT READS IS OF BULK AT MOST 1048576: true; the input reads as it did. -/
def fnExactIsSubsquareUptoRow : OpenClaim := { program := "ythpcogjglpnjeaa", sum := "c29654d3512bf128f8860a51faa70f386a8bc3bf579e23d2c9d41ce458989ce6", func := "loop.example/g00920/laws.FnExactIsSubsquare", spec := "fnExactIsSubsquare", unfollowed := true, recurses := true, apart := false, narrowed := true }
def FnExactIsSubsquareUptoSaid : Prop := fnExactIsSubsquareUptoRow.holds Try.pinned (OpenSpec.upto fnExactIsSubsquareSpec)

/-- 'laws.FnExactOrthogonal', WHERE WHAT IT READS IS OF BULK AT MOST 1048576: true; the input reads as it did. -/
def fnExactOrthogonalUptoRow : OpenClaim := { program := "ythpcogjglpnjeaa", sum := "c29654d3512bf128f8860a51faa70f386a8bc3bf579e23d2c9d41ce458989ce6", func := "loop.example/g00920/laws.FnExactOrthogonal", spec := "fnExactOrthogonal", unfollowed := true, recurses := true, apart := false, narrowed := true }
def FnExactOrthogonalUptoSaid : Prop := fnExactOrthogonalUptoRow.holds Try.pinned (OpenSpec.upto fnExactOrthogonalSpec)

/-- 'laws.FnExactUnitOf', WHERE WHAT IT READS IS OF BULK AT MOST 1048576: true; the input reads as it did. -/
def fnExactUnitOfUptoRow : OpenClaim := { program := "ythpcogjglpnjeaa", sum := "c29654d3512bf128f8860a51faa70f386a8bc3bf579e23d2c9d41ce458989ce6", func := "loop.example/g00920/laws.FnExactUnitOf", spec := "fnExactUnitOf", unfollowed := true, recurses := true, apart := false, narrowed := true }
def FnExactUnitOfUptoSaid : Prop := fnExactUnitOfUptoRow.holds Try.pinned (OpenSpec.upto fnExactUnitOfSpec)

/-- 'laws.FnExactRowMap', WHERE WHAT IT READS IS OF BULK AT MOST 1048576: true; the input reads as it did. -/
def fnExactRowMapUptoRow : OpenClaim := { program := "ythpcogjglpnjeaa", sum := "c29654d3512bf128f8860a51faa70f386a8bc3bf579e23d2c9d41ce458989ce6", func := "loop.example/g00920/laws.FnExactRowMap", spec := "fnExactRowMap", unfollowed := true, recurses := true, apart := false, narrowed := true }
def FnExactRowMapUptoSaid : Prop := fnExactRowMapUptoRow.holds Try.pinned (OpenSpec.upto fnExactRowMapSpec)

/-- 'laws.FnExactSuperpose', WHERE WHAT IT READS IS OF BULK AT MOST 1048576: true; the input reads as it did. -/
def fnExactSuperposeUptoRow : OpenClaim := { program := "ythpcogjglpnjeaa", sum := "c29654d3512bf128f8860a51faa70f386a8bc3bf579e23d2c9d41ce458989ce6", func := "loop.example/g00920/laws.FnExactSuperpose", spec := "fnExactSuperpose", unfollowed := true, recurses := true, apart := false, narrowed := true }
def FnExactSuperposeUptoSaid : Prop := fnExactSuperposeUptoRow.holds Try.pinned (OpenSpec.upto fnExactSuperposeSpec)

/-- 'laws.FnExactProductSquare', WHERE WHAT IT READS IS OF BULK AT MOST 1048576: true; the input reads as it did. -/
def fnExactProductSquareUptoRow : OpenClaim := { program := "ythpcogjglpnjeaa", sum := "c29654d3512bf128f8860a51faa70f386a8bc3bf579e23d2c9d41ce458989ce6", func := "loop.example/g00920/laws.FnExactProductSquare", spec := "fnExactProductSquare", unfollowed := true, recurses := true, apart := false, narrowed := true }
def FnExactProductSquareUptoSaid : Prop := fnExactProductSquareUptoRow.holds Try.pinned (OpenSpec.upto fnExactProductSquareSpec)

/-- 'laws.FnExactIsotope', WHERE WHAT IT READS IS OF BULK AT MOST 1048576: true; the input reads as it did. -/
def fnExactIsotopeUptoRow : OpenClaim := { program := "ythpcogjglpnjeaa", sum := "c29654d3512bf128f8860a51faa70f386a8bc3bf579e23d2c9d41ce458989ce6", func := "loop.example/g00920/laws.FnExactIsotope", spec := "fnExactIsotope", unfollowed := true, recurses := true, apart := false, narrowed := true }
def FnExactIsotopeUptoSaid : Prop := fnExactIsotopeUptoRow.holds Try.pinned (OpenSpec.upto fnExactIsotopeSpec)

/-- 'laws.FnExactIntercalatesOf', WHERE WHAT IT READS IS OF BULK AT MOST 1048576: true; the input reads as it did. -/
def fnExactIntercalatesOfUptoRow : OpenClaim := { program := "ythpcogjglpnjeaa", sum := "c29654d3512bf128f8860a51faa70f386a8bc3bf579e23d2c9d41ce458989ce6", func := "loop.example/g00920/laws.FnExactIntercalatesOf", spec := "fnExactIntercalatesOf", unfollowed := true, recurses := true, apart := false, narrowed := true }
def FnExactIntercalatesOfUptoSaid : Prop := fnExactIntercalatesOfUptoRow.holds Try.pinned (OpenSpec.upto fnExactIntercalatesOfSpec)

end Rows
end Go.Proofs.Ythpcogjglpnjeaa
