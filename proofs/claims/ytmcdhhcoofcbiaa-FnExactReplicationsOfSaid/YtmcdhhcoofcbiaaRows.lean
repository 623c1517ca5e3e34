/-
  No cell of these rows narrows 'for every input' (looked for: loops, veiled, ifaces, maps, wideKeys, modest, calm, conditions, laid).
  DERIVED. THE GIVEN ROWS OF THIS SEAT. 12 by the template 'for every input the law returns true; each argument reads behind the call as it read before'; 0 by the template 'total and deterministic' (their statements: YtmcdhhcoofcbiaaTotals.lean).
  GIVEN WITH THE SEED: the statements are not yours to turn. If you find one false, say at which input.
  Laid BY PROGRAM, IN A SANDBOX (cutbox-rows.mjs): the forced cells as the released guide's own fill.sh prints them over the translation 00c77531bda81fe7… (all of the seat's roots in one cut). By AI agents, Wed Nov 11 2026. No macro, syntax, notation, axiom, sorry.
-/
import Derived.Test.YtmcdhhcoofcbiaaChecked
import GoSem.Claim
import GoSem.ClaimJoined
import GoSem.ClaimMapViews
import Derived.JoinedTies
import Derived.KernelRfl
namespace Go.Proofs.Ytmcdhhcoofcbiaa
/- THE CELL 'sum', in the pinned program and in every row, IS THE sha256 OF THE DUMP (.gsa) THAT YtmcdhhcoofcbiaaProg.lean LOADS. Nothing in Lean hashes anything: it is a label: what it is worth is what the hold of that sum in a sandbox is worth. -/
noncomputable def Try.pinned : Pinned := { name := "ytmcdhhcoofcbiaa", sum := "00c77531bda81fe777a695a52f77d539d26396f7de4a393017e70d319227607e", checked := Try.checked }
namespace Rows
def none {H : Type} : Left H := { results := [], args := [] }

/-- 'laws.FnExactIdentityName': WHATEVER THE INPUT: true; the input reads as it did. -/
def fnExactIdentityNameSpec : ChangeSpec := { name := "fnExactIdentityName", fn := fun _ => fun
  | [d] => { results := [.lit (.bool true)], args := [d] }
  | _ => none }
def fnExactIdentityNameRow : OpenClaim := { program := "ytmcdhhcoofcbiaa", sum := "00c77531bda81fe777a695a52f77d539d26396f7de4a393017e70d319227607e", func := "loop.example/g00920/laws.FnExactIdentityName", spec := "fnExactIdentityName", apart := false }
def FnExactIdentityNameSaid : Prop := fnExactIdentityNameRow.holds Try.pinned (OpenSpec.ofChange fnExactIdentityNameSpec)

/-- ITS FALSE NEIGHBOUR: 'it returns false'. Refute it at one input. -/
def fnExactIdentityNameWrong : ChangeSpec := { name := "fnExactIdentityName", fn := fun _ => fun
  | [d] => { results := [.lit (.bool false)], args := [d] }
  | _ => none }
def FnExactIdentityNameWrongFalsely : Prop := fnExactIdentityNameRow.holds Try.pinned (OpenSpec.ofChange fnExactIdentityNameWrong)

/-- 'laws.FnExactCyclicSquare': WHATEVER THE INPUT: true; the input reads as it did. -/
def fnExactCyclicSquareSpec : ChangeSpec := { name := "fnExactCyclicSquare", fn := fun _ => fun
  | [d] => { results := [.lit (.bool true)], args := [d] }
  | _ => none }
def fnExactCyclicSquareRow : OpenClaim := { program := "ytmcdhhcoofcbiaa", sum := "00c77531bda81fe777a695a52f77d539d26396f7de4a393017e70d319227607e", func := "loop.example/g00920/laws.FnExactCyclicSquare", spec := "fnExactCyclicSquare", unfollowed := true, recurses := true, apart := false }
def FnExactCyclicSquareSaid : Prop := fnExactCyclicSquareRow.holds Try.pinned (OpenSpec.ofChange fnExactCyclicSquareSpec)

/-- ITS FALSE NEIGHBOUR: 'it returns false'. Refute it at one input. -/
def fnExactCyclicSquareWrong : ChangeSpec := { name := "fnExactCyclicSquare", fn := fun _ => fun
  | [d] => { results := [.lit (.bool false)], args := [d] }
  | _ => none }
def FnExactCyclicSquareWrongFalsely : Prop := fnExactCyclicSquareRow.holds Try.pinned (OpenSpec.ofChange fnExactCyclicSquareWrong)

/-- 'laws.FnExactSameSquare': WHATEVER THE INPUT: true; the input reads as it did. -/
def fnExactSameSquareSpec : ChangeSpec := { name := "fnExactSameSquare", fn := fun _ => fun
  | [d1, d2] => { results := [.lit (.bool true)], args := [d1, d2] }
  | _ => none }
def fnExactSameSquareRow : OpenClaim := { program := "ytmcdhhcoofcbiaa", sum := "00c77531bda81fe777a695a52f77d539d26396f7de4a393017e70d319227607e", func := "loop.example/g00920/laws.FnExactSameSquare", spec := "fnExactSameSquare", unfollowed := true, recurses := true, apart := false }
def FnExactSameSquareSaid : Prop := fnExactSameSquareRow.holds Try.pinned (OpenSpec.ofChange fnExactSameSquareSpec)

/-- ITS FALSE NEIGHBOUR: 'it returns false'. Refute it at one input. -/
def fnExactSameSquareWrong : ChangeSpec := { name := "fnExactSameSquare", fn := fun _ => fun
  | [d1, d2] => { results := [.lit (.bool false)], args := [d1, d2] }
  | _ => none }
def FnExactSameSquareWrongFalsely : Prop := fnExactSameSquareRow.holds Try.pinned (OpenSpec.ofChange fnExactSameSquareWrong)

/-- 'laws.FnExactSameDesign': WHATEVER THE INPUT: true; the input reads as it did. -/
def fnExactSameDesignSpec : ChangeSpec := { name := "fnExactSameDesign", fn := fun _ => fun
  | [d1, d2] => { results := [.lit (.bool true)], args := [d1, d2] }
  | _ => none }
def fnExactSameDesignRow : OpenClaim := { program := "ytmcdhhcoofcbiaa", sum := "00c77531bda81fe777a695a52f77d539d26396f7de4a393017e70d319227607e", func := "loop.example/g00920/laws.FnExactSameDesign", spec := "fnExactSameDesign", unfollowed := true, recurses := true, apart := false }
def FnExactSameDesignSaid : Prop := fnExactSameDesignRow.holds Try.pinned (OpenSpec.ofChange fnExactSameDesignSpec)

/-- ITS FALSE NEIGHBOUR: 'it returns false'. Refute it at one input. -/
def fnExactSameDesignWrong : ChangeSpec := { name := "fnExactSameDesign", fn := fun _ => fun
  | [d1, d2] => { results := [.lit (.bool false)], args := [d1, d2] }
  | _ => none }
def FnExactSameDesignWrongFalsely : Prop := fnExactSameDesignRow.holds Try.pinned (OpenSpec.ofChange fnExactSameDesignWrong)

/-- 'laws.FnExactValidPartial': WHATEVER THE INPUT: true; the input reads as it did. -/
def fnExactValidPartialSpec : ChangeSpec := { name := "fnExactValidPartial", fn := fun _ => fun
  | [d] => { results := [.lit (.bool true)], args := [d] }
  | _ => none }
def fnExactValidPartialRow : OpenClaim := { program := "ytmcdhhcoofcbiaa", sum := "00c77531bda81fe777a695a52f77d539d26396f7de4a393017e70d319227607e", func := "loop.example/g00920/laws.FnExactValidPartial", spec := "fnExactValidPartial", unfollowed := true, recurses := true, apart := false }
def FnExactValidPartialSaid : Prop := fnExactValidPartialRow.holds Try.pinned (OpenSpec.ofChange fnExactValidPartialSpec)

/-- ITS FALSE NEIGHBOUR: 'it returns false'. Refute it at one input. -/
def fnExactValidPartialWrong : ChangeSpec := { name := "fnExactValidPartial", fn := fun _ => fun
  | [d] => { results := [.lit (.bool false)], args := [d] }
  | _ => none }
def FnExactValidPartialWrongFalsely : Prop := fnExactValidPartialRow.holds Try.pinned (OpenSpec.ofChange fnExactValidPartialWrong)

/-- 'laws.FnExactSameGroup': WHATEVER THE INPUT: true; the input reads as it did. -/
def fnExactSameGroupSpec : ChangeSpec := { name := "fnExactSameGroup", fn := fun _ => fun
  | [d1, d2] => { results := [.lit (.bool true)], args := [d1, d2] }
  | _ => none }
def fnExactSameGroupRow : OpenClaim := { program := "ytmcdhhcoofcbiaa", sum := "00c77531bda81fe777a695a52f77d539d26396f7de4a393017e70d319227607e", func := "loop.example/g00920/laws.FnExactSameGroup", spec := "fnExactSameGroup", unfollowed := true, recurses := true, apart := false }
def FnExactSameGroupSaid : Prop := fnExactSameGroupRow.holds Try.pinned (OpenSpec.ofChange fnExactSameGroupSpec)

/-- ITS FALSE NEIGHBOUR: 'it returns false'. Refute it at one input. -/
def fnExactSameGroupWrong : ChangeSpec := { name := "fnExactSameGroup", fn := fun _ => fun
  | [d1, d2] => { results := [.lit (.bool false)], args := [d1, d2] }
  | _ => none }
def FnExactSameGroupWrongFalsely : Prop := fnExactSameGroupRow.holds Try.pinned (OpenSpec.ofChange fnExactSameGroupWrong)

/-- 'laws.FnExactFilledCells': WHATEVER THE INPUT: true; the input reads as it did. -/
def fnExactFilledCellsSpec : ChangeSpec := { name := "fnExactFilledCells", fn := fun _ => fun
  | [d] => { results := [.lit (.bool true)], args := [d] }
  | _ => none }
def fnExactFilledCellsRow : OpenClaim := { program := "ytmcdhhcoofcbiaa", sum := "00c77531bda81fe777a695a52f77d539d26396f7de4a393017e70d319227607e", func := "loop.example/g00920/laws.FnExactFilledCells", spec := "fnExactFilledCells", unfollowed := true, recurses := true, apart := false }
def FnExactFilledCellsSaid : Prop := fnExactFilledCellsRow.holds Try.pinned (OpenSpec.ofChange fnExactFilledCellsSpec)

/-- ITS FALSE NEIGHBOUR: 'it returns false'. Refute it at one input. -/
def fnExactFilledCellsWrong : ChangeSpec := { name := "fnExactFilledCells", fn := fun _ => fun
  | [d] => { results := [.lit (.bool false)], args := [d] }
  | _ => none }
def FnExactFilledCellsWrongFalsely : Prop := fnExactFilledCellsRow.holds Try.pinned (OpenSpec.ofChange fnExactFilledCellsWrong)

/-- 'laws.FnExactValidDesign': WHATEVER THE INPUT: true; the input reads as it did. -/
def fnExactValidDesignSpec : ChangeSpec := { name := "fnExactValidDesign", fn := fun _ => fun
  | [d] => { results := [.lit (.bool true)], args := [d] }
  | _ => none }
def fnExactValidDesignRow : OpenClaim := { program := "ytmcdhhcoofcbiaa", sum := "00c77531bda81fe777a695a52f77d539d26396f7de4a393017e70d319227607e", func := "loop.example/g00920/laws.FnExactValidDesign", spec := "fnExactValidDesign", unfollowed := true, recurses := true, apart := false }
def FnExactValidDesignSaid : Prop := fnExactValidDesignRow.holds Try.pinned (OpenSpec.ofChange fnExactValidDesignSpec)

/-- ITS FALSE NEIGHBOUR: 'it returns false'. Refute it at one input. -/
def fnExactValidDesignWrong : ChangeSpec := { name := "fnExactValidDesign", fn := fun _ => fun
  | [d] => { results := [.lit (.bool false)], args := [d] }
  | _ => none }
def FnExactValidDesignWrongFalsely : Prop := fnExactValidDesignRow.holds Try.pinned (OpenSpec.ofChange fnExactValidDesignWrong)

/-- 'laws.FnExactCandidatesAt': WHATEVER THE INPUT: true; the input reads as it did. -/
def fnExactCandidatesAtSpec : ChangeSpec := { name := "fnExactCandidatesAt", fn := fun _ => fun
  | [d1, d2, d3] => { results := [.lit (.bool true)], args := [d1, d2, d3] }
  | _ => none }
def fnExactCandidatesAtRow : OpenClaim := { program := "ytmcdhhcoofcbiaa", sum := "00c77531bda81fe777a695a52f77d539d26396f7de4a393017e70d319227607e", func := "loop.example/g00920/laws.FnExactCandidatesAt", spec := "fnExactCandidatesAt", unfollowed := true, recurses := true, apart := false }
def FnExactCandidatesAtSaid : Prop := fnExactCandidatesAtRow.holds Try.pinned (OpenSpec.ofChange fnExactCandidatesAtSpec)

/-- ITS FALSE NEIGHBOUR: 'it returns false'. Refute it at one input. -/
def fnExactCandidatesAtWrong : ChangeSpec := { name := "fnExactCandidatesAt", fn := fun _ => fun
  | [d1, d2, d3] => { results := [.lit (.bool false)], args := [d1, d2, d3] }
  | _ => none }
def FnExactCandidatesAtWrongFalsely : Prop := fnExactCandidatesAtRow.holds Try.pinned (OpenSpec.ofChange fnExactCandidatesAtWrong)

/-- 'laws.FnExactClearCells': WHATEVER THE INPUT: true; the input reads as it did. -/
def fnExactClearCellsSpec : ChangeSpec := { name := "fnExactClearCells", fn := fun _ => fun
  | [d1, d2] => { results := [.lit (.bool true)], args := [d1, d2] }
  | _ => none }
def fnExactClearCellsRow : OpenClaim := { program := "ytmcdhhcoofcbiaa", sum := "00c77531bda81fe777a695a52f77d539d26396f7de4a393017e70d319227607e", func := "loop.example/g00920/laws.FnExactClearCells", spec := "fnExactClearCells", unfollowed := true, recurses := true, apart := false }
def FnExactClearCellsSaid : Prop := fnExactClearCellsRow.holds Try.pinned (OpenSpec.ofChange fnExactClearCellsSpec)

/-- ITS FALSE NEIGHBOUR: 'it returns false'. Refute it at one input. -/
def fnExactClearCellsWrong : ChangeSpec := { name := "fnExactClearCells", fn := fun _ => fun
  | [d1, d2] => { results := [.lit (.bool false)], args := [d1, d2] }
  | _ => none }
def FnExactClearCellsWrongFalsely : Prop := fnExactClearCellsRow.holds Try.pinned (OpenSpec.ofChange fnExactClearCellsWrong)

/-- 'laws.FnExactReplicationsOf': WHATEVER THE INPUT: true; the input reads as it did. -/
def fnExactReplicationsOfSpec : ChangeSpec := { name := "fnExactReplicationsOf", fn := fun _ => fun
  | [d] => { results := [.lit (.bool true)], args := [d] }
  | _ => none }
def fnExactReplicationsOfRow : OpenClaim := { program := "ytmcdhhcoofcbiaa", sum := "00c77531bda81fe777a695a52f77d539d26396f7de4a393017e70d319227607e", func := "loop.example/g00920/laws.FnExactReplicationsOf", spec := "fnExactReplicationsOf", unfollowed := true, recurses := true, apart := false }
def FnExactReplicationsOfSaid : Prop := fnExactReplicationsOfRow.holds Try.pinned (OpenSpec.ofChange fnExactReplicationsOfSpec)

/-- ITS FALSE NEIGHBOUR: 'it returns false'. Refute it at one input. -/
def fnExactReplicationsOfWrong : ChangeSpec := { name := "fnExactReplicationsOf", fn := fun _ => fun
  | [d] => { results := [.lit (.bool false)], args := [d] }
  | _ => none }
def FnExactReplicationsOfWrongFalsely : Prop := fnExactReplicationsOfRow.holds Try.pinned (OpenSpec.ofChange fnExactReplicationsOfWrong)

/-- 'laws.FnExactFillCell': WHATEVER THE INPUT: true; the input reads as it did. -/
def fnExactFillCellSpec : ChangeSpec := { name := "fnExactFillCell", fn := fun _ => fun
  | [d1, d2, d3, d4] => { results := [.lit (.bool true)], args := [d1, d2, d3, d4] }
  | _ => none }
def fnExactFillCellRow : OpenClaim := { program := "ytmcdhhcoofcbiaa", sum := "00c77531bda81fe777a695a52f77d539d26396f7de4a393017e70d319227607e", func := "loop.example/g00920/laws.FnExactFillCell", spec := "fnExactFillCell", unfollowed := true, recurses := true, apart := false }
def FnExactFillCellSaid : Prop := fnExactFillCellRow.holds Try.pinned (OpenSpec.ofChange fnExactFillCellSpec)

/-- ITS FALSE NEIGHBOUR: 'it returns false'. Refute it at one input. -/
def fnExactFillCellWrong : ChangeSpec := { name := "fnExactFillCell", fn := fun _ => fun
  | [d1, d2, d3, d4] => { results := [.lit (.bool false)], args := [d1, d2, d3, d4] }
  | _ => none }
def FnExactFillCellWrongFalsely : Prop := fnExactFillCellRow.holds Try.pinned (OpenSpec.ofChange fnExactFillCellWrong)

/- THE SECOND FORM. 'bulk': how many values and letters a reading holds, each counted each time it is reached (what is shared counts as often as it is met; a slice's spare places count too). A statement '..UptoSaid' is the law's where the arguments, and the package variables that the reading takes, are together of bulk at most 1048576: NARROWER than '..Said'. Prove '..Said' where nothing that the law and all that it calls make is longer than what came in: it says more and counts as full. Else prove '..UptoSaid'. A law counts once. -/
mutual
def uptoBulk {H : Type} : DataW H → Nat
  | .lit (.string bytes) => bytes.length + 1
  | .lit _ => 1
  | .nil => 1
  | .ptr d => uptoBulk d + 1
  | .slice elems spare => uptoBulkAll elems + uptoBulkAll spare + 1
  | .agg parts => uptoBulkAll parts + 1
  | .iface _ d => uptoBulk d + 1
  | .map entries => uptoBulkEntries entries + 1
  | .held _ => 1
def uptoBulkAll {H : Type} : List (DataW H) → Nat
  | [] => 0
  | d :: r => uptoBulk d + uptoBulkAll r
def uptoBulkEntries {H : Type} : List (Lit × DataW H) → Nat
  | [] => 0
  | x :: r => uptoBulkEntry x + uptoBulkEntries r
def uptoBulkEntry {H : Type} : Lit × DataW H → Nat
  | (.string bytes, d) => bytes.length + uptoBulk d + 1
  | (_, d) => uptoBulk d + 1
 end
def uptoSmall : (H : Type) → List (DataW H) → Bool := fun _ ds => decide (uptoBulkAll ds ≤ 1048576)
def OpenSpec.upto (s : _root_.Go.ChangeSpec) : _root_.Go.OpenSpec := { _root_.Go.OpenSpec.ofChange s with cond := some uptoSmall }

/-- 'laws.FnExactIdentityName', WHERE WHAT IT READS IS OF BULK AT MOST 1048576: true; the input reads as it did. -/
def fnExactIdentityNameUptoRow : OpenClaim := { program := "ytmcdhhcoofcbiaa", sum := "00c77531bda81fe777a695a52f77d539d26396f7de4a393017e70d319227607e", func := "loop.example/g00920/laws.FnExactIdentityName", spec := "fnExactIdentityName", apart := false, narrowed := true }
def FnExactIdentityNameUptoSaid : Prop := fnExactIdentityNameUptoRow.holds Try.pinned (OpenSpec.upto fnExactIdentityNameSpec)

/-- 'laws.FnExactCyclicSquare', WHERE WHAT IT READS IS OF BULK AT MOST 1048576: true; the input reads as it did. -/
def fnExactCyclicSquareUptoRow : OpenClaim := { program := "ytmcdhhcoofcbiaa", sum := "00c77531bda81fe777a695a52f77d539d26396f7de4a393017e70d319227607e", func := "loop.example/g00920/laws.FnExactCyclicSquare", spec := "fnExactCyclicSquare", unfollowed := true, recurses := true, apart := false, narrowed := true }
def FnExactCyclicSquareUptoSaid : Prop := fnExactCyclicSquareUptoRow.holds Try.pinned (OpenSpec.upto fnExactCyclicSquareSpec)

/-- 'laws.FnExactSameSquare', WHERE WHAT IT READS IS OF BULK AT MOST 1048576: true; the input reads as it did. -/
def fnExactSameSquareUptoRow : OpenClaim := { program := "ytmcdhhcoofcbiaa", sum := "00c77531bda81fe777a695a52f77d539d26396f7de4a393017e70d319227607e", func := "loop.example/g00920/laws.FnExactSameSquare", spec := "fnExactSameSquare", unfollowed := true, recurses := true, apart := false, narrowed := true }
def FnExactSameSquareUptoSaid : Prop := fnExactSameSquareUptoRow.holds Try.pinned (OpenSpec.upto fnExactSameSquareSpec)

/-- 'laws.FnExactSameDesign', WHERE WHAT IT READS IS OF BULK AT MOST 1048576: true; the input reads as it did. -/
def fnExactSameDesignUptoRow : OpenClaim := { program := "ytmcdhhcoofcbiaa", sum := "00c77531bda81fe777a695a52f77d539d26396f7de4a393017e70d319227607e", func := "loop.example/g00920/laws.FnExactSameDesign", spec := "fnExactSameDesign", unfollowed := true, recurses := true, apart := false, narrowed := true }
def FnExactSameDesignUptoSaid : Prop := fnExactSameDesignUptoRow.holds Try.pinned (OpenSpec.upto fnExactSameDesignSpec)

/-- 'laws.FnExactValidPartial', WHERE WHAT IT READS IS OF BULK AT MOST 1048576: true; the input reads as it did. -/
def fnExactValidPartialUptoRow : OpenClaim := { program := "ytmcdhhcoofcbiaa", sum := "00c77531bda81fe777a695a52f77d539d26396f7de4a393017e70d319227607e", func := "loop.example/g00920/laws.FnExactValidPartial", spec := "fnExactValidPartial", unfollowed := true, recurses := true, apart := false, narrowed := true }
def FnExactValidPartialUptoSaid : Prop := fnExactValidPartialUptoRow.holds Try.pinned (OpenSpec.upto fnExactValidPartialSpec)

/-- 'laws.FnExactSameGroup', WHERE WHAT IT READS IS OF BULK AT MOST 1048576: true; the input reads as it did. -/
def fnExactSameGroupUptoRow : OpenClaim := { program := "ytmcdhhcoofcbiaa", sum := "00c77531bda81fe777a695a52f77d539d26396f7de4a393017e70d319227607e", func := "loop.example/g00920/laws.FnExactSameGroup", spec := "fnExactSameGroup", unfollowed := true, recurses := true, apart := false, narrowed := true }
def FnExactSameGroupUptoSaid : Prop := fnExactSameGroupUptoRow.holds Try.pinned (OpenSpec.upto fnExactSameGroupSpec)

/-- 'laws.FnExactFilledCells', WHERE WHAT IT READS IS OF BULK AT MOST 1048576: true; the input reads as it did. -/
def fnExactFilledCellsUptoRow : OpenClaim := { program := "ytmcdhhcoofcbiaa", sum := "00c77531bda81fe777a695a52f77d539d26396f7de4a393017e70d319227607e", func := "loop.example/g00920/laws.FnExactFilledCells", spec := "fnExactFilledCells", unfollowed := true, recurses := true, apart := false, narrowed := true }
def FnExactFilledCellsUptoSaid : Prop := fnExactFilledCellsUptoRow.holds Try.pinned (OpenSpec.upto fnExactFilledCellsSpec)

/-- 'laws.FnExactValidDesign', WHERE WHAT IT READS IS OF BULK AT MOST 1048576: true; the input reads as it did. -/
def fnExactValidDesignUptoRow : OpenClaim := { program := "ytmcdhhcoofcbiaa", sum := "00c77531bda81fe777a695a52f77d539d26396f7de4a393017e70d319227607e", func := "loop.example/g00920/laws.FnExactValidDesign", spec := "fnExactValidDesign", unfollowed := true, recurses := true, apart := false, narrowed := true }
def FnExactValidDesignUptoSaid : Prop := fnExactValidDesignUptoRow.holds Try.pinned (OpenSpec.upto fnExactValidDesignSpec)

/-- 'laws.FnExactCandidatesAt', WHERE WHAT IT READS IS OF BULK AT MOST 1048576: true; the input reads as it did. -/
def fnExactCandidatesAtUptoRow : OpenClaim := { program := "ytmcdhhcoofcbiaa", sum := "00c77531bda81fe777a695a52f77d539d26396f7de4a393017e70d319227607e", func := "loop.example/g00920/laws.FnExactCandidatesAt", spec := "fnExactCandidatesAt", unfollowed := true, recurses := true, apart := false, narrowed := true }
def FnExactCandidatesAtUptoSaid : Prop := fnExactCandidatesAtUptoRow.holds Try.pinned (OpenSpec.upto fnExactCandidatesAtSpec)

/-- 'laws.FnExactClearCells', WHERE WHAT IT READS IS OF BULK AT MOST 1048576: true; the input reads as it did. -/
def fnExactClearCellsUptoRow : OpenClaim := { program := "ytmcdhhcoofcbiaa", sum := "00c77531bda81fe777a695a52f77d539d26396f7de4a393017e70d319227607e", func := "loop.example/g00920/laws.FnExactClearCells", spec := "fnExactClearCells", unfollowed := true, recurses := true, apart := false, narrowed := true }
def FnExactClearCellsUptoSaid : Prop := fnExactClearCellsUptoRow.holds Try.pinned (OpenSpec.upto fnExactClearCellsSpec)

/-- 'laws.FnExactReplicationsOf', WHERE WHAT IT READS IS OF BULK AT MOST 1048576: true; the input reads as it did. -/
def fnExactReplicationsOfUptoRow : OpenClaim := { program := "ytmcdhhcoofcbiaa", sum := "00c77531bda81fe777a695a52f77d539d26396f7de4a393017e70d319227607e", func := "loop.example/g00920/laws.FnExactReplicationsOf", spec := "fnExactReplicationsOf", unfollowed := true, recurses := true, apart := false, narrowed := true }
def FnExactReplicationsOfUptoSaid : Prop := fnExactReplicationsOfUptoRow.holds Try.pinned (OpenSpec.upto fnExactReplicationsOfSpec)

/-- 'laws.FnExactFillCell', WHERE WHAT IT READS IS OF BULK AT MOST 1048576: true; the input reads as it did. -/
def fnExactFillCellUptoRow : OpenClaim := { program := "ytmcdhhcoofcbiaa", sum := "00c77531bda81fe777a695a52f77d539d26396f7de4a393017e70d319227607e", func := "loop.example/g00920/laws.FnExactFillCell", spec := "fnExactFillCell", unfollowed := true, recurses := true, apart := false, narrowed := true }
def FnExactFillCellUptoSaid : Prop := fnExactFillCellUptoRow.holds Try.pinned (OpenSpec.upto fnExactFillCellSpec)

end Rows
end Go.Proofs.Ytmcdhhcoofcbiaa
