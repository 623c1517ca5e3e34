/-
  No cell of these rows narrows 'for every input' (looked for: loops, veiled, ifaces, maps, wideKeys, modest, calm, conditions, laid).
  DERIVED. THE GIVEN ROWS OF THIS SEAT. 10 by the template 'for every input the law returns true; each argument reads behind the call as it read before'; 0 by the template 'total and deterministic' (their statements: YtjlfngnmmmaefaaTotals.lean).
  GIVEN WITH THE SEED: the statements are not yours to turn. If you find one false, say at which input.
  Laid BY PROGRAM, IN A SANDBOX (cutbox-rows.mjs): the forced cells as the released guide's own fill.sh prints them over the translation 6a006fea526bd78b… (all of the seat's roots in one cut). By AI agents, Wed Nov 11 2026. No macro, syntax, notation, axiom, sorry.
-/
import Derived.Test.YtjlfngnmmmaefaaChecked
import GoSem.Claim
import GoSem.ClaimJoined
import GoSem.ClaimMapViews
import Derived.JoinedTies
import Derived.KernelRfl
namespace Go.Proofs.Ytjlfngnmmmaefaa
/- THE CELL 'sum', in the pinned program and in every row, IS THE sha256 OF THE DUMP (.gsa) THAT YtjlfngnmmmaefaaProg.lean LOADS. Nothing in Lean hashes anything: it is a label: what it is worth is what the hold of that sum in a sandbox is worth. -/
noncomputable def Try.pinned : Pinned := { name := "ytjlfngnmmmaefaa", sum := "6a006fea526bd78baa6a74aa79e8c69b9f96a70869f0af44fcdfbc8360632fbb", checked := Try.checked }
namespace Rows
def none {H : Type} : Left H := { results := [], args := [] }

/-- 'laws.FnExactOrbitOf': WHATEVER THE INPUT: true; the input reads as it did. -/
def fnExactOrbitOfSpec : ChangeSpec := { name := "fnExactOrbitOf", fn := fun _ => fun
  | [d1, d2] => { results := [.lit (.bool true)], args := [d1, d2] }
  | _ => none }
def fnExactOrbitOfRow : OpenClaim := { program := "ytjlfngnmmmaefaa", sum := "6a006fea526bd78baa6a74aa79e8c69b9f96a70869f0af44fcdfbc8360632fbb", func := "loop.example/g00920/laws.FnExactOrbitOf", spec := "fnExactOrbitOf", unfollowed := true, recurses := true, apart := false }
def FnExactOrbitOfSaid : Prop := fnExactOrbitOfRow.holds Try.pinned (OpenSpec.ofChange fnExactOrbitOfSpec)

/-- ITS FALSE NEIGHBOUR: 'it returns false'. Refute it at one input. -/
def fnExactOrbitOfWrong : ChangeSpec := { name := "fnExactOrbitOf", fn := fun _ => fun
  | [d1, d2] => { results := [.lit (.bool false)], args := [d1, d2] }
  | _ => none }
def FnExactOrbitOfWrongFalsely : Prop := fnExactOrbitOfRow.holds Try.pinned (OpenSpec.ofChange fnExactOrbitOfWrong)

/-- 'laws.FnExactOrbitsOf': WHATEVER THE INPUT: true; the input reads as it did. -/
def fnExactOrbitsOfSpec : ChangeSpec := { name := "fnExactOrbitsOf", fn := fun _ => fun
  | [d] => { results := [.lit (.bool true)], args := [d] }
  | _ => none }
def fnExactOrbitsOfRow : OpenClaim := { program := "ytjlfngnmmmaefaa", sum := "6a006fea526bd78baa6a74aa79e8c69b9f96a70869f0af44fcdfbc8360632fbb", func := "loop.example/g00920/laws.FnExactOrbitsOf", spec := "fnExactOrbitsOf", unfollowed := true, recurses := true, apart := false }
def FnExactOrbitsOfSaid : Prop := fnExactOrbitsOfRow.holds Try.pinned (OpenSpec.ofChange fnExactOrbitsOfSpec)

/-- ITS FALSE NEIGHBOUR: 'it returns false'. Refute it at one input. -/
def fnExactOrbitsOfWrong : ChangeSpec := { name := "fnExactOrbitsOf", fn := fun _ => fun
  | [d] => { results := [.lit (.bool false)], args := [d] }
  | _ => none }
def FnExactOrbitsOfWrongFalsely : Prop := fnExactOrbitsOfRow.holds Try.pinned (OpenSpec.ofChange fnExactOrbitsOfWrong)

/-- 'laws.FnExactSetStabilizer': WHATEVER THE INPUT: true; the input reads as it did. -/
def fnExactSetStabilizerSpec : ChangeSpec := { name := "fnExactSetStabilizer", fn := fun _ => fun
  | [d1, d2] => { results := [.lit (.bool true)], args := [d1, d2] }
  | _ => none }
def fnExactSetStabilizerRow : OpenClaim := { program := "ytjlfngnmmmaefaa", sum := "6a006fea526bd78baa6a74aa79e8c69b9f96a70869f0af44fcdfbc8360632fbb", func := "loop.example/g00920/laws.FnExactSetStabilizer", spec := "fnExactSetStabilizer", unfollowed := true, recurses := true, apart := false }
def FnExactSetStabilizerSaid : Prop := fnExactSetStabilizerRow.holds Try.pinned (OpenSpec.ofChange fnExactSetStabilizerSpec)

/-- ITS FALSE NEIGHBOUR: 'it returns false'. Refute it at one input. -/
def fnExactSetStabilizerWrong : ChangeSpec := { name := "fnExactSetStabilizer", fn := fun _ => fun
  | [d1, d2] => { results := [.lit (.bool false)], args := [d1, d2] }
  | _ => none }
def FnExactSetStabilizerWrongFalsely : Prop := fnExactSetStabilizerRow.holds Try.pinned (OpenSpec.ofChange fnExactSetStabilizerWrong)

/-- 'laws.FnExactMakeGroup': WHATEVER THE INPUT: true; the input reads as it did. -/
def fnExactMakeGroupSpec : ChangeSpec := { name := "fnExactMakeGroup", fn := fun _ => fun
  | [d1, d2] => { results := [.lit (.bool true)], args := [d1, d2] }
  | _ => none }
def fnExactMakeGroupRow : OpenClaim := { program := "ytjlfngnmmmaefaa", sum := "6a006fea526bd78baa6a74aa79e8c69b9f96a70869f0af44fcdfbc8360632fbb", func := "loop.example/g00920/laws.FnExactMakeGroup", spec := "fnExactMakeGroup", unfollowed := true, recurses := true, apart := false }
def FnExactMakeGroupSaid : Prop := fnExactMakeGroupRow.holds Try.pinned (OpenSpec.ofChange fnExactMakeGroupSpec)

/-- ITS FALSE NEIGHBOUR: 'it returns false'. Refute it at one input. -/
def fnExactMakeGroupWrong : ChangeSpec := { name := "fnExactMakeGroup", fn := fun _ => fun
  | [d1, d2] => { results := [.lit (.bool false)], args := [d1, d2] }
  | _ => none }
def FnExactMakeGroupWrongFalsely : Prop := fnExactMakeGroupRow.holds Try.pinned (OpenSpec.ofChange fnExactMakeGroupWrong)

/-- 'laws.FnExactValidGroup': WHATEVER THE INPUT: true; the input reads as it did. -/
def fnExactValidGroupSpec : ChangeSpec := { name := "fnExactValidGroup", fn := fun _ => fun
  | [d] => { results := [.lit (.bool true)], args := [d] }
  | _ => none }
def fnExactValidGroupRow : OpenClaim := { program := "ytjlfngnmmmaefaa", sum := "6a006fea526bd78baa6a74aa79e8c69b9f96a70869f0af44fcdfbc8360632fbb", func := "loop.example/g00920/laws.FnExactValidGroup", spec := "fnExactValidGroup", unfollowed := true, recurses := true, apart := false }
def FnExactValidGroupSaid : Prop := fnExactValidGroupRow.holds Try.pinned (OpenSpec.ofChange fnExactValidGroupSpec)

/-- ITS FALSE NEIGHBOUR: 'it returns false'. Refute it at one input. -/
def fnExactValidGroupWrong : ChangeSpec := { name := "fnExactValidGroup", fn := fun _ => fun
  | [d] => { results := [.lit (.bool false)], args := [d] }
  | _ => none }
def FnExactValidGroupWrongFalsely : Prop := fnExactValidGroupRow.holds Try.pinned (OpenSpec.ofChange fnExactValidGroupWrong)

/-- 'laws.FnExactGroupHas': WHATEVER THE INPUT: true; the input reads as it did. -/
def fnExactGroupHasSpec : ChangeSpec := { name := "fnExactGroupHas", fn := fun _ => fun
  | [d1, d2] => { results := [.lit (.bool true)], args := [d1, d2] }
  | _ => none }
def fnExactGroupHasRow : OpenClaim := { program := "ytjlfngnmmmaefaa", sum := "6a006fea526bd78baa6a74aa79e8c69b9f96a70869f0af44fcdfbc8360632fbb", func := "loop.example/g00920/laws.FnExactGroupHas", spec := "fnExactGroupHas", unfollowed := true, recurses := true, apart := false }
def FnExactGroupHasSaid : Prop := fnExactGroupHasRow.holds Try.pinned (OpenSpec.ofChange fnExactGroupHasSpec)

/-- ITS FALSE NEIGHBOUR: 'it returns false'. Refute it at one input. -/
def fnExactGroupHasWrong : ChangeSpec := { name := "fnExactGroupHas", fn := fun _ => fun
  | [d1, d2] => { results := [.lit (.bool false)], args := [d1, d2] }
  | _ => none }
def FnExactGroupHasWrongFalsely : Prop := fnExactGroupHasRow.holds Try.pinned (OpenSpec.ofChange fnExactGroupHasWrong)

/-- 'laws.FnExactGeneratorsOf': WHATEVER THE INPUT: true; the input reads as it did. -/
def fnExactGeneratorsOfSpec : ChangeSpec := { name := "fnExactGeneratorsOf", fn := fun _ => fun
  | [d] => { results := [.lit (.bool true)], args := [d] }
  | _ => none }
def fnExactGeneratorsOfRow : OpenClaim := { program := "ytjlfngnmmmaefaa", sum := "6a006fea526bd78baa6a74aa79e8c69b9f96a70869f0af44fcdfbc8360632fbb", func := "loop.example/g00920/laws.FnExactGeneratorsOf", spec := "fnExactGeneratorsOf", unfollowed := true, recurses := true, apart := false }
def FnExactGeneratorsOfSaid : Prop := fnExactGeneratorsOfRow.holds Try.pinned (OpenSpec.ofChange fnExactGeneratorsOfSpec)

/-- ITS FALSE NEIGHBOUR: 'it returns false'. Refute it at one input. -/
def fnExactGeneratorsOfWrong : ChangeSpec := { name := "fnExactGeneratorsOf", fn := fun _ => fun
  | [d] => { results := [.lit (.bool false)], args := [d] }
  | _ => none }
def FnExactGeneratorsOfWrongFalsely : Prop := fnExactGeneratorsOfRow.holds Try.pinned (OpenSpec.ofChange fnExactGeneratorsOfWrong)

/-- 'laws.FnExactStabilizerOf': WHATEVER THE INPUT: true; the input reads as it did. -/
def fnExactStabilizerOfSpec : ChangeSpec := { name := "fnExactStabilizerOf", fn := fun _ => fun
  | [d1, d2] => { results := [.lit (.bool true)], args := [d1, d2] }
  | _ => none }
def fnExactStabilizerOfRow : OpenClaim := { program := "ytjlfngnmmmaefaa", sum := "6a006fea526bd78baa6a74aa79e8c69b9f96a70869f0af44fcdfbc8360632fbb", func := "loop.example/g00920/laws.FnExactStabilizerOf", spec := "fnExactStabilizerOf", unfollowed := true, recurses := true, apart := false }
def FnExactStabilizerOfSaid : Prop := fnExactStabilizerOfRow.holds Try.pinned (OpenSpec.ofChange fnExactStabilizerOfSpec)

/-- ITS FALSE NEIGHBOUR: 'it returns false'. Refute it at one input. -/
def fnExactStabilizerOfWrong : ChangeSpec := { name := "fnExactStabilizerOf", fn := fun _ => fun
  | [d1, d2] => { results := [.lit (.bool false)], args := [d1, d2] }
  | _ => none }
def FnExactStabilizerOfWrongFalsely : Prop := fnExactStabilizerOfRow.holds Try.pinned (OpenSpec.ofChange fnExactStabilizerOfWrong)

/-- 'laws.FnExactBurnsideCount': WHATEVER THE INPUT: true; the input reads as it did. -/
def fnExactBurnsideCountSpec : ChangeSpec := { name := "fnExactBurnsideCount", fn := fun _ => fun
  | [d1, d2] => { results := [.lit (.bool true)], args := [d1, d2] }
  | _ => none }
def fnExactBurnsideCountRow : OpenClaim := { program := "ytjlfngnmmmaefaa", sum := "6a006fea526bd78baa6a74aa79e8c69b9f96a70869f0af44fcdfbc8360632fbb", func := "loop.example/g00920/laws.FnExactBurnsideCount", spec := "fnExactBurnsideCount", unfollowed := true, recurses := true, apart := false }
def FnExactBurnsideCountSaid : Prop := fnExactBurnsideCountRow.holds Try.pinned (OpenSpec.ofChange fnExactBurnsideCountSpec)

/-- ITS FALSE NEIGHBOUR: 'it returns false'. Refute it at one input. -/
def fnExactBurnsideCountWrong : ChangeSpec := { name := "fnExactBurnsideCount", fn := fun _ => fun
  | [d1, d2] => { results := [.lit (.bool false)], args := [d1, d2] }
  | _ => none }
def FnExactBurnsideCountWrongFalsely : Prop := fnExactBurnsideCountRow.holds Try.pinned (OpenSpec.ofChange fnExactBurnsideCountWrong)

/-- 'laws.FnExactCosetsOf': WHATEVER THE INPUT: true; the input reads as it did. -/
def fnExactCosetsOfSpec : ChangeSpec := { name := "fnExactCosetsOf", fn := fun _ => fun
  | [d1, d2] => { results := [.lit (.bool true)], args := [d1, d2] }
  | _ => none }
def fnExactCosetsOfRow : OpenClaim := { program := "ytjlfngnmmmaefaa", sum := "6a006fea526bd78baa6a74aa79e8c69b9f96a70869f0af44fcdfbc8360632fbb", func := "loop.example/g00920/laws.FnExactCosetsOf", spec := "fnExactCosetsOf", unfollowed := true, recurses := true, apart := false }
def FnExactCosetsOfSaid : Prop := fnExactCosetsOfRow.holds Try.pinned (OpenSpec.ofChange fnExactCosetsOfSpec)

/-- ITS FALSE NEIGHBOUR: 'it returns false'. Refute it at one input. -/
def fnExactCosetsOfWrong : ChangeSpec := { name := "fnExactCosetsOf", fn := fun _ => fun
  | [d1, d2] => { results := [.lit (.bool false)], args := [d1, d2] }
  | _ => none }
def FnExactCosetsOfWrongFalsely : Prop := fnExactCosetsOfRow.holds Try.pinned (OpenSpec.ofChange fnExactCosetsOfWrong)

/- THE SECOND FORM. 'bulk': how many values and letters a reading holds, each counted each time it is reached (what is shared counts as often as it is met; a slice's spare places count too). A statement '..UptoSaid' is the law's where the arguments, and the package variables that the reading takes, are together of bulk at most 1048576: NARROWER than '..Said'. Prove '..Said' where nothing that the law and all that it calls make is longer than what came in: it says more and counts as full. Else prove '..UptoSaid'. A law counts once. -/
mutual
def uptoBulk {H : Type} : DataW H → Nat
  | .lit (.string bytes) => bytes.length + 1
  | .lit _ => 1
  | .nil => 1
  | .ptr d => uptoBulk d + 1
  | .slice elems spare => uptoBulkAll elems + uptoBulkAll spare + 1
  | .agg parts => uptoBulkAll parts + 1
  | .iface _ d => uptoBulk d + 1
  | .map entries => uptoBulkEntries entries + 1
  | .held _ => 1
def uptoBulkAll {H : Type} : List (DataW H) → Nat
  | [] => 0
  | d :: r => uptoBulk d + uptoBulkAll r
def uptoBulkEntries {H : Type} : List (Lit × DataW H) → Nat
  | [] => 0
  | x :: r => uptoBulkEntry x + uptoBulkEntries r
def uptoBulkEntry {H : Type} : Lit × DataW H → Nat
  | (.string bytes, d) => bytes.length + uptoBulk d + 1
  | (_, d) => uptoBulk d + 1
 end
def uptoSmall : (H : Type) → List (DataW H) → Bool := fun _ ds => decide (uptoBulkAll ds ≤ 1048576)
def OpenSpec.upto (s : _root_.Go.ChangeSpec) : _root_.Go.OpenSpec := { _root_.Go.OpenSpec.ofChange s with cond := some uptoSmall }

/-- 'laws.FnExactOrbitOf', WHERE WHAT IT READS IS OF BULK AT MOST 1048576: true; the input reads as it did. -/
def fnExactOrbitOfUptoRow : OpenClaim := { program := "ytjlfngnmmmaefaa", sum := "6a006fea526bd78baa6a74aa79e8c69b9f96a70869f0af44fcdfbc8360632fbb", func := "loop.example/g00920/laws.FnExactOrbitOf", spec := "fnExactOrbitOf", unfollowed := true, recurses := true, apart := false, narrowed := true }
def FnExactOrbitOfUptoSaid : Prop := fnExactOrbitOfUptoRow.holds Try.pinned (OpenSpec.upto fnExactOrbitOfSpec)

/-- 'laws.FnExactOrbitsOf', WHERE WHAT IT READS IS OF BULK AT MOST 1048576: true; the input reads as it did. -/
def fnExactOrbitsOfUptoRow : OpenClaim := { program := "ytjlfngnmmmaefaa", sum := "6a006fea526bd78baa6a74aa79e8c69b9f96a70869f0af44fcdfbc8360632fbb", func := "loop.example/g00920/laws.FnExactOrbitsOf", spec := "fnExactOrbitsOf", unfollowed := true, recurses := true, apart := false, narrowed := true }
def FnExactOrbitsOfUptoSaid : Prop := fnExactOrbitsOfUptoRow.holds Try.pinned (OpenSpec.upto fnExactOrbitsOfSpec)

/-- 'laws.FnExactSetStabilizer', WHERE WHAT IT READS IS OF BULK AT MOST 1048576: true; the input reads as it did. -/
def fnExactSetStabilizerUptoRow : OpenClaim := { program := "ytjlfngnmmmaefaa", sum := "6a006fea526bd78baa6a74aa79e8c69b9f96a70869f0af44fcdfbc8360632fbb", func := "loop.example/g00920/laws.FnExactSetStabilizer", spec := "fnExactSetStabilizer", unfollowed := true, recurses := true, apart := false, narrowed := true }
def FnExactSetStabilizerUptoSaid : Prop := fnExactSetStabilizerUptoRow.holds Try.pinned (OpenSpec.upto fnExactSetStabilizerSpec)

/-- 'laws.FnExactMakeGroup', WHERE WHAT IT READS IS OF BULK AT MOST 1048576: true; the input reads as it did. -/
def fnExactMakeGroupUptoRow : OpenClaim := { program := "ytjlfngnmmmaefaa", sum := "6a006fea526bd78baa6a74aa79e8c69b9f96a70869f0af44fcdfbc8360632fbb", func := "loop.example/g00920/laws.FnExactMakeGroup", spec := "fnExactMakeGroup", unfollowed := true, recurses := true, apart := false, narrowed := true }
def FnExactMakeGroupUptoSaid : Prop := fnExactMakeGroupUptoRow.holds Try.pinned (OpenSpec.upto fnExactMakeGroupSpec)

/-- 'laws.FnExactValidGroup', WHERE WHAT IT READS IS OF BULK AT MOST 1048576: true; the input reads as it did. -/
def fnExactValidGroupUptoRow : OpenClaim := { program := "ytjlfngnmmmaefaa", sum := "6a006fea526bd78baa6a74aa79e8c69b9f96a70869f0af44fcdfbc8360632fbb", func := "loop.example/g00920/laws.FnExactValidGroup", spec := "fnExactValidGroup", unfollowed := true, recurses := true, apart := false, narrowed := true }
def FnExactValidGroupUptoSaid : Prop := fnExactValidGroupUptoRow.holds Try.pinned (OpenSpec.upto fnExactValidGroupSpec)

/-- 'laws.FnExactGroupHas', WHERE WHAT IT READS IS OF BULK AT MOST 1048576: true; the input reads as it did. -/
def fnExactGroupHasUptoRow : OpenClaim := { program := "ytjlfngnmmmaefaa", sum := "6a006fea526bd78baa6a74aa79e8c69b9f96a70869f0af44fcdfbc8360632fbb", func := "loop.example/g00920/laws.FnExactGroupHas", spec := "fnExactGroupHas", unfollowed := true, recurses := true, apart := false, narrowed := true }
def FnExactGroupHasUptoSaid : Prop := fnExactGroupHasUptoRow.holds Try.pinned (OpenSpec.upto fnExactGroupHasSpec)

/-- 'laws.FnExactGeneratorsOf', WHERE WHAT IT READS IS OF BULK AT MOST 1048576: true; the input reads as it did. -/
def fnExactGeneratorsOfUptoRow : OpenClaim := { program := "ytjlfngnmmmaefaa", sum := "6a006fea526bd78baa6a74aa79e8c69b9f96a70869f0af44fcdfbc8360632fbb", func := "loop.example/g00920/laws.FnExactGeneratorsOf", spec := "fnExactGeneratorsOf", unfollowed := true, recurses := true, apart := false, narrowed := true }
def FnExactGeneratorsOfUptoSaid : Prop := fnExactGeneratorsOfUptoRow.holds Try.pinned (OpenSpec.upto fnExactGeneratorsOfSpec)

/-- 'laws.FnExactStabilizerOf', WHERE WHAT IT READS IS OF BULK AT MOST 1048576: true; the input reads as it did. -/
def fnExactStabilizerOfUptoRow : OpenClaim := { program := "ytjlfngnmmmaefaa", sum := "6a006fea526bd78baa6a74aa79e8c69b9f96a70869f0af44fcdfbc8360632fbb", func := "loop.example/g00920/laws.FnExactStabilizerOf", spec := "fnExactStabilizerOf", unfollowed := true, recurses := true, apart := false, narrowed := true }
def FnExactStabilizerOfUptoSaid : Prop := fnExactStabilizerOfUptoRow.holds Try.pinned (OpenSpec.upto fnExactStabilizerOfSpec)

/-- 'laws.FnExactBurnsideCount', WHERE WHAT IT READS IS OF BULK AT MOST 1048576: true; the input reads as it did. -/
def fnExactBurnsideCountUptoRow : OpenClaim := { program := "ytjlfngnmmmaefaa", sum := "6a006fea526bd78baa6a74aa79e8c69b9f96a70869f0af44fcdfbc8360632fbb", func := "loop.example/g00920/laws.FnExactBurnsideCount", spec := "fnExactBurnsideCount", unfollowed := true, recurses := true, apart := false, narrowed := true }
def FnExactBurnsideCountUptoSaid : Prop := fnExactBurnsideCountUptoRow.holds Try.pinned (OpenSpec.upto fnExactBurnsideCountSpec)

/-- 'laws.FnExactCosetsOf', WHERE WHAT IT READS IS OF BULK AT MOST 1048576: true; the input reads as it did. -/
def fnExactCosetsOfUptoRow : OpenClaim := { program := "ytjlfngnmmmaefaa", sum := "6a006fea526bd78baa6a74aa79e8c69b9f96a70869f0af44fcdfbc8360632fbb", func := "loop.example/g00920/laws.FnExactCosetsOf", spec := "fnExactCosetsOf", unfollowed := true, recurses := true, apart := false, narrowed := true }
def FnExactCosetsOfUptoSaid : Prop := fnExactCosetsOfUptoRow.holds Try.pinned (OpenSpec.upto fnExactCosetsOfSpec)

end Rows
end Go.Proofs.Ytjlfngnmmmaefaa
