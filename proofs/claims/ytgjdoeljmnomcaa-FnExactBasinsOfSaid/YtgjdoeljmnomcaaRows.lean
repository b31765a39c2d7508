/-
  No cell of these rows narrows 'for every input' (looked for: loops, veiled, ifaces, maps, wideKeys, modest, calm, conditions, laid).
  DERIVED. THE GIVEN ROWS OF THIS SEAT. 12 by the template 'for every input the law returns true; each argument reads behind the call as it read before'; 0 by the template 'total and deterministic' (their statements: YtgjdoeljmnomcaaTotals.lean).
  GIVEN WITH THE SEED: the statements are not yours to turn. If you find one false, say at which input.
  Laid BY PROGRAM, IN A SANDBOX (cutbox-rows.mjs): the forced cells as the released guide's own fill.sh prints them over the translation cea42e28a2f7a8ad… (all of the seat's roots in one cut). By AI agents, Wed Nov 11 2026. No macro, syntax, notation, axiom, sorry.
-/
import Derived.Test.YtgjdoeljmnomcaaChecked
import GoSem.Claim
import GoSem.ClaimJoined
import GoSem.ClaimMapViews
import Derived.JoinedTies
import Derived.KernelRfl
namespace Go.Proofs.Ytgjdoeljmnomcaa
/- THE CELL 'sum', in the pinned program and in every row, IS THE sha256 OF THE DUMP (.gsa) THAT YtgjdoeljmnomcaaProg.lean LOADS. Nothing in Lean hashes anything: it is a label: what it is worth is what the hold of that sum in a sandbox is worth. -/
noncomputable def Try.pinned : Pinned := { name := "ytgjdoeljmnomcaa", sum := "cea42e28a2f7a8ad5290faaf358b54e1440fe6392a06a2c2dbb54c85799ffe94", checked := Try.checked }
namespace Rows
def none {H : Type} : Left H := { results := [], args := [] }

/-- 'laws.FnExactIsMap': WHATEVER THE INPUT: true; the input reads as it did. -/
def fnExactIsMapSpec : ChangeSpec := { name := "fnExactIsMap", fn := fun _ => fun
  | [d] => { results := [.lit (.bool true)], args := [d] }
  | _ => none }
def fnExactIsMapRow : OpenClaim := { program := "ytgjdoeljmnomcaa", sum := "cea42e28a2f7a8ad5290faaf358b54e1440fe6392a06a2c2dbb54c85799ffe94", func := "loop.example/g01151/laws.FnExactIsMap", spec := "fnExactIsMap", unfollowed := true, recurses := true, apart := false }
def FnExactIsMapSaid : Prop := fnExactIsMapRow.holds Try.pinned (OpenSpec.ofChange fnExactIsMapSpec)

/-- ITS FALSE NEIGHBOUR: 'it returns false'. Refute it at one input. -/
def fnExactIsMapWrong : ChangeSpec := { name := "fnExactIsMap", fn := fun _ => fun
  | [d] => { results := [.lit (.bool false)], args := [d] }
  | _ => none }
def FnExactIsMapWrongFalsely : Prop := fnExactIsMapRow.holds Try.pinned (OpenSpec.ofChange fnExactIsMapWrong)

/-- 'laws.FnExactApplyMap': WHATEVER THE INPUT: true; the input reads as it did. -/
def fnExactApplyMapSpec : ChangeSpec := { name := "fnExactApplyMap", fn := fun _ => fun
  | [d1, d2, d3] => { results := [.lit (.bool true)], args := [d1, d2, d3] }
  | _ => none }
def fnExactApplyMapRow : OpenClaim := { program := "ytgjdoeljmnomcaa", sum := "cea42e28a2f7a8ad5290faaf358b54e1440fe6392a06a2c2dbb54c85799ffe94", func := "loop.example/g01151/laws.FnExactApplyMap", spec := "fnExactApplyMap", unfollowed := true, recurses := true, apart := false }
def FnExactApplyMapSaid : Prop := fnExactApplyMapRow.holds Try.pinned (OpenSpec.ofChange fnExactApplyMapSpec)

/-- ITS FALSE NEIGHBOUR: 'it returns false'. Refute it at one input. -/
def fnExactApplyMapWrong : ChangeSpec := { name := "fnExactApplyMap", fn := fun _ => fun
  | [d1, d2, d3] => { results := [.lit (.bool false)], args := [d1, d2, d3] }
  | _ => none }
def FnExactApplyMapWrongFalsely : Prop := fnExactApplyMapRow.holds Try.pinned (OpenSpec.ofChange fnExactApplyMapWrong)

/-- 'laws.FnExactComposeMaps': WHATEVER THE INPUT: true; the input reads as it did. -/
def fnExactComposeMapsSpec : ChangeSpec := { name := "fnExactComposeMaps", fn := fun _ => fun
  | [d1, d2] => { results := [.lit (.bool true)], args := [d1, d2] }
  | _ => none }
def fnExactComposeMapsRow : OpenClaim := { program := "ytgjdoeljmnomcaa", sum := "cea42e28a2f7a8ad5290faaf358b54e1440fe6392a06a2c2dbb54c85799ffe94", func := "loop.example/g01151/laws.FnExactComposeMaps", spec := "fnExactComposeMaps", unfollowed := true, recurses := true, apart := false }
def FnExactComposeMapsSaid : Prop := fnExactComposeMapsRow.holds Try.pinned (OpenSpec.ofChange fnExactComposeMapsSpec)

/-- ITS FALSE NEIGHBOUR: 'it returns false'. Refute it at one input. -/
def fnExactComposeMapsWrong : ChangeSpec := { name := "fnExactComposeMaps", fn := fun _ => fun
  | [d1, d2] => { results := [.lit (.bool false)], args := [d1, d2] }
  | _ => none }
def FnExactComposeMapsWrongFalsely : Prop := fnExactComposeMapsRow.holds Try.pinned (OpenSpec.ofChange fnExactComposeMapsWrong)

/-- 'laws.FnExactBeforeOf': WHATEVER THE INPUT: true; the input reads as it did. -/
def fnExactBeforeOfSpec : ChangeSpec := { name := "fnExactBeforeOf", fn := fun _ => fun
  | [d1, d2] => { results := [.lit (.bool true)], args := [d1, d2] }
  | _ => none }
def fnExactBeforeOfRow : OpenClaim := { program := "ytgjdoeljmnomcaa", sum := "cea42e28a2f7a8ad5290faaf358b54e1440fe6392a06a2c2dbb54c85799ffe94", func := "loop.example/g01151/laws.FnExactBeforeOf", spec := "fnExactBeforeOf", unfollowed := true, recurses := true, apart := false }
def FnExactBeforeOfSaid : Prop := fnExactBeforeOfRow.holds Try.pinned (OpenSpec.ofChange fnExactBeforeOfSpec)

/-- ITS FALSE NEIGHBOUR: 'it returns false'. Refute it at one input. -/
def fnExactBeforeOfWrong : ChangeSpec := { name := "fnExactBeforeOf", fn := fun _ => fun
  | [d1, d2] => { results := [.lit (.bool false)], args := [d1, d2] }
  | _ => none }
def FnExactBeforeOfWrongFalsely : Prop := fnExactBeforeOfRow.holds Try.pinned (OpenSpec.ofChange fnExactBeforeOfWrong)

/-- 'laws.FnExactEndsOf': WHATEVER THE INPUT: true; the input reads as it did. -/
def fnExactEndsOfSpec : ChangeSpec := { name := "fnExactEndsOf", fn := fun _ => fun
  | [d] => { results := [.lit (.bool true)], args := [d] }
  | _ => none }
def fnExactEndsOfRow : OpenClaim := { program := "ytgjdoeljmnomcaa", sum := "cea42e28a2f7a8ad5290faaf358b54e1440fe6392a06a2c2dbb54c85799ffe94", func := "loop.example/g01151/laws.FnExactEndsOf", spec := "fnExactEndsOf", unfollowed := true, recurses := true, apart := false }
def FnExactEndsOfSaid : Prop := fnExactEndsOfRow.holds Try.pinned (OpenSpec.ofChange fnExactEndsOfSpec)

/-- ITS FALSE NEIGHBOUR: 'it returns false'. Refute it at one input. -/
def fnExactEndsOfWrong : ChangeSpec := { name := "fnExactEndsOf", fn := fun _ => fun
  | [d] => { results := [.lit (.bool false)], args := [d] }
  | _ => none }
def FnExactEndsOfWrongFalsely : Prop := fnExactEndsOfRow.holds Try.pinned (OpenSpec.ofChange fnExactEndsOfWrong)

/-- 'laws.FnExactCountFixedBy': WHATEVER THE INPUT: true; the input reads as it did. -/
def fnExactCountFixedBySpec : ChangeSpec := { name := "fnExactCountFixedBy", fn := fun _ => fun
  | [d1, d2] => { results := [.lit (.bool true)], args := [d1, d2] }
  | _ => none }
def fnExactCountFixedByRow : OpenClaim := { program := "ytgjdoeljmnomcaa", sum := "cea42e28a2f7a8ad5290faaf358b54e1440fe6392a06a2c2dbb54c85799ffe94", func := "loop.example/g01151/laws.FnExactCountFixedBy", spec := "fnExactCountFixedBy", unfollowed := true, recurses := true, apart := false }
def FnExactCountFixedBySaid : Prop := fnExactCountFixedByRow.holds Try.pinned (OpenSpec.ofChange fnExactCountFixedBySpec)

/-- ITS FALSE NEIGHBOUR: 'it returns false'. Refute it at one input. -/
def fnExactCountFixedByWrong : ChangeSpec := { name := "fnExactCountFixedBy", fn := fun _ => fun
  | [d1, d2] => { results := [.lit (.bool false)], args := [d1, d2] }
  | _ => none }
def FnExactCountFixedByWrongFalsely : Prop := fnExactCountFixedByRow.holds Try.pinned (OpenSpec.ofChange fnExactCountFixedByWrong)

/-- 'laws.FnExactTailAndCycle': WHATEVER THE INPUT: true; the input reads as it did. -/
def fnExactTailAndCycleSpec : ChangeSpec := { name := "fnExactTailAndCycle", fn := fun _ => fun
  | [d1, d2] => { results := [.lit (.bool true)], args := [d1, d2] }
  | _ => none }
def fnExactTailAndCycleRow : OpenClaim := { program := "ytgjdoeljmnomcaa", sum := "cea42e28a2f7a8ad5290faaf358b54e1440fe6392a06a2c2dbb54c85799ffe94", func := "loop.example/g01151/laws.FnExactTailAndCycle", spec := "fnExactTailAndCycle", unfollowed := true, recurses := true, apart := false }
def FnExactTailAndCycleSaid : Prop := fnExactTailAndCycleRow.holds Try.pinned (OpenSpec.ofChange fnExactTailAndCycleSpec)

/-- ITS FALSE NEIGHBOUR: 'it returns false'. Refute it at one input. -/
def fnExactTailAndCycleWrong : ChangeSpec := { name := "fnExactTailAndCycle", fn := fun _ => fun
  | [d1, d2] => { results := [.lit (.bool false)], args := [d1, d2] }
  | _ => none }
def FnExactTailAndCycleWrongFalsely : Prop := fnExactTailAndCycleRow.holds Try.pinned (OpenSpec.ofChange fnExactTailAndCycleWrong)

/-- 'laws.FnExactPowerOfMap': WHATEVER THE INPUT: true; the input reads as it did. -/
def fnExactPowerOfMapSpec : ChangeSpec := { name := "fnExactPowerOfMap", fn := fun _ => fun
  | [d1, d2] => { results := [.lit (.bool true)], args := [d1, d2] }
  | _ => none }
def fnExactPowerOfMapRow : OpenClaim := { program := "ytgjdoeljmnomcaa", sum := "cea42e28a2f7a8ad5290faaf358b54e1440fe6392a06a2c2dbb54c85799ffe94", func := "loop.example/g01151/laws.FnExactPowerOfMap", spec := "fnExactPowerOfMap", unfollowed := true, recurses := true, apart := false }
def FnExactPowerOfMapSaid : Prop := fnExactPowerOfMapRow.holds Try.pinned (OpenSpec.ofChange fnExactPowerOfMapSpec)

/-- ITS FALSE NEIGHBOUR: 'it returns false'. Refute it at one input. -/
def fnExactPowerOfMapWrong : ChangeSpec := { name := "fnExactPowerOfMap", fn := fun _ => fun
  | [d1, d2] => { results := [.lit (.bool false)], args := [d1, d2] }
  | _ => none }
def FnExactPowerOfMapWrongFalsely : Prop := fnExactPowerOfMapRow.holds Try.pinned (OpenSpec.ofChange fnExactPowerOfMapWrong)

/-- 'laws.FnExactRenameMap': WHATEVER THE INPUT: true; the input reads as it did. -/
def fnExactRenameMapSpec : ChangeSpec := { name := "fnExactRenameMap", fn := fun _ => fun
  | [d1, d2] => { results := [.lit (.bool true)], args := [d1, d2] }
  | _ => none }
def fnExactRenameMapRow : OpenClaim := { program := "ytgjdoeljmnomcaa", sum := "cea42e28a2f7a8ad5290faaf358b54e1440fe6392a06a2c2dbb54c85799ffe94", func := "loop.example/g01151/laws.FnExactRenameMap", spec := "fnExactRenameMap", unfollowed := true, recurses := true, apart := false }
def FnExactRenameMapSaid : Prop := fnExactRenameMapRow.holds Try.pinned (OpenSpec.ofChange fnExactRenameMapSpec)

/-- ITS FALSE NEIGHBOUR: 'it returns false'. Refute it at one input. -/
def fnExactRenameMapWrong : ChangeSpec := { name := "fnExactRenameMap", fn := fun _ => fun
  | [d1, d2] => { results := [.lit (.bool false)], args := [d1, d2] }
  | _ => none }
def FnExactRenameMapWrongFalsely : Prop := fnExactRenameMapRow.holds Try.pinned (OpenSpec.ofChange fnExactRenameMapWrong)

/-- 'laws.FnExactDepthsOf': WHATEVER THE INPUT: true; the input reads as it did. -/
def fnExactDepthsOfSpec : ChangeSpec := { name := "fnExactDepthsOf", fn := fun _ => fun
  | [d] => { results := [.lit (.bool true)], args := [d] }
  | _ => none }
def fnExactDepthsOfRow : OpenClaim := { program := "ytgjdoeljmnomcaa", sum := "cea42e28a2f7a8ad5290faaf358b54e1440fe6392a06a2c2dbb54c85799ffe94", func := "loop.example/g01151/laws.FnExactDepthsOf", spec := "fnExactDepthsOf", unfollowed := true, recurses := true, apart := false }
def FnExactDepthsOfSaid : Prop := fnExactDepthsOfRow.holds Try.pinned (OpenSpec.ofChange fnExactDepthsOfSpec)

/-- ITS FALSE NEIGHBOUR: 'it returns false'. Refute it at one input. -/
def fnExactDepthsOfWrong : ChangeSpec := { name := "fnExactDepthsOf", fn := fun _ => fun
  | [d] => { results := [.lit (.bool false)], args := [d] }
  | _ => none }
def FnExactDepthsOfWrongFalsely : Prop := fnExactDepthsOfRow.holds Try.pinned (OpenSpec.ofChange fnExactDepthsOfWrong)

/-- 'laws.FnExactBasinsOf': WHATEVER THE INPUT: true; the input reads as it did. -/
def fnExactBasinsOfSpec : ChangeSpec := { name := "fnExactBasinsOf", fn := fun _ => fun
  | [d] => { results := [.lit (.bool true)], args := [d] }
  | _ => none }
def fnExactBasinsOfRow : OpenClaim := { program := "ytgjdoeljmnomcaa", sum := "cea42e28a2f7a8ad5290faaf358b54e1440fe6392a06a2c2dbb54c85799ffe94", func := "loop.example/g01151/laws.FnExactBasinsOf", spec := "fnExactBasinsOf", unfollowed := true, recurses := true, apart := false }
def FnExactBasinsOfSaid : Prop := fnExactBasinsOfRow.holds Try.pinned (OpenSpec.ofChange fnExactBasinsOfSpec)

/-- ITS FALSE NEIGHBOUR: 'it returns false'. Refute it at one input. -/
def fnExactBasinsOfWrong : ChangeSpec := { name := "fnExactBasinsOf", fn := fun _ => fun
  | [d] => { results := [.lit (.bool false)], args := [d] }
  | _ => none }
def FnExactBasinsOfWrongFalsely : Prop := fnExactBasinsOfRow.holds Try.pinned (OpenSpec.ofChange fnExactBasinsOfWrong)

/-- 'laws.FnExactCyclesOfMap': WHATEVER THE INPUT: true; the input reads as it did. -/
def fnExactCyclesOfMapSpec : ChangeSpec := { name := "fnExactCyclesOfMap", fn := fun _ => fun
  | [d] => { results := [.lit (.bool true)], args := [d] }
  | _ => none }
def fnExactCyclesOfMapRow : OpenClaim := { program := "ytgjdoeljmnomcaa", sum := "cea42e28a2f7a8ad5290faaf358b54e1440fe6392a06a2c2dbb54c85799ffe94", func := "loop.example/g01151/laws.FnExactCyclesOfMap", spec := "fnExactCyclesOfMap", unfollowed := true, recurses := true, apart := false }
def FnExactCyclesOfMapSaid : Prop := fnExactCyclesOfMapRow.holds Try.pinned (OpenSpec.ofChange fnExactCyclesOfMapSpec)

/-- ITS FALSE NEIGHBOUR: 'it returns false'. Refute it at one input. -/
def fnExactCyclesOfMapWrong : ChangeSpec := { name := "fnExactCyclesOfMap", fn := fun _ => fun
  | [d] => { results := [.lit (.bool false)], args := [d] }
  | _ => none }
def FnExactCyclesOfMapWrongFalsely : Prop := fnExactCyclesOfMapRow.holds Try.pinned (OpenSpec.ofChange fnExactCyclesOfMapWrong)

/- THE SECOND FORM. 'bulk': how many values and letters a reading holds, each counted each time it is reached (what is shared counts as often as it is met; a slice's spare places count too). A statement '..UptoSaid' is the law's where the arguments, and the package variables that the reading takes, are together of bulk at most 1048576: NARROWER than '..Said'. Prove '..Said' where nothing that the law and all that it calls make is longer than what came in: it says more and counts as full. Else prove '..UptoSaid'. A law counts once. -/
mutual
def uptoBulk {H : Type} : DataW H → Nat
  | .lit (.string bytes) => bytes.length + 1
  | .lit _ => 1
  | .nil => 1
  | .ptr d => uptoBulk d + 1
  | .slice elems spare => uptoBulkAll elems + uptoBulkAll spare + 1
  | .agg parts => uptoBulkAll parts + 1
  | .iface _ d => uptoBulk d + 1
  | .map entries => uptoBulkEntries entries + 1
  | .held _ => 1
def uptoBulkAll {H : Type} : List (DataW H) → Nat
  | [] => 0
  | d :: r => uptoBulk d + uptoBulkAll r
def uptoBulkEntries {H : Type} : List (Lit × DataW H) → Nat
  | [] => 0
  | x :: r => uptoBulkEntry x + uptoBulkEntries r
def uptoBulkEntry {H : Type} : Lit × DataW H → Nat
  | (.string bytes, d) => bytes.length + uptoBulk d + 1
  | (_, d) => uptoBulk d + 1
 end
def uptoSmall : (H : Type) → List (DataW H) → Bool := fun _ ds => decide (uptoBulkAll ds ≤ 1048576)
def OpenSpec.upto (s : _root_.Go.ChangeSpec) : _root_.Go.OpenSpec := { _root_.Go.OpenSpec.ofChange s with cond := some uptoSmall }

/-- 'laws.FnExactIsMap', WHERE WHAT IT READS IS OF BULK AT MOST 1048576: true; the input reads as it did. -/
def fnExactIsMapUptoRow : OpenClaim := { program := "ytgjdoeljmnomcaa", sum := "cea42e28a2f7a8ad5290faaf358b54e1440fe6392a06a2c2dbb54c85799ffe94", func := "loop.example/g01151/laws.FnExactIsMap", spec := "fnExactIsMap", unfollowed := true, recurses := true, apart := false, narrowed := true }
def FnExactIsMapUptoSaid : Prop := fnExactIsMapUptoRow.holds Try.pinned (OpenSpec.upto fnExactIsMapSpec)

/-- 'laws.FnExactApplyMap', WHERE WHAT IT READS IS OF BULK AT MOST 1048576: true; the input reads as it did. -/
def fnExactApplyMapUptoRow : OpenClaim := { program := "ytgjdoeljmnomcaa", sum := "cea42e28a2f7a8ad5290faaf358b54e1440fe6392a06a2c2dbb54c85799ffe94", func := "loop.example/g01151/laws.FnExactApplyMap", spec := "fnExactApplyMap", unfollowed := true, recurses := true, apart := false, narrowed := true }
def FnExactApplyMapUptoSaid : Prop := fnExactApplyMapUptoRow.holds Try.pinned (OpenSpec.upto fnExactApplyMapSpec)

/-- 'laws.FnExactComposeMaps', WHERE WHAT IT READS IS OF BULK AT MOST 1048576: true; the input reads as it did. -/
def fnExactComposeMapsUptoRow : OpenClaim := { program := "ytgjdoeljmnomcaa", sum := "cea42e28a2f7a8ad5290faaf358b54e1440fe6392a06a2c2dbb54c85799ffe94", func := "loop.example/g01151/laws.FnExactComposeMaps", spec := "fnExactComposeMaps", unfollowed := true, recurses := true, apart := false, narrowed := true }
def FnExactComposeMapsUptoSaid : Prop := fnExactComposeMapsUptoRow.holds Try.pinned (OpenSpec.upto fnExactComposeMapsSpec)

/-- 'laws.FnExactBeforeOf', WHERE WHAT IT READS IS OF BULK AT MOST 1048576: true; the input reads as it did. -/
def fnExactBeforeOfUptoRow : OpenClaim := { program := "ytgjdoeljmnomcaa", sum := "cea42e28a2f7a8ad5290faaf358b54e1440fe6392a06a2c2dbb54c85799ffe94", func := "loop.example/g01151/laws.FnExactBeforeOf", spec := "fnExactBeforeOf", unfollowed := true, recurses := true, apart := false, narrowed := true }
def FnExactBeforeOfUptoSaid : Prop := fnExactBeforeOfUptoRow.holds Try.pinned (OpenSpec.upto fnExactBeforeOfSpec)

/-- 'laws.FnExactEndsOf', WHERE WHAT IT READS IS OF BULK AT MOST 1048576: true; the input reads as it did. -/
def fnExactEndsOfUptoRow : OpenClaim := { program := "ytgjdoeljmnomcaa", sum := "cea42e28a2f7a8ad5290faaf358b54e1440fe6392a06a2c2dbb54c85799ffe94", func := "loop.example/g01151/laws.FnExactEndsOf", spec := "fnExactEndsOf", unfollowed := true, recurses := true, apart := false, narrowed := true }
def FnExactEndsOfUptoSaid : Prop := fnExactEndsOfUptoRow.holds Try.pinned (OpenSpec.upto fnExactEndsOfSpec)

/-- 'laws.FnExactCountFixedBy', WHERE WHAT IT READS IS OF BULK AT MOST 1048576: true; the input reads as it did. -/
def fnExactCountFixedByUptoRow : OpenClaim := { program := "ytgjdoeljmnomcaa", sum := "cea42e28a2f7a8ad5290faaf358b54e1440fe6392a06a2c2dbb54c85799ffe94", func := "loop.example/g01151/laws.FnExactCountFixedBy", spec := "fnExactCountFixedBy", unfollowed := true, recurses := true, apart := false, narrowed := true }
def FnExactCountFixedByUptoSaid : Prop := fnExactCountFixedByUptoRow.holds Try.pinned (OpenSpec.upto fnExactCountFixedBySpec)

/-- 'laws.FnExactTailAndCycle', WHERE WHAT IT READS IS OF BULK AT MOST 1048576: true; the input reads as it did. -/
def fnExactTailAndCycleUptoRow : OpenClaim := { program := "ytgjdoeljmnomcaa", sum := "cea42e28a2f7a8ad5290faaf358b54e1440fe6392a06a2c2dbb54c85799ffe94", func := "loop.example/g01151/laws.FnExactTailAndCycle", spec := "fnExactTailAndCycle", unfollowed := true, recurses := true, apart := false, narrowed := true }
def FnExactTailAndCycleUptoSaid : Prop := fnExactTailAndCycleUptoRow.holds Try.pinned (OpenSpec.upto fnExactTailAndCycleSpec)

/-- 'laws.FnExactPowerOfMap', WHERE WHAT IT READS IS OF BULK AT MOST 1048576: true; the input reads as it did. -/
def fnExactPowerOfMapUptoRow : OpenClaim := { program := "ytgjdoeljmnomcaa", sum := "cea42e28a2f7a8ad5290faaf358b54e1440fe6392a06a2c2dbb54c85799ffe94", func := "loop.example/g01151/laws.FnExactPowerOfMap", spec := "fnExactPowerOfMap", unfollowed := true, recurses := true, apart := false, narrowed := true }
def FnExactPowerOfMapUptoSaid : Prop := fnExactPowerOfMapUptoRow.holds Try.pinned (OpenSpec.upto fnExactPowerOfMapSpec)

/-- 'laws.FnExactRenameMap', WHERE WHAT IT READS IS OF BULK AT MOST 1048576: true; the input reads as it did. -/
def fnExactRenameMapUptoRow : OpenClaim := { program := "ytgjdoeljmnomcaa", sum := "cea42e28a2f7a8ad5290faaf358b54e1440fe6392a06a2c2dbb54c85799ffe94", func := "loop.example/g01151/laws.FnExactRenameMap", spec := "fnExactRenameMap", unfollowed := true, recurses := true, apart := false, narrowed := true }
def FnExactRenameMapUptoSaid : Prop := fnExactRenameMapUptoRow.holds Try.pinned (OpenSpec.upto fnExactRenameMapSpec)

/-- 'laws.FnExactDepthsOf', WHERE WHAT IT READS IS OF BULK AT MOST 1048576: true; the input reads as it did. -/
def fnExactDepthsOfUptoRow : OpenClaim := { program := "ytgjdoeljmnomcaa", sum := "cea42e28a2f7a8ad5290faaf358b54e1440fe6392a06a2c2dbb54c85799ffe94", func := "loop.example/g01151/laws.FnExactDepthsOf", spec := "fnExactDepthsOf", unfollowed := true, recurses := true, apart := false, narrowed := true }
def FnExactDepthsOfUptoSaid : Prop := fnExactDepthsOfUptoRow.holds Try.pinned (OpenSpec.upto fnExactDepthsOfSpec)

/-- 'laws.FnExactBasinsOf', WHERE WHAT IT READS IS OF BULK AT MOST 1048576: true; the input reads as it did. -/
def fnExactBasinsOfUptoRow : OpenClaim := { program := "ytgjdoeljmnomcaa", sum := "cea42e28a2f7a8ad5290faaf358b54e1440fe6392a06a2c2dbb54c85799ffe94", func := "loop.example/g01151/laws.FnExactBasinsOf", spec := "fnExactBasinsOf", unfollowed := true, recurses := true, apart := false, narrowed := true }
def FnExactBasinsOfUptoSaid : Prop := fnExactBasinsOfUptoRow.holds Try.pinned (OpenSpec.upto fnExactBasinsOfSpec)

/-- 'laws.FnExactCyclesOfMap', WHERE WHAT IT READS IS OF BULK AT MOST 1048576: true; the input reads as it did. -/
def fnExactCyclesOfMapUptoRow : OpenClaim := { program := "ytgjdoeljmnomcaa", sum := "cea42e28a2f7a8ad5290faaf358b54e1440fe6392a06a2c2dbb54c85799ffe94", func := "loop.example/g01151/laws.FnExactCyclesOfMap", spec := "fnExactCyclesOfMap", unfollowed := true, recurses := true, apart := false, narrowed := true }
def FnExactCyclesOfMapUptoSaid : Prop := fnExactCyclesOfMapUptoRow.holds Try.pinned (OpenSpec.upto fnExactCyclesOfMapSpec)

end Rows
end Go.Proofs.Ytgjdoeljmnomcaa
