/-
  No cell of these rows narrows 'for every input' (looked for: loops, veiled, ifaces, maps, wideKeys, modest, calm, conditions, laid).
  DERIVED. THE GIVEN ROWS OF THIS SEAT. 11 by the template 'for every input the law returns true; each argument reads behind the call as it read before'; 0 by the template 'total and deterministic' (their statements: YtocnokalokbgpaaTotals.lean).
  GIVEN WITH THE SEED: the statements are not yours to turn. If you find one false, say at which input.
  Laid BY PROGRAM, IN A SANDBOX (cutbox-rows.mjs): the forced cells as the released guide's own fill.sh prints them over the translation 1c55155b50432fab… (all of the seat's roots in one cut). By AI agents, Wed Nov 11 2026. No macro, syntax, notation, axiom, sorry.
-/
import Derived.Test.YtocnokalokbgpaaChecked
import GoSem.Claim
import GoSem.ClaimJoined
import GoSem.ClaimMapViews
import Derived.JoinedTies
import Derived.KernelRfl
namespace Go.Proofs.Ytocnokalokbgpaa
/- THE CELL 'sum', in the pinned program and in every row, IS THE sha256 OF THE DUMP (.gsa) THAT YtocnokalokbgpaaProg.lean LOADS. Nothing in Lean hashes anything: it is a label: what it is worth is what the hold of that sum in a sandbox is worth. -/
noncomputable def Try.pinned : Pinned := { name := "ytocnokalokbgpaa", sum := "1c55155b50432fab3245c005d4cc401705736c487be4426c09f3430ddc5b672f", checked := Try.checked }
namespace Rows
def none {H : Type} : Left H := { results := [], args := [] }

/-- 'laws.FnExactFallsFrom': WHATEVER THE INPUT: true; the input reads as it did. -/
def fnExactFallsFromSpec : ChangeSpec := { name := "fnExactFallsFrom", fn := fun _ => fun
  | [d1, d2] => { results := [.lit (.bool true)], args := [d1, d2] }
  | _ => none }
def fnExactFallsFromRow : OpenClaim := { program := "ytocnokalokbgpaa", sum := "1c55155b50432fab3245c005d4cc401705736c487be4426c09f3430ddc5b672f", func := "loop.example/g01151/laws.FnExactFallsFrom", spec := "fnExactFallsFrom", apart := false }
def FnExactFallsFromSaid : Prop := fnExactFallsFromRow.holds Try.pinned (OpenSpec.ofChange fnExactFallsFromSpec)

/-- ITS FALSE NEIGHBOUR: 'it returns false'. Refute it at one input. -/
def fnExactFallsFromWrong : ChangeSpec := { name := "fnExactFallsFrom", fn := fun _ => fun
  | [d1, d2] => { results := [.lit (.bool false)], args := [d1, d2] }
  | _ => none }
def FnExactFallsFromWrongFalsely : Prop := fnExactFallsFromRow.holds Try.pinned (OpenSpec.ofChange fnExactFallsFromWrong)

/-- 'laws.FnExactGreatestSum': WHATEVER THE INPUT: true; the input reads as it did. -/
def fnExactGreatestSumSpec : ChangeSpec := { name := "fnExactGreatestSum", fn := fun _ => fun
  | [d1, d2] => { results := [.lit (.bool true)], args := [d1, d2] }
  | _ => none }
def fnExactGreatestSumRow : OpenClaim := { program := "ytocnokalokbgpaa", sum := "1c55155b50432fab3245c005d4cc401705736c487be4426c09f3430ddc5b672f", func := "loop.example/g01151/laws.FnExactGreatestSum", spec := "fnExactGreatestSum", apart := false }
def FnExactGreatestSumSaid : Prop := fnExactGreatestSumRow.holds Try.pinned (OpenSpec.ofChange fnExactGreatestSumSpec)

/-- ITS FALSE NEIGHBOUR: 'it returns false'. Refute it at one input. -/
def fnExactGreatestSumWrong : ChangeSpec := { name := "fnExactGreatestSum", fn := fun _ => fun
  | [d1, d2] => { results := [.lit (.bool false)], args := [d1, d2] }
  | _ => none }
def FnExactGreatestSumWrongFalsely : Prop := fnExactGreatestSumRow.holds Try.pinned (OpenSpec.ofChange fnExactGreatestSumWrong)

/-- 'laws.FnExactPowerSum': WHATEVER THE INPUT: true; the input reads as it did. -/
def fnExactPowerSumSpec : ChangeSpec := { name := "fnExactPowerSum", fn := fun _ => fun
  | [d1, d2, d3] => { results := [.lit (.bool true)], args := [d1, d2, d3] }
  | _ => none }
def fnExactPowerSumRow : OpenClaim := { program := "ytocnokalokbgpaa", sum := "1c55155b50432fab3245c005d4cc401705736c487be4426c09f3430ddc5b672f", func := "loop.example/g01151/laws.FnExactPowerSum", spec := "fnExactPowerSum", apart := false }
def FnExactPowerSumSaid : Prop := fnExactPowerSumRow.holds Try.pinned (OpenSpec.ofChange fnExactPowerSumSpec)

/-- ITS FALSE NEIGHBOUR: 'it returns false'. Refute it at one input. -/
def fnExactPowerSumWrong : ChangeSpec := { name := "fnExactPowerSum", fn := fun _ => fun
  | [d1, d2, d3] => { results := [.lit (.bool false)], args := [d1, d2, d3] }
  | _ => none }
def FnExactPowerSumWrongFalsely : Prop := fnExactPowerSumRow.holds Try.pinned (OpenSpec.ofChange fnExactPowerSumWrong)

/-- 'laws.FnExactSumsSpread': WHATEVER THE INPUT: true; the input reads as it did. -/
def fnExactSumsSpreadSpec : ChangeSpec := { name := "fnExactSumsSpread", fn := fun _ => fun
  | [d1, d2] => { results := [.lit (.bool true)], args := [d1, d2] }
  | _ => none }
def fnExactSumsSpreadRow : OpenClaim := { program := "ytocnokalokbgpaa", sum := "1c55155b50432fab3245c005d4cc401705736c487be4426c09f3430ddc5b672f", func := "loop.example/g01151/laws.FnExactSumsSpread", spec := "fnExactSumsSpread", apart := false }
def FnExactSumsSpreadSaid : Prop := fnExactSumsSpreadRow.holds Try.pinned (OpenSpec.ofChange fnExactSumsSpreadSpec)

/-- ITS FALSE NEIGHBOUR: 'it returns false'. Refute it at one input. -/
def fnExactSumsSpreadWrong : ChangeSpec := { name := "fnExactSumsSpread", fn := fun _ => fun
  | [d1, d2] => { results := [.lit (.bool false)], args := [d1, d2] }
  | _ => none }
def FnExactSumsSpreadWrongFalsely : Prop := fnExactSumsSpreadRow.holds Try.pinned (OpenSpec.ofChange fnExactSumsSpreadWrong)

/-- 'laws.FnExactPowerTail': WHATEVER THE INPUT: true; the input reads as it did. -/
def fnExactPowerTailSpec : ChangeSpec := { name := "fnExactPowerTail", fn := fun _ => fun
  | [d1, d2, d3] => { results := [.lit (.bool true)], args := [d1, d2, d3] }
  | _ => none }
def fnExactPowerTailRow : OpenClaim := { program := "ytocnokalokbgpaa", sum := "1c55155b50432fab3245c005d4cc401705736c487be4426c09f3430ddc5b672f", func := "loop.example/g01151/laws.FnExactPowerTail", spec := "fnExactPowerTail", unfollowed := true, recurses := true, apart := false }
def FnExactPowerTailSaid : Prop := fnExactPowerTailRow.holds Try.pinned (OpenSpec.ofChange fnExactPowerTailSpec)

/-- ITS FALSE NEIGHBOUR: 'it returns false'. Refute it at one input. -/
def fnExactPowerTailWrong : ChangeSpec := { name := "fnExactPowerTail", fn := fun _ => fun
  | [d1, d2, d3] => { results := [.lit (.bool false)], args := [d1, d2, d3] }
  | _ => none }
def FnExactPowerTailWrongFalsely : Prop := fnExactPowerTailRow.holds Try.pinned (OpenSpec.ofChange fnExactPowerTailWrong)

/-- 'laws.FnExactLeastWithSum': WHATEVER THE INPUT: true; the input reads as it did. -/
def fnExactLeastWithSumSpec : ChangeSpec := { name := "fnExactLeastWithSum", fn := fun _ => fun
  | [d1, d2, d3] => { results := [.lit (.bool true)], args := [d1, d2, d3] }
  | _ => none }
def fnExactLeastWithSumRow : OpenClaim := { program := "ytocnokalokbgpaa", sum := "1c55155b50432fab3245c005d4cc401705736c487be4426c09f3430ddc5b672f", func := "loop.example/g01151/laws.FnExactLeastWithSum", spec := "fnExactLeastWithSum", apart := false }
def FnExactLeastWithSumSaid : Prop := fnExactLeastWithSumRow.holds Try.pinned (OpenSpec.ofChange fnExactLeastWithSumSpec)

/-- ITS FALSE NEIGHBOUR: 'it returns false'. Refute it at one input. -/
def fnExactLeastWithSumWrong : ChangeSpec := { name := "fnExactLeastWithSum", fn := fun _ => fun
  | [d1, d2, d3] => { results := [.lit (.bool false)], args := [d1, d2, d3] }
  | _ => none }
def FnExactLeastWithSumWrongFalsely : Prop := fnExactLeastWithSumRow.holds Try.pinned (OpenSpec.ofChange fnExactLeastWithSumWrong)

/-- 'laws.FnExactEndsIn': WHATEVER THE INPUT: true; the input reads as it did. -/
def fnExactEndsInSpec : ChangeSpec := { name := "fnExactEndsIn", fn := fun _ => fun
  | [d1, d2, d3] => { results := [.lit (.bool true)], args := [d1, d2, d3] }
  | _ => none }
def fnExactEndsInRow : OpenClaim := { program := "ytocnokalokbgpaa", sum := "1c55155b50432fab3245c005d4cc401705736c487be4426c09f3430ddc5b672f", func := "loop.example/g01151/laws.FnExactEndsIn", spec := "fnExactEndsIn", unfollowed := true, recurses := true, apart := false }
def FnExactEndsInSaid : Prop := fnExactEndsInRow.holds Try.pinned (OpenSpec.ofChange fnExactEndsInSpec)

/-- ITS FALSE NEIGHBOUR: 'it returns false'. Refute it at one input. -/
def fnExactEndsInWrong : ChangeSpec := { name := "fnExactEndsIn", fn := fun _ => fun
  | [d1, d2, d3] => { results := [.lit (.bool false)], args := [d1, d2, d3] }
  | _ => none }
def FnExactEndsInWrongFalsely : Prop := fnExactEndsInRow.holds Try.pinned (OpenSpec.ofChange fnExactEndsInWrong)

/-- 'laws.FnExactIsHappy': WHATEVER THE INPUT: true; the input reads as it did. -/
def fnExactIsHappySpec : ChangeSpec := { name := "fnExactIsHappy", fn := fun _ => fun
  | [d1, d2] => { results := [.lit (.bool true)], args := [d1, d2] }
  | _ => none }
def fnExactIsHappyRow : OpenClaim := { program := "ytocnokalokbgpaa", sum := "1c55155b50432fab3245c005d4cc401705736c487be4426c09f3430ddc5b672f", func := "loop.example/g01151/laws.FnExactIsHappy", spec := "fnExactIsHappy", unfollowed := true, recurses := true, apart := false }
def FnExactIsHappySaid : Prop := fnExactIsHappyRow.holds Try.pinned (OpenSpec.ofChange fnExactIsHappySpec)

/-- ITS FALSE NEIGHBOUR: 'it returns false'. Refute it at one input. -/
def fnExactIsHappyWrong : ChangeSpec := { name := "fnExactIsHappy", fn := fun _ => fun
  | [d1, d2] => { results := [.lit (.bool false)], args := [d1, d2] }
  | _ => none }
def FnExactIsHappyWrongFalsely : Prop := fnExactIsHappyRow.holds Try.pinned (OpenSpec.ofChange fnExactIsHappyWrong)

/-- 'laws.FnExactPowerRun': WHATEVER THE INPUT: true; the input reads as it did. -/
def fnExactPowerRunSpec : ChangeSpec := { name := "fnExactPowerRun", fn := fun _ => fun
  | [d1, d2, d3] => { results := [.lit (.bool true)], args := [d1, d2, d3] }
  | _ => none }
def fnExactPowerRunRow : OpenClaim := { program := "ytocnokalokbgpaa", sum := "1c55155b50432fab3245c005d4cc401705736c487be4426c09f3430ddc5b672f", func := "loop.example/g01151/laws.FnExactPowerRun", spec := "fnExactPowerRun", unfollowed := true, recurses := true, apart := false }
def FnExactPowerRunSaid : Prop := fnExactPowerRunRow.holds Try.pinned (OpenSpec.ofChange fnExactPowerRunSpec)

/-- ITS FALSE NEIGHBOUR: 'it returns false'. Refute it at one input. -/
def fnExactPowerRunWrong : ChangeSpec := { name := "fnExactPowerRun", fn := fun _ => fun
  | [d1, d2, d3] => { results := [.lit (.bool false)], args := [d1, d2, d3] }
  | _ => none }
def FnExactPowerRunWrongFalsely : Prop := fnExactPowerRunRow.holds Try.pinned (OpenSpec.ofChange fnExactPowerRunWrong)

/-- 'laws.FnExactCountHappy': WHATEVER THE INPUT: true; the input reads as it did. -/
def fnExactCountHappySpec : ChangeSpec := { name := "fnExactCountHappy", fn := fun _ => fun
  | [d1, d2] => { results := [.lit (.bool true)], args := [d1, d2] }
  | _ => none }
def fnExactCountHappyRow : OpenClaim := { program := "ytocnokalokbgpaa", sum := "1c55155b50432fab3245c005d4cc401705736c487be4426c09f3430ddc5b672f", func := "loop.example/g01151/laws.FnExactCountHappy", spec := "fnExactCountHappy", unfollowed := true, recurses := true, apart := false }
def FnExactCountHappySaid : Prop := fnExactCountHappyRow.holds Try.pinned (OpenSpec.ofChange fnExactCountHappySpec)

/-- ITS FALSE NEIGHBOUR: 'it returns false'. Refute it at one input. -/
def fnExactCountHappyWrong : ChangeSpec := { name := "fnExactCountHappy", fn := fun _ => fun
  | [d1, d2] => { results := [.lit (.bool false)], args := [d1, d2] }
  | _ => none }
def FnExactCountHappyWrongFalsely : Prop := fnExactCountHappyRow.holds Try.pinned (OpenSpec.ofChange fnExactCountHappyWrong)

/-- 'laws.FnExactHappyUpTo': WHATEVER THE INPUT: true; the input reads as it did. -/
def fnExactHappyUpToSpec : ChangeSpec := { name := "fnExactHappyUpTo", fn := fun _ => fun
  | [d1, d2] => { results := [.lit (.bool true)], args := [d1, d2] }
  | _ => none }
def fnExactHappyUpToRow : OpenClaim := { program := "ytocnokalokbgpaa", sum := "1c55155b50432fab3245c005d4cc401705736c487be4426c09f3430ddc5b672f", func := "loop.example/g01151/laws.FnExactHappyUpTo", spec := "fnExactHappyUpTo", unfollowed := true, recurses := true, apart := false }
def FnExactHappyUpToSaid : Prop := fnExactHappyUpToRow.holds Try.pinned (OpenSpec.ofChange fnExactHappyUpToSpec)

/-- ITS FALSE NEIGHBOUR: 'it returns false'. Refute it at one input. -/
def fnExactHappyUpToWrong : ChangeSpec := { name := "fnExactHappyUpTo", fn := fun _ => fun
  | [d1, d2] => { results := [.lit (.bool false)], args := [d1, d2] }
  | _ => none }
def FnExactHappyUpToWrongFalsely : Prop := fnExactHappyUpToRow.holds Try.pinned (OpenSpec.ofChange fnExactHappyUpToWrong)

/- THE SECOND FORM. 'bulk': how many values and letters a reading holds, each counted each time it is reached (what is shared counts as often as it is met; a slice's spare places count too). A statement '..UptoSaid' is the law's where the arguments, and the package variables that the reading takes, are together of bulk at most 1048576: NARROWER than '..Said'. Prove '..Said' where nothing that the law and all that it calls make is longer than what came in: it says more and counts as full. Else prove '..UptoSaid'. A law counts once. -/
mutual
def uptoBulk {H : Type} : DataW H → Nat
  | .lit (.string bytes) => bytes.length + 1
  | .lit _ => 1
  | .nil => 1
  | .ptr d => uptoBulk d + 1
  | .slice elems spare => uptoBulkAll elems + uptoBulkAll spare + 1
  | .agg parts => uptoBulkAll parts + 1
  | .iface _ d => uptoBulk d + 1
  | .map entries => uptoBulkEntries entries + 1
  | .held _ => 1
def uptoBulkAll {H : Type} : List (DataW H) → Nat
  | [] => 0
  | d :: r => uptoBulk d + uptoBulkAll r
def uptoBulkEntries {H : Type} : List (Lit × DataW H) → Nat
  | [] => 0
  | x :: r => uptoBulkEntry x + uptoBulkEntries r
def uptoBulkEntry {H : Type} : Lit × DataW H → Nat
  | (.string bytes, d) => bytes.length + uptoBulk d + 1
  | (_, d) => uptoBulk d + 1
 end
def uptoSmall : (H : Type) → List (DataW H) → Bool := fun _ ds => decide (uptoBulkAll ds ≤ 1048576)
def OpenSpec.upto (s : _root_.Go.ChangeSpec) : _root_.Go.OpenSpec := { _root_.Go.OpenSpec.ofChange s with cond := some uptoSmall }

/-- 'laws.FnExactFallsFrom', WHERE WHAT IT READS IS OF BULK AT MOST 1048576: true; the input reads as it did. -/
def fnExactFallsFromUptoRow : OpenClaim := { program := "ytocnokalokbgpaa", sum := "1c55155b50432fab3245c005d4cc401705736c487be4426c09f3430ddc5b672f", func := "loop.example/g01151/laws.FnExactFallsFrom", spec := "fnExactFallsFrom", apart := false, narrowed := true }
def FnExactFallsFromUptoSaid : Prop := fnExactFallsFromUptoRow.holds Try.pinned (OpenSpec.upto fnExactFallsFromSpec)

/-- 'laws.FnExactGreatestSum', WHERE WHAT IT READS IS OF BULK AT MOST 1048576: true; the input reads as it did. -/
def fnExactGreatestSumUptoRow : OpenClaim := { program := "ytocnokalokbgpaa", sum := "1c55155b50432fab3245c005d4cc401705736c487be4426c09f3430ddc5b672f", func := "loop.example/g01151/laws.FnExactGreatestSum", spec := "fnExactGreatestSum", apart := false, narrowed := true }
def FnExactGreatestSumUptoSaid : Prop := fnExactGreatestSumUptoRow.holds Try.pinned (OpenSpec.upto fnExactGreatestSumSpec)

/-- 'laws.FnExactPowerSum', WHERE WHAT IT READS IS OF BULK AT MOST 1048576: true; the input reads as it did. -/
def fnExactPowerSumUptoRow : OpenClaim := { program := "ytocnokalokbgpaa", sum := "1c55155b50432fab3245c005d4cc401705736c487be4426c09f3430ddc5b672f", func := "loop.example/g01151/laws.FnExactPowerSum", spec := "fnExactPowerSum", apart := false, narrowed := true }
def FnExactPowerSumUptoSaid : Prop := fnExactPowerSumUptoRow.holds Try.pinned (OpenSpec.upto fnExactPowerSumSpec)

/-- 'laws.FnExactSumsSpread', WHERE WHAT IT READS IS OF BULK AT MOST 1048576: true; the input reads as it did. -/
def fnExactSumsSpreadUptoRow : OpenClaim := { program := "ytocnokalokbgpaa", sum := "1c55155b50432fab3245c005d4cc401705736c487be4426c09f3430ddc5b672f", func := "loop.example/g01151/laws.FnExactSumsSpread", spec := "fnExactSumsSpread", apart := false, narrowed := true }
def FnExactSumsSpreadUptoSaid : Prop := fnExactSumsSpreadUptoRow.holds Try.pinned (OpenSpec.upto fnExactSumsSpreadSpec)

/-- 'laws.FnExactPowerTail', WHERE WHAT IT READS IS OF BULK AT MOST 1048576: true; the input reads as it did. -/
def fnExactPowerTailUptoRow : OpenClaim := { program := "ytocnokalokbgpaa", sum := "1c55155b50432fab3245c005d4cc401705736c487be4426c09f3430ddc5b672f", func := "loop.example/g01151/laws.FnExactPowerTail", spec := "fnExactPowerTail", unfollowed := true, recurses := true, apart := false, narrowed := true }
def FnExactPowerTailUptoSaid : Prop := fnExactPowerTailUptoRow.holds Try.pinned (OpenSpec.upto fnExactPowerTailSpec)

/-- 'laws.FnExactLeastWithSum', WHERE WHAT IT READS IS OF BULK AT MOST 1048576: true; the input reads as it did. -/
def fnExactLeastWithSumUptoRow : OpenClaim := { program := "ytocnokalokbgpaa", sum := "1c55155b50432fab3245c005d4cc401705736c487be4426c09f3430ddc5b672f", func := "loop.example/g01151/laws.FnExactLeastWithSum", spec := "fnExactLeastWithSum", apart := false, narrowed := true }
def FnExactLeastWithSumUptoSaid : Prop := fnExactLeastWithSumUptoRow.holds Try.pinned (OpenSpec.upto fnExactLeastWithSumSpec)

/-- 'laws.FnExactEndsIn', WHERE WHAT IT READS IS OF BULK AT MOST 1048576: true; the input reads as it did. -/
def fnExactEndsInUptoRow : OpenClaim := { program := "ytocnokalokbgpaa", sum := "1c55155b50432fab3245c005d4cc401705736c487be4426c09f3430ddc5b672f", func := "loop.example/g01151/laws.FnExactEndsIn", spec := "fnExactEndsIn", unfollowed := true, recurses := true, apart := false, narrowed := true }
def FnExactEndsInUptoSaid : Prop := fnExactEndsInUptoRow.holds Try.pinned (OpenSpec.upto fnExactEndsInSpec)

/-- 'laws.FnExactIsHappy', WHERE WHAT IT READS IS OF BULK AT MOST 1048576: true; the input reads as it did. -/
def fnExactIsHappyUptoRow : OpenClaim := { program := "ytocnokalokbgpaa", sum := "1c55155b50432fab3245c005d4cc401705736c487be4426c09f3430ddc5b672f", func := "loop.example/g01151/laws.FnExactIsHappy", spec := "fnExactIsHappy", unfollowed := true, recurses := true, apart := false, narrowed := true }
def FnExactIsHappyUptoSaid : Prop := fnExactIsHappyUptoRow.holds Try.pinned (OpenSpec.upto fnExactIsHappySpec)

/-- 'laws.FnExactPowerRun', WHERE WHAT IT READS IS OF BULK AT MOST 1048576: true; the input reads as it did. -/
def fnExactPowerRunUptoRow : OpenClaim := { program := "ytocnokalokbgpaa", sum := "1c55155b50432fab3245c005d4cc401705736c487be4426c09f3430ddc5b672f", func := "loop.example/g01151/laws.FnExactPowerRun", spec := "fnExactPowerRun", unfollowed := true, recurses := true, apart := false, narrowed := true }
def FnExactPowerRunUptoSaid : Prop := fnExactPowerRunUptoRow.holds Try.pinned (OpenSpec.upto fnExactPowerRunSpec)

/-- 'laws.FnExactCountHappy', WHERE WHAT IT READS IS OF BULK AT MOST 1048576: true; the input reads as it did. -/
def fnExactCountHappyUptoRow : OpenClaim := { program := "ytocnokalokbgpaa", sum := "1c55155b50432fab3245c005d4cc401705736c487be4426c09f3430ddc5b672f", func := "loop.example/g01151/laws.FnExactCountHappy", spec := "fnExactCountHappy", unfollowed := true, recurses := true, apart := false, narrowed := true }
def FnExactCountHappyUptoSaid : Prop := fnExactCountHappyUptoRow.holds Try.pinned (OpenSpec.upto fnExactCountHappySpec)

/-- 'laws.FnExactHappyUpTo', WHERE WHAT IT READS IS OF BULK AT MOST 1048576: true; the input reads as it did. -/
def fnExactHappyUpToUptoRow : OpenClaim := { program := "ytocnokalokbgpaa", sum := "1c55155b50432fab3245c005d4cc401705736c487be4426c09f3430ddc5b672f", func := "loop.example/g01151/laws.FnExactHappyUpTo", spec := "fnExactHappyUpTo", unfollowed := true, recurses := true, apart := false, narrowed := true }
def FnExactHappyUpToUptoSaid : Prop := fnExactHappyUpToUptoRow.holds Try.pinned (OpenSpec.upto fnExactHappyUpToSpec)

end Rows
end Go.Proofs.Ytocnokalokbgpaa
