/-
  No cell of these rows narrows 'for every input' (looked for: loops, veiled, ifaces, maps, wideKeys, modest, calm, conditions, laid).
  DERIVED. THE GIVEN ROWS OF THIS SEAT. 11 by the template 'for every input the law returns true; each argument reads behind the call as it read before'; 0 by the template 'total and deterministic' (their statements: YtndbfkgcmckjlaaTotals.lean).
  GIVEN WITH THE SEED: the statements are not yours to turn. If you find one false, say at which input.
  Laid BY PROGRAM, IN A SANDBOX (cutbox-rows.mjs): the forced cells as the released guide's own fill.sh prints them over the translation 2bc54b8a0843977f… (all of the seat's roots in one cut). By AI agents, Wed Nov 11 2026. No macro, syntax, notation, axiom, sorry.
-/
import Derived.Test.YtndbfkgcmckjlaaChecked
import GoSem.Claim
import GoSem.ClaimJoined
import GoSem.ClaimMapViews
import Derived.JoinedTies
import Derived.KernelRfl
namespace Go.Proofs.Ytndbfkgcmckjlaa
/- THE CELL 'sum', in the pinned program and in every row, IS THE sha256 OF THE DUMP (.gsa) THAT YtndbfkgcmckjlaaProg.lean LOADS. Nothing in Lean hashes anything: it is a label: what it is worth is what the hold of that sum in a sandbox is worth. -/
noncomputable def Try.pinned : Pinned := { name := "ytndbfkgcmckjlaa", sum := "2bc54b8a0843977f42f2f2b152d58c6f815785d8b65b4bfa78599825d6f5f784", checked := Try.checked }
namespace Rows
def none {H : Type} : Left H := { results := [], args := [] }

/-- 'laws.FnExactParseNumber': WHATEVER THE INPUT: true; the input reads as it did. -/
def fnExactParseNumberSpec : ChangeSpec := { name := "fnExactParseNumber", fn := fun _ => fun
  | [d1, d2] => { results := [.lit (.bool true)], args := [d1, d2] }
  | _ => none }
def fnExactParseNumberRow : OpenClaim := { program := "ytndbfkgcmckjlaa", sum := "2bc54b8a0843977f42f2f2b152d58c6f815785d8b65b4bfa78599825d6f5f784", func := "loop.example/g01151/laws.FnExactParseNumber", spec := "fnExactParseNumber", unfollowed := true, recurses := true, apart := false }
def FnExactParseNumberSaid : Prop := fnExactParseNumberRow.holds Try.pinned (OpenSpec.ofChange fnExactParseNumberSpec)

/-- ITS FALSE NEIGHBOUR: 'it returns false'. Refute it at one input. -/
def fnExactParseNumberWrong : ChangeSpec := { name := "fnExactParseNumber", fn := fun _ => fun
  | [d1, d2] => { results := [.lit (.bool false)], args := [d1, d2] }
  | _ => none }
def FnExactParseNumberWrongFalsely : Prop := fnExactParseNumberRow.holds Try.pinned (OpenSpec.ofChange fnExactParseNumberWrong)

/-- 'laws.FnExactCountRearranged': WHATEVER THE INPUT: true; the input reads as it did. -/
def fnExactCountRearrangedSpec : ChangeSpec := { name := "fnExactCountRearranged", fn := fun _ => fun
  | [d1, d2] => { results := [.lit (.bool true)], args := [d1, d2] }
  | _ => none }
def fnExactCountRearrangedRow : OpenClaim := { program := "ytndbfkgcmckjlaa", sum := "2bc54b8a0843977f42f2f2b152d58c6f815785d8b65b4bfa78599825d6f5f784", func := "loop.example/g01151/laws.FnExactCountRearranged", spec := "fnExactCountRearranged", apart := false }
def FnExactCountRearrangedSaid : Prop := fnExactCountRearrangedRow.holds Try.pinned (OpenSpec.ofChange fnExactCountRearrangedSpec)

/-- ITS FALSE NEIGHBOUR: 'it returns false'. Refute it at one input. -/
def fnExactCountRearrangedWrong : ChangeSpec := { name := "fnExactCountRearranged", fn := fun _ => fun
  | [d1, d2] => { results := [.lit (.bool false)], args := [d1, d2] }
  | _ => none }
def FnExactCountRearrangedWrongFalsely : Prop := fnExactCountRearrangedRow.holds Try.pinned (OpenSpec.ofChange fnExactCountRearrangedWrong)

/-- 'laws.FnExactNextPalindrome': WHATEVER THE INPUT: true; the input reads as it did. -/
def fnExactNextPalindromeSpec : ChangeSpec := { name := "fnExactNextPalindrome", fn := fun _ => fun
  | [d1, d2] => { results := [.lit (.bool true)], args := [d1, d2] }
  | _ => none }
def fnExactNextPalindromeRow : OpenClaim := { program := "ytndbfkgcmckjlaa", sum := "2bc54b8a0843977f42f2f2b152d58c6f815785d8b65b4bfa78599825d6f5f784", func := "loop.example/g01151/laws.FnExactNextPalindrome", spec := "fnExactNextPalindrome", apart := false }
def FnExactNextPalindromeSaid : Prop := fnExactNextPalindromeRow.holds Try.pinned (OpenSpec.ofChange fnExactNextPalindromeSpec)

/-- ITS FALSE NEIGHBOUR: 'it returns false'. Refute it at one input. -/
def fnExactNextPalindromeWrong : ChangeSpec := { name := "fnExactNextPalindrome", fn := fun _ => fun
  | [d1, d2] => { results := [.lit (.bool false)], args := [d1, d2] }
  | _ => none }
def FnExactNextPalindromeWrongFalsely : Prop := fnExactNextPalindromeRow.holds Try.pinned (OpenSpec.ofChange fnExactNextPalindromeWrong)

/-- 'laws.FnExactLeastWith': WHATEVER THE INPUT: true; the input reads as it did. -/
def fnExactLeastWithSpec : ChangeSpec := { name := "fnExactLeastWith", fn := fun _ => fun
  | [d1, d2] => { results := [.lit (.bool true)], args := [d1, d2] }
  | _ => none }
def fnExactLeastWithRow : OpenClaim := { program := "ytndbfkgcmckjlaa", sum := "2bc54b8a0843977f42f2f2b152d58c6f815785d8b65b4bfa78599825d6f5f784", func := "loop.example/g01151/laws.FnExactLeastWith", spec := "fnExactLeastWith", unfollowed := true, recurses := true, apart := false }
def FnExactLeastWithSaid : Prop := fnExactLeastWithRow.holds Try.pinned (OpenSpec.ofChange fnExactLeastWithSpec)

/-- ITS FALSE NEIGHBOUR: 'it returns false'. Refute it at one input. -/
def fnExactLeastWithWrong : ChangeSpec := { name := "fnExactLeastWith", fn := fun _ => fun
  | [d1, d2] => { results := [.lit (.bool false)], args := [d1, d2] }
  | _ => none }
def FnExactLeastWithWrongFalsely : Prop := fnExactLeastWithRow.holds Try.pinned (OpenSpec.ofChange fnExactLeastWithWrong)

/-- 'laws.FnExactSameDigits': WHATEVER THE INPUT: true; the input reads as it did. -/
def fnExactSameDigitsSpec : ChangeSpec := { name := "fnExactSameDigits", fn := fun _ => fun
  | [d1, d2, d3] => { results := [.lit (.bool true)], args := [d1, d2, d3] }
  | _ => none }
def fnExactSameDigitsRow : OpenClaim := { program := "ytndbfkgcmckjlaa", sum := "2bc54b8a0843977f42f2f2b152d58c6f815785d8b65b4bfa78599825d6f5f784", func := "loop.example/g01151/laws.FnExactSameDigits", spec := "fnExactSameDigits", recurses := true, apart := false }
def FnExactSameDigitsSaid : Prop := fnExactSameDigitsRow.holds Try.pinned (OpenSpec.ofChange fnExactSameDigitsSpec)

/-- ITS FALSE NEIGHBOUR: 'it returns false'. Refute it at one input. -/
def fnExactSameDigitsWrong : ChangeSpec := { name := "fnExactSameDigits", fn := fun _ => fun
  | [d1, d2, d3] => { results := [.lit (.bool false)], args := [d1, d2, d3] }
  | _ => none }
def FnExactSameDigitsWrongFalsely : Prop := fnExactSameDigitsRow.holds Try.pinned (OpenSpec.ofChange fnExactSameDigitsWrong)

/-- 'laws.FnExactSortedUp': WHATEVER THE INPUT: true; the input reads as it did. -/
def fnExactSortedUpSpec : ChangeSpec := { name := "fnExactSortedUp", fn := fun _ => fun
  | [d1, d2] => { results := [.lit (.bool true)], args := [d1, d2] }
  | _ => none }
def fnExactSortedUpRow : OpenClaim := { program := "ytndbfkgcmckjlaa", sum := "2bc54b8a0843977f42f2f2b152d58c6f815785d8b65b4bfa78599825d6f5f784", func := "loop.example/g01151/laws.FnExactSortedUp", spec := "fnExactSortedUp", recurses := true, apart := false }
def FnExactSortedUpSaid : Prop := fnExactSortedUpRow.holds Try.pinned (OpenSpec.ofChange fnExactSortedUpSpec)

/-- ITS FALSE NEIGHBOUR: 'it returns false'. Refute it at one input. -/
def fnExactSortedUpWrong : ChangeSpec := { name := "fnExactSortedUp", fn := fun _ => fun
  | [d1, d2] => { results := [.lit (.bool false)], args := [d1, d2] }
  | _ => none }
def FnExactSortedUpWrongFalsely : Prop := fnExactSortedUpRow.holds Try.pinned (OpenSpec.ofChange fnExactSortedUpWrong)

/-- 'laws.FnExactSortedDown': WHATEVER THE INPUT: true; the input reads as it did. -/
def fnExactSortedDownSpec : ChangeSpec := { name := "fnExactSortedDown", fn := fun _ => fun
  | [d1, d2] => { results := [.lit (.bool true)], args := [d1, d2] }
  | _ => none }
def fnExactSortedDownRow : OpenClaim := { program := "ytndbfkgcmckjlaa", sum := "2bc54b8a0843977f42f2f2b152d58c6f815785d8b65b4bfa78599825d6f5f784", func := "loop.example/g01151/laws.FnExactSortedDown", spec := "fnExactSortedDown", recurses := true, apart := false }
def FnExactSortedDownSaid : Prop := fnExactSortedDownRow.holds Try.pinned (OpenSpec.ofChange fnExactSortedDownSpec)

/-- ITS FALSE NEIGHBOUR: 'it returns false'. Refute it at one input. -/
def fnExactSortedDownWrong : ChangeSpec := { name := "fnExactSortedDown", fn := fun _ => fun
  | [d1, d2] => { results := [.lit (.bool false)], args := [d1, d2] }
  | _ => none }
def FnExactSortedDownWrongFalsely : Prop := fnExactSortedDownRow.holds Try.pinned (OpenSpec.ofChange fnExactSortedDownWrong)

/-- 'laws.FnExactValueOf': WHATEVER THE INPUT: true; the input reads as it did. -/
def fnExactValueOfSpec : ChangeSpec := { name := "fnExactValueOf", fn := fun _ => fun
  | [d1, d2] => { results := [.lit (.bool true)], args := [d1, d2] }
  | _ => none }
def fnExactValueOfRow : OpenClaim := { program := "ytndbfkgcmckjlaa", sum := "2bc54b8a0843977f42f2f2b152d58c6f815785d8b65b4bfa78599825d6f5f784", func := "loop.example/g01151/laws.FnExactValueOf", spec := "fnExactValueOf", unfollowed := true, recurses := true, apart := false }
def FnExactValueOfSaid : Prop := fnExactValueOfRow.holds Try.pinned (OpenSpec.ofChange fnExactValueOfSpec)

/-- ITS FALSE NEIGHBOUR: 'it returns false'. Refute it at one input. -/
def fnExactValueOfWrong : ChangeSpec := { name := "fnExactValueOf", fn := fun _ => fun
  | [d1, d2] => { results := [.lit (.bool false)], args := [d1, d2] }
  | _ => none }
def FnExactValueOfWrongFalsely : Prop := fnExactValueOfRow.holds Try.pinned (OpenSpec.ofChange fnExactValueOfWrong)

/-- 'laws.FnExactWordOf': WHATEVER THE INPUT: true; the input reads as it did. -/
def fnExactWordOfSpec : ChangeSpec := { name := "fnExactWordOf", fn := fun _ => fun
  | [d1, d2, d3] => { results := [.lit (.bool true)], args := [d1, d2, d3] }
  | _ => none }
def fnExactWordOfRow : OpenClaim := { program := "ytndbfkgcmckjlaa", sum := "2bc54b8a0843977f42f2f2b152d58c6f815785d8b65b4bfa78599825d6f5f784", func := "loop.example/g01151/laws.FnExactWordOf", spec := "fnExactWordOf", apart := false }
def FnExactWordOfSaid : Prop := fnExactWordOfRow.holds Try.pinned (OpenSpec.ofChange fnExactWordOfSpec)

/-- ITS FALSE NEIGHBOUR: 'it returns false'. Refute it at one input. -/
def fnExactWordOfWrong : ChangeSpec := { name := "fnExactWordOf", fn := fun _ => fun
  | [d1, d2, d3] => { results := [.lit (.bool false)], args := [d1, d2, d3] }
  | _ => none }
def FnExactWordOfWrongFalsely : Prop := fnExactWordOfRow.holds Try.pinned (OpenSpec.ofChange fnExactWordOfWrong)

/-- 'laws.FnExactStepByGaps': WHATEVER THE INPUT: true; the input reads as it did. -/
def fnExactStepByGapsSpec : ChangeSpec := { name := "fnExactStepByGaps", fn := fun _ => fun
  | [d1, d2, d3] => { results := [.lit (.bool true)], args := [d1, d2, d3] }
  | _ => none }
def fnExactStepByGapsRow : OpenClaim := { program := "ytndbfkgcmckjlaa", sum := "2bc54b8a0843977f42f2f2b152d58c6f815785d8b65b4bfa78599825d6f5f784", func := "loop.example/g01151/laws.FnExactStepByGaps", spec := "fnExactStepByGaps", unfollowed := true, recurses := true, apart := false }
def FnExactStepByGapsSaid : Prop := fnExactStepByGapsRow.holds Try.pinned (OpenSpec.ofChange fnExactStepByGapsSpec)

/-- ITS FALSE NEIGHBOUR: 'it returns false'. Refute it at one input. -/
def fnExactStepByGapsWrong : ChangeSpec := { name := "fnExactStepByGaps", fn := fun _ => fun
  | [d1, d2, d3] => { results := [.lit (.bool false)], args := [d1, d2, d3] }
  | _ => none }
def FnExactStepByGapsWrongFalsely : Prop := fnExactStepByGapsRow.holds Try.pinned (OpenSpec.ofChange fnExactStepByGapsWrong)

/-- 'laws.FnExactGapsOf': WHATEVER THE INPUT: true; the input reads as it did. -/
def fnExactGapsOfSpec : ChangeSpec := { name := "fnExactGapsOf", fn := fun _ => fun
  | [d1, d2] => { results := [.lit (.bool true)], args := [d1, d2] }
  | _ => none }
def fnExactGapsOfRow : OpenClaim := { program := "ytndbfkgcmckjlaa", sum := "2bc54b8a0843977f42f2f2b152d58c6f815785d8b65b4bfa78599825d6f5f784", func := "loop.example/g01151/laws.FnExactGapsOf", spec := "fnExactGapsOf", unfollowed := true, recurses := true, apart := false }
def FnExactGapsOfSaid : Prop := fnExactGapsOfRow.holds Try.pinned (OpenSpec.ofChange fnExactGapsOfSpec)

/-- ITS FALSE NEIGHBOUR: 'it returns false'. Refute it at one input. -/
def fnExactGapsOfWrong : ChangeSpec := { name := "fnExactGapsOf", fn := fun _ => fun
  | [d1, d2] => { results := [.lit (.bool false)], args := [d1, d2] }
  | _ => none }
def FnExactGapsOfWrongFalsely : Prop := fnExactGapsOfRow.holds Try.pinned (OpenSpec.ofChange fnExactGapsOfWrong)

/- THE SECOND FORM. 'bulk': how many values and letters a reading holds, each counted each time it is reached (what is shared counts as often as it is met; a slice's spare places count too). A statement '..UptoSaid' is the law's where the arguments, and the package variables that the reading takes, are together of bulk at most 1048576: NARROWER than '..Said'. Prove '..Said' where nothing that the law and all that it calls make is longer than what came in: it says more and counts as full. Else prove '..UptoSaid'. A law counts once. -/
mutual
def uptoBulk {H : Type} : DataW H → Nat
  | .lit (.string bytes) => bytes.length + 1
  | .lit _ => 1
  | .nil => 1
  | .ptr d => uptoBulk d + 1
  | .slice elems spare => uptoBulkAll elems + uptoBulkAll spare + 1
  | .agg parts => uptoBulkAll parts + 1
  | .iface _ d => uptoBulk d + 1
  | .map entries => uptoBulkEntries entries + 1
  | .held _ => 1
def uptoBulkAll {H : Type} : List (DataW H) → Nat
  | [] => 0
  | d :: r => uptoBulk d + uptoBulkAll r
def uptoBulkEntries {H : Type} : List (Lit × DataW H) → Nat
  | [] => 0
  | x :: r => uptoBulkEntry x + uptoBulkEntries r
def uptoBulkEntry {H : Type} : Lit × DataW H → Nat
  | (.string bytes, d) => bytes.length + uptoBulk d + 1
  | (_, d) => uptoBulk d + 1
 end
def uptoSmall : (H : Type) → List (DataW H) → Bool := fun _ ds => decide (uptoBulkAll ds ≤ 1048576)
def OpenSpec.upto (s : _root_.Go.ChangeSpec) : _root_.Go.OpenSpec := { _root_.Go.OpenSpec.ofChange s with cond := some uptoSmall }

/-- 'laws.FnExactParseNumber', WHERE WHAT IT READS IS OF BULK AT MOST 1048576: true; the input reads as it did. -/
def fnExactParseNumberUptoRow : OpenClaim := { program := "ytndbfkgcmckjlaa", sum := "2bc54b8a0843977f42f2f2b152d58c6f815785d8b65b4bfa78599825d6f5f784", func := "loop.example/g01151/laws.FnExactParseNumber", spec := "fnExactParseNumber", unfollowed := true, recurses := true, apart := false, narrowed := true }
def FnExactParseNumberUptoSaid : Prop := fnExactParseNumberUptoRow.holds Try.pinned (OpenSpec.upto fnExactParseNumberSpec)

/-- 'laws.FnExactCountRearranged', WHERE WHAT IT READS IS OF BULK AT MOST 1048576: true; the input reads as it did. -/
def fnExactCountRearrangedUptoRow : OpenClaim := { program := "ytndbfkgcmckjlaa", sum := "2bc54b8a0843977f42f2f2b152d58c6f815785d8b65b4bfa78599825d6f5f784", func := "loop.example/g01151/laws.FnExactCountRearranged", spec := "fnExactCountRearranged", apart := false, narrowed := true }
def FnExactCountRearrangedUptoSaid : Prop := fnExactCountRearrangedUptoRow.holds Try.pinned (OpenSpec.upto fnExactCountRearrangedSpec)

/-- 'laws.FnExactNextPalindrome', WHERE WHAT IT READS IS OF BULK AT MOST 1048576: true; the input reads as it did. -/
def fnExactNextPalindromeUptoRow : OpenClaim := { program := "ytndbfkgcmckjlaa", sum := "2bc54b8a0843977f42f2f2b152d58c6f815785d8b65b4bfa78599825d6f5f784", func := "loop.example/g01151/laws.FnExactNextPalindrome", spec := "fnExactNextPalindrome", apart := false, narrowed := true }
def FnExactNextPalindromeUptoSaid : Prop := fnExactNextPalindromeUptoRow.holds Try.pinned (OpenSpec.upto fnExactNextPalindromeSpec)

/-- 'laws.FnExactLeastWith', WHERE WHAT IT READS IS OF BULK AT MOST 1048576: true; the input reads as it did. -/
def fnExactLeastWithUptoRow : OpenClaim := { program := "ytndbfkgcmckjlaa", sum := "2bc54b8a0843977f42f2f2b152d58c6f815785d8b65b4bfa78599825d6f5f784", func := "loop.example/g01151/laws.FnExactLeastWith", spec := "fnExactLeastWith", unfollowed := true, recurses := true, apart := false, narrowed := true }
def FnExactLeastWithUptoSaid : Prop := fnExactLeastWithUptoRow.holds Try.pinned (OpenSpec.upto fnExactLeastWithSpec)

/-- 'laws.FnExactSameDigits', WHERE WHAT IT READS IS OF BULK AT MOST 1048576: true; the input reads as it did. -/
def fnExactSameDigitsUptoRow : OpenClaim := { program := "ytndbfkgcmckjlaa", sum := "2bc54b8a0843977f42f2f2b152d58c6f815785d8b65b4bfa78599825d6f5f784", func := "loop.example/g01151/laws.FnExactSameDigits", spec := "fnExactSameDigits", recurses := true, apart := false, narrowed := true }
def FnExactSameDigitsUptoSaid : Prop := fnExactSameDigitsUptoRow.holds Try.pinned (OpenSpec.upto fnExactSameDigitsSpec)

/-- 'laws.FnExactSortedUp', WHERE WHAT IT READS IS OF BULK AT MOST 1048576: true; the input reads as it did. -/
def fnExactSortedUpUptoRow : OpenClaim := { program := "ytndbfkgcmckjlaa", sum := "2bc54b8a0843977f42f2f2b152d58c6f815785d8b65b4bfa78599825d6f5f784", func := "loop.example/g01151/laws.FnExactSortedUp", spec := "fnExactSortedUp", recurses := true, apart := false, narrowed := true }
def FnExactSortedUpUptoSaid : Prop := fnExactSortedUpUptoRow.holds Try.pinned (OpenSpec.upto fnExactSortedUpSpec)

/-- 'laws.FnExactSortedDown', WHERE WHAT IT READS IS OF BULK AT MOST 1048576: true; the input reads as it did. -/
def fnExactSortedDownUptoRow : OpenClaim := { program := "ytndbfkgcmckjlaa", sum := "2bc54b8a0843977f42f2f2b152d58c6f815785d8b65b4bfa78599825d6f5f784", func := "loop.example/g01151/laws.FnExactSortedDown", spec := "fnExactSortedDown", recurses := true, apart := false, narrowed := true }
def FnExactSortedDownUptoSaid : Prop := fnExactSortedDownUptoRow.holds Try.pinned (OpenSpec.upto fnExactSortedDownSpec)

/-- 'laws.FnExactValueOf', WHERE WHAT IT READS IS OF BULK AT MOST 1048576: true; the input reads as it did. -/
def fnExactValueOfUptoRow : OpenClaim := { program := "ytndbfkgcmckjlaa", sum := "2bc54b8a0843977f42f2f2b152d58c6f815785d8b65b4bfa78599825d6f5f784", func := "loop.example/g01151/laws.FnExactValueOf", spec := "fnExactValueOf", unfollowed := true, recurses := true, apart := false, narrowed := true }
def FnExactValueOfUptoSaid : Prop := fnExactValueOfUptoRow.holds Try.pinned (OpenSpec.upto fnExactValueOfSpec)

/-- 'laws.FnExactWordOf', WHERE WHAT IT READS IS OF BULK AT MOST 1048576: true; the input reads as it did. -/
def fnExactWordOfUptoRow : OpenClaim := { program := "ytndbfkgcmckjlaa", sum := "2bc54b8a0843977f42f2f2b152d58c6f815785d8b65b4bfa78599825d6f5f784", func := "loop.example/g01151/laws.FnExactWordOf", spec := "fnExactWordOf", apart := false, narrowed := true }
def FnExactWordOfUptoSaid : Prop := fnExactWordOfUptoRow.holds Try.pinned (OpenSpec.upto fnExactWordOfSpec)

/-- 'laws.FnExactStepByGaps', WHERE WHAT IT READS IS OF BULK AT MOST 1048576: true; the input reads as it did. -/
def fnExactStepByGapsUptoRow : OpenClaim := { program := "ytndbfkgcmckjlaa", sum := "2bc54b8a0843977f42f2f2b152d58c6f815785d8b65b4bfa78599825d6f5f784", func := "loop.example/g01151/laws.FnExactStepByGaps", spec := "fnExactStepByGaps", unfollowed := true, recurses := true, apart := false, narrowed := true }
def FnExactStepByGapsUptoSaid : Prop := fnExactStepByGapsUptoRow.holds Try.pinned (OpenSpec.upto fnExactStepByGapsSpec)

/-- 'laws.FnExactGapsOf', WHERE WHAT IT READS IS OF BULK AT MOST 1048576: true; the input reads as it did. -/
def fnExactGapsOfUptoRow : OpenClaim := { program := "ytndbfkgcmckjlaa", sum := "2bc54b8a0843977f42f2f2b152d58c6f815785d8b65b4bfa78599825d6f5f784", func := "loop.example/g01151/laws.FnExactGapsOf", spec := "fnExactGapsOf", unfollowed := true, recurses := true, apart := false, narrowed := true }
def FnExactGapsOfUptoSaid : Prop := fnExactGapsOfUptoRow.holds Try.pinned (OpenSpec.upto fnExactGapsOfSpec)

end Rows
end Go.Proofs.Ytndbfkgcmckjlaa
