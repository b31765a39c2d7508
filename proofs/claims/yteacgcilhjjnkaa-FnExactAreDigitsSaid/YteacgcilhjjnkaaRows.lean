/-
  No cell of these rows narrows 'for every input' (looked for: loops, veiled, ifaces, maps, wideKeys, modest, calm, conditions, laid).
  DERIVED. THE GIVEN ROWS OF THIS SEAT. 12 by the template 'for every input the law returns true; each argument reads behind the call as it read before'; 0 by the template 'total and deterministic' (their statements: YteacgcilhjjnkaaTotals.lean).
  GIVEN WITH THE SEED: the statements are not yours to turn. If you find one false, say at which input.
  Laid BY PROGRAM, IN A SANDBOX (cutbox-rows.mjs): the forced cells as the released guide's own fill.sh prints them over the translation 824a9d56a537f7ab… (all of the seat's roots in one cut). By AI agents, Wed Nov 11 2026. No macro, syntax, notation, axiom, sorry.
-/
import Derived.Test.YteacgcilhjjnkaaChecked
import GoSem.Claim
import GoSem.ClaimJoined
import GoSem.ClaimMapViews
import Derived.JoinedTies
import Derived.KernelRfl
namespace Go.Proofs.Yteacgcilhjjnkaa
/- THE CELL 'sum', in the pinned program and in every row, IS THE sha256 OF THE DUMP (.gsa) THAT YteacgcilhjjnkaaProg.lean LOADS. Nothing in Lean hashes anything: it is a label: what it is worth is what the hold of that sum in a sandbox is worth. -/
noncomputable def Try.pinned : Pinned := { name := "yteacgcilhjjnkaa", sum := "824a9d56a537f7ab6d646f17884dc277b01e586c527006f258ccebdd1a2b20ae", checked := Try.checked }
namespace Rows
def none {H : Type} : Left H := { results := [], args := [] }

/-- 'laws.FnExactConstants': WHATEVER THE INPUT: true; the input reads as it did. -/
def fnExactConstantsSpec : ChangeSpec := { name := "fnExactConstants", fn := fun _ => fun
  | [] => { results := [.lit (.bool true)], args := [] }
  | _ => none }
def fnExactConstantsRow : OpenClaim := { program := "yteacgcilhjjnkaa", sum := "824a9d56a537f7ab6d646f17884dc277b01e586c527006f258ccebdd1a2b20ae", func := "loop.example/g01151/laws.FnExactConstants", spec := "fnExactConstants", apart := false }
def FnExactConstantsSaid : Prop := fnExactConstantsRow.holds Try.pinned (OpenSpec.ofChange fnExactConstantsSpec)

/-- ITS FALSE NEIGHBOUR: 'it returns false'. Refute it at one input. -/
def fnExactConstantsWrong : ChangeSpec := { name := "fnExactConstants", fn := fun _ => fun
  | [] => { results := [.lit (.bool false)], args := [] }
  | _ => none }
def FnExactConstantsWrongFalsely : Prop := fnExactConstantsRow.holds Try.pinned (OpenSpec.ofChange fnExactConstantsWrong)

/-- 'laws.FnExactCountDigits': WHATEVER THE INPUT: true; the input reads as it did. -/
def fnExactCountDigitsSpec : ChangeSpec := { name := "fnExactCountDigits", fn := fun _ => fun
  | [d1, d2] => { results := [.lit (.bool true)], args := [d1, d2] }
  | _ => none }
def fnExactCountDigitsRow : OpenClaim := { program := "yteacgcilhjjnkaa", sum := "824a9d56a537f7ab6d646f17884dc277b01e586c527006f258ccebdd1a2b20ae", func := "loop.example/g01151/laws.FnExactCountDigits", spec := "fnExactCountDigits", apart := false }
def FnExactCountDigitsSaid : Prop := fnExactCountDigitsRow.holds Try.pinned (OpenSpec.ofChange fnExactCountDigitsSpec)

/-- ITS FALSE NEIGHBOUR: 'it returns false'. Refute it at one input. -/
def fnExactCountDigitsWrong : ChangeSpec := { name := "fnExactCountDigits", fn := fun _ => fun
  | [d1, d2] => { results := [.lit (.bool false)], args := [d1, d2] }
  | _ => none }
def FnExactCountDigitsWrongFalsely : Prop := fnExactCountDigitsRow.holds Try.pinned (OpenSpec.ofChange fnExactCountDigitsWrong)

/-- 'laws.FnExactDigitProduct': WHATEVER THE INPUT: true; the input reads as it did. -/
def fnExactDigitProductSpec : ChangeSpec := { name := "fnExactDigitProduct", fn := fun _ => fun
  | [d1, d2] => { results := [.lit (.bool true)], args := [d1, d2] }
  | _ => none }
def fnExactDigitProductRow : OpenClaim := { program := "yteacgcilhjjnkaa", sum := "824a9d56a537f7ab6d646f17884dc277b01e586c527006f258ccebdd1a2b20ae", func := "loop.example/g01151/laws.FnExactDigitProduct", spec := "fnExactDigitProduct", apart := false }
def FnExactDigitProductSaid : Prop := fnExactDigitProductRow.holds Try.pinned (OpenSpec.ofChange fnExactDigitProductSpec)

/-- ITS FALSE NEIGHBOUR: 'it returns false'. Refute it at one input. -/
def fnExactDigitProductWrong : ChangeSpec := { name := "fnExactDigitProduct", fn := fun _ => fun
  | [d1, d2] => { results := [.lit (.bool false)], args := [d1, d2] }
  | _ => none }
def FnExactDigitProductWrongFalsely : Prop := fnExactDigitProductRow.holds Try.pinned (OpenSpec.ofChange fnExactDigitProductWrong)

/-- 'laws.FnExactDigitSum': WHATEVER THE INPUT: true; the input reads as it did. -/
def fnExactDigitSumSpec : ChangeSpec := { name := "fnExactDigitSum", fn := fun _ => fun
  | [d1, d2] => { results := [.lit (.bool true)], args := [d1, d2] }
  | _ => none }
def fnExactDigitSumRow : OpenClaim := { program := "yteacgcilhjjnkaa", sum := "824a9d56a537f7ab6d646f17884dc277b01e586c527006f258ccebdd1a2b20ae", func := "loop.example/g01151/laws.FnExactDigitSum", spec := "fnExactDigitSum", apart := false }
def FnExactDigitSumSaid : Prop := fnExactDigitSumRow.holds Try.pinned (OpenSpec.ofChange fnExactDigitSumSpec)

/-- ITS FALSE NEIGHBOUR: 'it returns false'. Refute it at one input. -/
def fnExactDigitSumWrong : ChangeSpec := { name := "fnExactDigitSum", fn := fun _ => fun
  | [d1, d2] => { results := [.lit (.bool false)], args := [d1, d2] }
  | _ => none }
def FnExactDigitSumWrongFalsely : Prop := fnExactDigitSumRow.holds Try.pinned (OpenSpec.ofChange fnExactDigitSumWrong)

/-- 'laws.FnExactNumberText': WHATEVER THE INPUT: true; the input reads as it did. -/
def fnExactNumberTextSpec : ChangeSpec := { name := "fnExactNumberText", fn := fun _ => fun
  | [d1, d2] => { results := [.lit (.bool true)], args := [d1, d2] }
  | _ => none }
def fnExactNumberTextRow : OpenClaim := { program := "yteacgcilhjjnkaa", sum := "824a9d56a537f7ab6d646f17884dc277b01e586c527006f258ccebdd1a2b20ae", func := "loop.example/g01151/laws.FnExactNumberText", spec := "fnExactNumberText", apart := false }
def FnExactNumberTextSaid : Prop := fnExactNumberTextRow.holds Try.pinned (OpenSpec.ofChange fnExactNumberTextSpec)

/-- ITS FALSE NEIGHBOUR: 'it returns false'. Refute it at one input. -/
def fnExactNumberTextWrong : ChangeSpec := { name := "fnExactNumberText", fn := fun _ => fun
  | [d1, d2] => { results := [.lit (.bool false)], args := [d1, d2] }
  | _ => none }
def FnExactNumberTextWrongFalsely : Prop := fnExactNumberTextRow.holds Try.pinned (OpenSpec.ofChange fnExactNumberTextWrong)

/-- 'laws.FnExactAreDigits': WHATEVER THE INPUT: true; the input reads as it did. -/
def fnExactAreDigitsSpec : ChangeSpec := { name := "fnExactAreDigits", fn := fun _ => fun
  | [d1, d2] => { results := [.lit (.bool true)], args := [d1, d2] }
  | _ => none }
def fnExactAreDigitsRow : OpenClaim := { program := "yteacgcilhjjnkaa", sum := "824a9d56a537f7ab6d646f17884dc277b01e586c527006f258ccebdd1a2b20ae", func := "loop.example/g01151/laws.FnExactAreDigits", spec := "fnExactAreDigits", unfollowed := true, recurses := true, apart := false }
def FnExactAreDigitsSaid : Prop := fnExactAreDigitsRow.holds Try.pinned (OpenSpec.ofChange fnExactAreDigitsSpec)

/-- ITS FALSE NEIGHBOUR: 'it returns false'. Refute it at one input. -/
def fnExactAreDigitsWrong : ChangeSpec := { name := "fnExactAreDigits", fn := fun _ => fun
  | [d1, d2] => { results := [.lit (.bool false)], args := [d1, d2] }
  | _ => none }
def FnExactAreDigitsWrongFalsely : Prop := fnExactAreDigitsRow.holds Try.pinned (OpenSpec.ofChange fnExactAreDigitsWrong)

/-- 'laws.FnExactDigitalRoot': WHATEVER THE INPUT: true; the input reads as it did. -/
def fnExactDigitalRootSpec : ChangeSpec := { name := "fnExactDigitalRoot", fn := fun _ => fun
  | [d1, d2] => { results := [.lit (.bool true)], args := [d1, d2] }
  | _ => none }
def fnExactDigitalRootRow : OpenClaim := { program := "yteacgcilhjjnkaa", sum := "824a9d56a537f7ab6d646f17884dc277b01e586c527006f258ccebdd1a2b20ae", func := "loop.example/g01151/laws.FnExactDigitalRoot", spec := "fnExactDigitalRoot", apart := false }
def FnExactDigitalRootSaid : Prop := fnExactDigitalRootRow.holds Try.pinned (OpenSpec.ofChange fnExactDigitalRootSpec)

/-- ITS FALSE NEIGHBOUR: 'it returns false'. Refute it at one input. -/
def fnExactDigitalRootWrong : ChangeSpec := { name := "fnExactDigitalRoot", fn := fun _ => fun
  | [d1, d2] => { results := [.lit (.bool false)], args := [d1, d2] }
  | _ => none }
def FnExactDigitalRootWrongFalsely : Prop := fnExactDigitalRootRow.holds Try.pinned (OpenSpec.ofChange fnExactDigitalRootWrong)

/-- 'laws.FnExactDigitsOf': WHATEVER THE INPUT: true; the input reads as it did. -/
def fnExactDigitsOfSpec : ChangeSpec := { name := "fnExactDigitsOf", fn := fun _ => fun
  | [d1, d2] => { results := [.lit (.bool true)], args := [d1, d2] }
  | _ => none }
def fnExactDigitsOfRow : OpenClaim := { program := "yteacgcilhjjnkaa", sum := "824a9d56a537f7ab6d646f17884dc277b01e586c527006f258ccebdd1a2b20ae", func := "loop.example/g01151/laws.FnExactDigitsOf", spec := "fnExactDigitsOf", apart := false }
def FnExactDigitsOfSaid : Prop := fnExactDigitsOfRow.holds Try.pinned (OpenSpec.ofChange fnExactDigitsOfSpec)

/-- ITS FALSE NEIGHBOUR: 'it returns false'. Refute it at one input. -/
def fnExactDigitsOfWrong : ChangeSpec := { name := "fnExactDigitsOf", fn := fun _ => fun
  | [d1, d2] => { results := [.lit (.bool false)], args := [d1, d2] }
  | _ => none }
def FnExactDigitsOfWrongFalsely : Prop := fnExactDigitsOfRow.holds Try.pinned (OpenSpec.ofChange fnExactDigitsOfWrong)

/-- 'laws.FnExactDigitCounts': WHATEVER THE INPUT: true; the input reads as it did. -/
def fnExactDigitCountsSpec : ChangeSpec := { name := "fnExactDigitCounts", fn := fun _ => fun
  | [d1, d2] => { results := [.lit (.bool true)], args := [d1, d2] }
  | _ => none }
def fnExactDigitCountsRow : OpenClaim := { program := "yteacgcilhjjnkaa", sum := "824a9d56a537f7ab6d646f17884dc277b01e586c527006f258ccebdd1a2b20ae", func := "loop.example/g01151/laws.FnExactDigitCounts", spec := "fnExactDigitCounts", apart := false }
def FnExactDigitCountsSaid : Prop := fnExactDigitCountsRow.holds Try.pinned (OpenSpec.ofChange fnExactDigitCountsSpec)

/-- ITS FALSE NEIGHBOUR: 'it returns false'. Refute it at one input. -/
def fnExactDigitCountsWrong : ChangeSpec := { name := "fnExactDigitCounts", fn := fun _ => fun
  | [d1, d2] => { results := [.lit (.bool false)], args := [d1, d2] }
  | _ => none }
def FnExactDigitCountsWrongFalsely : Prop := fnExactDigitCountsRow.holds Try.pinned (OpenSpec.ofChange fnExactDigitCountsWrong)

/-- 'laws.FnExactNumberOf': WHATEVER THE INPUT: true; the input reads as it did. -/
def fnExactNumberOfSpec : ChangeSpec := { name := "fnExactNumberOf", fn := fun _ => fun
  | [d1, d2] => { results := [.lit (.bool true)], args := [d1, d2] }
  | _ => none }
def fnExactNumberOfRow : OpenClaim := { program := "yteacgcilhjjnkaa", sum := "824a9d56a537f7ab6d646f17884dc277b01e586c527006f258ccebdd1a2b20ae", func := "loop.example/g01151/laws.FnExactNumberOf", spec := "fnExactNumberOf", unfollowed := true, recurses := true, apart := false }
def FnExactNumberOfSaid : Prop := fnExactNumberOfRow.holds Try.pinned (OpenSpec.ofChange fnExactNumberOfSpec)

/-- ITS FALSE NEIGHBOUR: 'it returns false'. Refute it at one input. -/
def fnExactNumberOfWrong : ChangeSpec := { name := "fnExactNumberOf", fn := fun _ => fun
  | [d1, d2] => { results := [.lit (.bool false)], args := [d1, d2] }
  | _ => none }
def FnExactNumberOfWrongFalsely : Prop := fnExactNumberOfRow.holds Try.pinned (OpenSpec.ofChange fnExactNumberOfWrong)

/-- 'laws.FnExactIsPalindrome': WHATEVER THE INPUT: true; the input reads as it did. -/
def fnExactIsPalindromeSpec : ChangeSpec := { name := "fnExactIsPalindrome", fn := fun _ => fun
  | [d1, d2] => { results := [.lit (.bool true)], args := [d1, d2] }
  | _ => none }
def fnExactIsPalindromeRow : OpenClaim := { program := "yteacgcilhjjnkaa", sum := "824a9d56a537f7ab6d646f17884dc277b01e586c527006f258ccebdd1a2b20ae", func := "loop.example/g01151/laws.FnExactIsPalindrome", spec := "fnExactIsPalindrome", apart := false }
def FnExactIsPalindromeSaid : Prop := fnExactIsPalindromeRow.holds Try.pinned (OpenSpec.ofChange fnExactIsPalindromeSpec)

/-- ITS FALSE NEIGHBOUR: 'it returns false'. Refute it at one input. -/
def fnExactIsPalindromeWrong : ChangeSpec := { name := "fnExactIsPalindrome", fn := fun _ => fun
  | [d1, d2] => { results := [.lit (.bool false)], args := [d1, d2] }
  | _ => none }
def FnExactIsPalindromeWrongFalsely : Prop := fnExactIsPalindromeRow.holds Try.pinned (OpenSpec.ofChange fnExactIsPalindromeWrong)

/-- 'laws.FnExactReverseNumber': WHATEVER THE INPUT: true; the input reads as it did. -/
def fnExactReverseNumberSpec : ChangeSpec := { name := "fnExactReverseNumber", fn := fun _ => fun
  | [d1, d2] => { results := [.lit (.bool true)], args := [d1, d2] }
  | _ => none }
def fnExactReverseNumberRow : OpenClaim := { program := "yteacgcilhjjnkaa", sum := "824a9d56a537f7ab6d646f17884dc277b01e586c527006f258ccebdd1a2b20ae", func := "loop.example/g01151/laws.FnExactReverseNumber", spec := "fnExactReverseNumber", apart := false }
def FnExactReverseNumberSaid : Prop := fnExactReverseNumberRow.holds Try.pinned (OpenSpec.ofChange fnExactReverseNumberSpec)

/-- ITS FALSE NEIGHBOUR: 'it returns false'. Refute it at one input. -/
def fnExactReverseNumberWrong : ChangeSpec := { name := "fnExactReverseNumber", fn := fun _ => fun
  | [d1, d2] => { results := [.lit (.bool false)], args := [d1, d2] }
  | _ => none }
def FnExactReverseNumberWrongFalsely : Prop := fnExactReverseNumberRow.holds Try.pinned (OpenSpec.ofChange fnExactReverseNumberWrong)

/- THE SECOND FORM. 'bulk': how many values and letters a reading holds, each counted each time it is reached (what is shared counts as often as it is met; a slice's spare places count too). A statement '..UptoSaid' is the law's where the arguments, and the package variables that the reading takes, are together of bulk at most 1048576: NARROWER than '..Said'. Prove '..Said' where nothing that the law and all that it calls make is longer than what came in: it says more and counts as full. Else prove '..UptoSaid'. A law counts once. -/
mutual
def uptoBulk {H : Type} : DataW H → Nat
  | .lit (.string bytes) => bytes.length + 1
  | .lit _ => 1
  | .nil => 1
  | .ptr d => uptoBulk d + 1
  | .slice elems spare => uptoBulkAll elems + uptoBulkAll spare + 1
  | .agg parts => uptoBulkAll parts + 1
  | .iface _ d => uptoBulk d + 1
  | .map entries => uptoBulkEntries entries + 1
  | .held _ => 1
def uptoBulkAll {H : Type} : List (DataW H) → Nat
  | [] => 0
  | d :: r => uptoBulk d + uptoBulkAll r
def uptoBulkEntries {H : Type} : List (Lit × DataW H) → Nat
  | [] => 0
  | x :: r => uptoBulkEntry x + uptoBulkEntries r
def uptoBulkEntry {H : Type} : Lit × DataW H → Nat
  | (.string bytes, d) => bytes.length + uptoBulk d + 1
  | (_, d) => uptoBulk d + 1
 end
def uptoSmall : (H : Type) → List (DataW H) → Bool := fun _ ds => decide (uptoBulkAll ds ≤ 1048576)
def OpenSpec.upto (s : _root_.Go.ChangeSpec) : _root_.Go.OpenSpec := { _root_.Go.OpenSpec.ofChange s with cond := some uptoSmall }

/-- 'laws.FnExactConstants', WHERE WHAT IT READS IS OF BULK AT MOST 1048576: true; the input reads as it did. -/
def fnExactConstantsUptoRow : OpenClaim := { program := "yteacgcilhjjnkaa", sum := "824a9d56a537f7ab6d646f17884dc277b01e586c527006f258ccebdd1a2b20ae", func := "loop.example/g01151/laws.FnExactConstants", spec := "fnExactConstants", apart := false, narrowed := true }
def FnExactConstantsUptoSaid : Prop := fnExactConstantsUptoRow.holds Try.pinned (OpenSpec.upto fnExactConstantsSpec)

/-- 'laws.FnExactCountDigits', WHERE WHAT IT READS IS OF BULK AT MOST 1048576: true; the input reads as it did. -/
def fnExactCountDigitsUptoRow : OpenClaim := { program := "yteacgcilhjjnkaa", sum := "824a9d56a537f7ab6d646f17884dc277b01e586c527006f258ccebdd1a2b20ae", func := "loop.example/g01151/laws.FnExactCountDigits", spec := "fnExactCountDigits", apart := false, narrowed := true }
def FnExactCountDigitsUptoSaid : Prop := fnExactCountDigitsUptoRow.holds Try.pinned (OpenSpec.upto fnExactCountDigitsSpec)

/-- 'laws.FnExactDigitProduct', WHERE WHAT IT READS IS OF BULK AT MOST 1048576: true; the input reads as it did. -/
def fnExactDigitProductUptoRow : OpenClaim := { program := "yteacgcilhjjnkaa", sum := "824a9d56a537f7ab6d646f17884dc277b01e586c527006f258ccebdd1a2b20ae", func := "loop.example/g01151/laws.FnExactDigitProduct", spec := "fnExactDigitProduct", apart := false, narrowed := true }
def FnExactDigitProductUptoSaid : Prop := fnExactDigitProductUptoRow.holds Try.pinned (OpenSpec.upto fnExactDigitProductSpec)

/-- 'laws.FnExactDigitSum', WHERE WHAT IT READS IS OF BULK AT MOST 1048576: true; the input reads as it did. -/
def fnExactDigitSumUptoRow : OpenClaim := { program := "yteacgcilhjjnkaa", sum := "824a9d56a537f7ab6d646f17884dc277b01e586c527006f258ccebdd1a2b20ae", func := "loop.example/g01151/laws.FnExactDigitSum", spec := "fnExactDigitSum", apart := false, narrowed := true }
def FnExactDigitSumUptoSaid : Prop := fnExactDigitSumUptoRow.holds Try.pinned (OpenSpec.upto fnExactDigitSumSpec)

/-- 'laws.FnExactNumberText', WHERE WHAT IT READS IS OF BULK AT MOST 1048576: true; the input reads as it did. -/
def fnExactNumberTextUptoRow : OpenClaim := { program := "yteacgcilhjjnkaa", sum := "824a9d56a537f7ab6d646f17884dc277b01e586c527006f258ccebdd1a2b20ae", func := "loop.example/g01151/laws.FnExactNumberText", spec := "fnExactNumberText", apart := false, narrowed := true }
def FnExactNumberTextUptoSaid : Prop := fnExactNumberTextUptoRow.holds Try.pinned (OpenSpec.upto fnExactNumberTextSpec)

/-- 'laws.FnExactAreDigits', WHERE WHAT IT READS IS OF BULK AT MOST 1048576: true; the input reads as it did. -/
def fnExactAreDigitsUptoRow : OpenClaim := { program := "yteacgcilhjjnkaa", sum := "824a9d56a537f7ab6d646f17884dc277b01e586c527006f258ccebdd1a2b20ae", func := "loop.example/g01151/laws.FnExactAreDigits", spec := "fnExactAreDigits", unfollowed := true, recurses := true, apart := false, narrowed := true }
def FnExactAreDigitsUptoSaid : Prop := fnExactAreDigitsUptoRow.holds Try.pinned (OpenSpec.upto fnExactAreDigitsSpec)

/-- 'laws.FnExactDigitalRoot', WHERE WHAT IT READS IS OF BULK AT MOST 1048576: true; the input reads as it did. -/
def fnExactDigitalRootUptoRow : OpenClaim := { program := "yteacgcilhjjnkaa", sum := "824a9d56a537f7ab6d646f17884dc277b01e586c527006f258ccebdd1a2b20ae", func := "loop.example/g01151/laws.FnExactDigitalRoot", spec := "fnExactDigitalRoot", apart := false, narrowed := true }
def FnExactDigitalRootUptoSaid : Prop := fnExactDigitalRootUptoRow.holds Try.pinned (OpenSpec.upto fnExactDigitalRootSpec)

/-- 'laws.FnExactDigitsOf', WHERE WHAT IT READS IS OF BULK AT MOST 1048576: true; the input reads as it did. -/
def fnExactDigitsOfUptoRow : OpenClaim := { program := "yteacgcilhjjnkaa", sum := "824a9d56a537f7ab6d646f17884dc277b01e586c527006f258ccebdd1a2b20ae", func := "loop.example/g01151/laws.FnExactDigitsOf", spec := "fnExactDigitsOf", apart := false, narrowed := true }
def FnExactDigitsOfUptoSaid : Prop := fnExactDigitsOfUptoRow.holds Try.pinned (OpenSpec.upto fnExactDigitsOfSpec)

/-- 'laws.FnExactDigitCounts', WHERE WHAT IT READS IS OF BULK AT MOST 1048576: true; the input reads as it did. -/
def fnExactDigitCountsUptoRow : OpenClaim := { program := "yteacgcilhjjnkaa", sum := "824a9d56a537f7ab6d646f17884dc277b01e586c527006f258ccebdd1a2b20ae", func := "loop.example/g01151/laws.FnExactDigitCounts", spec := "fnExactDigitCounts", apart := false, narrowed := true }
def FnExactDigitCountsUptoSaid : Prop := fnExactDigitCountsUptoRow.holds Try.pinned (OpenSpec.upto fnExactDigitCountsSpec)

/-- 'laws.FnExactNumberOf', WHERE WHAT IT READS IS OF BULK AT MOST 1048576: true; the input reads as it did. -/
def fnExactNumberOfUptoRow : OpenClaim := { program := "yteacgcilhjjnkaa", sum := "824a9d56a537f7ab6d646f17884dc277b01e586c527006f258ccebdd1a2b20ae", func := "loop.example/g01151/laws.FnExactNumberOf", spec := "fnExactNumberOf", unfollowed := true, recurses := true, apart := false, narrowed := true }
def FnExactNumberOfUptoSaid : Prop := fnExactNumberOfUptoRow.holds Try.pinned (OpenSpec.upto fnExactNumberOfSpec)

/-- 'laws.FnExactIsPalindrome', WHERE WHAT IT READS IS OF BULK AT MOST 1048576: true; the input reads as it did. -/
def fnExactIsPalindromeUptoRow : OpenClaim := { program := "yteacgcilhjjnkaa", sum := "824a9d56a537f7ab6d646f17884dc277b01e586c527006f258ccebdd1a2b20ae", func := "loop.example/g01151/laws.FnExactIsPalindrome", spec := "fnExactIsPalindrome", apart := false, narrowed := true }
def FnExactIsPalindromeUptoSaid : Prop := fnExactIsPalindromeUptoRow.holds Try.pinned (OpenSpec.upto fnExactIsPalindromeSpec)

/-- 'laws.FnExactReverseNumber', WHERE WHAT IT READS IS OF BULK AT MOST 1048576: true; the input reads as it did. -/
def fnExactReverseNumberUptoRow : OpenClaim := { program := "yteacgcilhjjnkaa", sum := "824a9d56a537f7ab6d646f17884dc277b01e586c527006f258ccebdd1a2b20ae", func := "loop.example/g01151/laws.FnExactReverseNumber", spec := "fnExactReverseNumber", apart := false, narrowed := true }
def FnExactReverseNumberUptoSaid : Prop := fnExactReverseNumberUptoRow.holds Try.pinned (OpenSpec.upto fnExactReverseNumberSpec)

end Rows
end Go.Proofs.Yteacgcilhjjnkaa
