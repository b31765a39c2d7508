/-
  No cell of these rows narrows 'for every input' (looked for: loops, veiled, ifaces, maps, wideKeys, modest, calm, conditions, laid).
  DERIVED. THE GIVEN ROWS OF THIS SEAT. 5 by the template 'for every input the law returns true; each argument reads behind the call as it read before'; 0 by the template 'total and deterministic' (their statements: YtehhkkbejmhcfaaTotals.lean).
  GIVEN WITH THE SEED: the statements are not yours to turn. If you find one false, say at which input.
  Laid BY PROGRAM, IN A SANDBOX (cutbox-rows.mjs): the forced cells as the released guide's own fill.sh prints them over the translation 6ae3cf1455d25b21… (all of the seat's roots in one cut). By AI agents, Wed Nov 11 2026. No macro, syntax, notation, axiom, sorry.
-/
import Derived.Test.YtehhkkbejmhcfaaChecked
import GoSem.Claim
import GoSem.ClaimJoined
import GoSem.ClaimMapViews
import Derived.JoinedTies
import Derived.KernelRfl
namespace Go.Proofs.Ytehhkkbejmhcfaa
/- THE CELL 'sum', in the pinned program and in every row, IS THE sha256 OF THE DUMP (.gsa) THAT YtehhkkbejmhcfaaProg.lean LOADS. Nothing in Lean hashes anything: it is a label: what it is worth is what the hold of that sum in a sandbox is worth. -/
noncomputable def Try.pinned : Pinned := { name := "ytehhkkbejmhcfaa", sum := "6ae3cf1455d25b21bd7ad965b31a49fed55712943efb749a27f5f57101911332", checked := Try.checked }
namespace Rows
def none {H : Type} : Left H := { results := [], args := [] }

/-- 'laws.FnExactNarcissistic': WHATEVER THE INPUT: true; the input reads as it did. -/
def fnExactNarcissisticSpec : ChangeSpec := { name := "fnExactNarcissistic", fn := fun _ => fun
  | [d1, d2] => { results := [.lit (.bool true)], args := [d1, d2] }
  | _ => none }
def fnExactNarcissisticRow : OpenClaim := { program := "ytehhkkbejmhcfaa", sum := "6ae3cf1455d25b21bd7ad965b31a49fed55712943efb749a27f5f57101911332", func := "loop.example/g01151/laws.FnExactNarcissistic", spec := "fnExactNarcissistic", unfollowed := true, recurses := true, apart := false }
def FnExactNarcissisticSaid : Prop := fnExactNarcissisticRow.holds Try.pinned (OpenSpec.ofChange fnExactNarcissisticSpec)

/-- ITS FALSE NEIGHBOUR: 'it returns false'. Refute it at one input. -/
def fnExactNarcissisticWrong : ChangeSpec := { name := "fnExactNarcissistic", fn := fun _ => fun
  | [d1, d2] => { results := [.lit (.bool false)], args := [d1, d2] }
  | _ => none }
def FnExactNarcissisticWrongFalsely : Prop := fnExactNarcissisticRow.holds Try.pinned (OpenSpec.ofChange fnExactNarcissisticWrong)

/-- 'laws.FnExactOwnPowers': WHATEVER THE INPUT: true; the input reads as it did. -/
def fnExactOwnPowersSpec : ChangeSpec := { name := "fnExactOwnPowers", fn := fun _ => fun
  | [d1, d2] => { results := [.lit (.bool true)], args := [d1, d2] }
  | _ => none }
def fnExactOwnPowersRow : OpenClaim := { program := "ytehhkkbejmhcfaa", sum := "6ae3cf1455d25b21bd7ad965b31a49fed55712943efb749a27f5f57101911332", func := "loop.example/g01151/laws.FnExactOwnPowers", spec := "fnExactOwnPowers", unfollowed := true, recurses := true, apart := false }
def FnExactOwnPowersSaid : Prop := fnExactOwnPowersRow.holds Try.pinned (OpenSpec.ofChange fnExactOwnPowersSpec)

/-- ITS FALSE NEIGHBOUR: 'it returns false'. Refute it at one input. -/
def fnExactOwnPowersWrong : ChangeSpec := { name := "fnExactOwnPowers", fn := fun _ => fun
  | [d1, d2] => { results := [.lit (.bool false)], args := [d1, d2] }
  | _ => none }
def FnExactOwnPowersWrongFalsely : Prop := fnExactOwnPowersRow.holds Try.pinned (OpenSpec.ofChange fnExactOwnPowersWrong)

/-- 'laws.FnExactCyclesOfPowers': WHATEVER THE INPUT: true; the input reads as it did. -/
def fnExactCyclesOfPowersSpec : ChangeSpec := { name := "fnExactCyclesOfPowers", fn := fun _ => fun
  | [d1, d2] => { results := [.lit (.bool true)], args := [d1, d2] }
  | _ => none }
def fnExactCyclesOfPowersRow : OpenClaim := { program := "ytehhkkbejmhcfaa", sum := "6ae3cf1455d25b21bd7ad965b31a49fed55712943efb749a27f5f57101911332", func := "loop.example/g01151/laws.FnExactCyclesOfPowers", spec := "fnExactCyclesOfPowers", unfollowed := true, recurses := true, apart := false }
def FnExactCyclesOfPowersSaid : Prop := fnExactCyclesOfPowersRow.holds Try.pinned (OpenSpec.ofChange fnExactCyclesOfPowersSpec)

/-- ITS FALSE NEIGHBOUR: 'it returns false'. Refute it at one input. -/
def fnExactCyclesOfPowersWrong : ChangeSpec := { name := "fnExactCyclesOfPowers", fn := fun _ => fun
  | [d1, d2] => { results := [.lit (.bool false)], args := [d1, d2] }
  | _ => none }
def FnExactCyclesOfPowersWrongFalsely : Prop := fnExactCyclesOfPowersRow.holds Try.pinned (OpenSpec.ofChange fnExactCyclesOfPowersWrong)

/-- 'laws.FnCyclesOfPowers': WHATEVER THE INPUT: true; the input reads as it did. -/
def fnCyclesOfPowersSpec : ChangeSpec := { name := "fnCyclesOfPowers", fn := fun _ => fun
  | [d1, d2] => { results := [.lit (.bool true)], args := [d1, d2] }
  | _ => none }
def fnCyclesOfPowersRow : OpenClaim := { program := "ytehhkkbejmhcfaa", sum := "6ae3cf1455d25b21bd7ad965b31a49fed55712943efb749a27f5f57101911332", func := "loop.example/g01151/laws.FnCyclesOfPowers", spec := "fnCyclesOfPowers", unfollowed := true, recurses := true, apart := false }
def FnCyclesOfPowersSaid : Prop := fnCyclesOfPowersRow.holds Try.pinned (OpenSpec.ofChange fnCyclesOfPowersSpec)

/-- ITS FALSE NEIGHBOUR: 'it returns false'. Refute it at one input. -/
def fnCyclesOfPowersWrong : ChangeSpec := { name := "fnCyclesOfPowers", fn := fun _ => fun
  | [d1, d2] => { results := [.lit (.bool false)], args := [d1, d2] }
  | _ => none }
def FnCyclesOfPowersWrongFalsely : Prop := fnCyclesOfPowersRow.holds Try.pinned (OpenSpec.ofChange fnCyclesOfPowersWrong)

/-- 'laws.FnOwnPowers': WHATEVER THE INPUT: true; the input reads as it did. -/
def fnOwnPowersSpec : ChangeSpec := { name := "fnOwnPowers", fn := fun _ => fun
  | [d1, d2] => { results := [.lit (.bool true)], args := [d1, d2] }
  | _ => none }
def fnOwnPowersRow : OpenClaim := { program := "ytehhkkbejmhcfaa", sum := "6ae3cf1455d25b21bd7ad965b31a49fed55712943efb749a27f5f57101911332", func := "loop.example/g01151/laws.FnOwnPowers", spec := "fnOwnPowers", unfollowed := true, recurses := true, apart := false }
def FnOwnPowersSaid : Prop := fnOwnPowersRow.holds Try.pinned (OpenSpec.ofChange fnOwnPowersSpec)

/-- ITS FALSE NEIGHBOUR: 'it returns false'. Refute it at one input. -/
def fnOwnPowersWrong : ChangeSpec := { name := "fnOwnPowers", fn := fun _ => fun
  | [d1, d2] => { results := [.lit (.bool false)], args := [d1, d2] }
  | _ => none }
def FnOwnPowersWrongFalsely : Prop := fnOwnPowersRow.holds Try.pinned (OpenSpec.ofChange fnOwnPowersWrong)

/- THE SECOND FORM. 'bulk': how many values and letters a reading holds, each counted each time it is reached (what is shared counts as often as it is met; a slice's spare places count too). A statement '..UptoSaid' is the law's where the arguments, and the package variables that the reading takes, are together of bulk at most 1048576: NARROWER than '..Said'. Prove '..Said' where nothing that the law and all that it calls make is longer than what came in: it says more and counts as full. Else prove '..UptoSaid'. A law counts once. -/
mutual
def uptoBulk {H : Type} : DataW H → Nat
  | .lit (.string bytes) => bytes.length + 1
  | .lit _ => 1
  | .nil => 1
  | .ptr d => uptoBulk d + 1
  | .slice elems spare => uptoBulkAll elems + uptoBulkAll spare + 1
  | .agg parts => uptoBulkAll parts + 1
  | .iface _ d => uptoBulk d + 1
  | .map entries => uptoBulkEntries entries + 1
  | .held _ => 1
def uptoBulkAll {H : Type} : List (DataW H) → Nat
  | [] => 0
  | d :: r => uptoBulk d + uptoBulkAll r
def uptoBulkEntries {H : Type} : List (Lit × DataW H) → Nat
  | [] => 0
  | x :: r => uptoBulkEntry x + uptoBulkEntries r
def uptoBulkEntry {H : Type} : Lit × DataW H → Nat
  | (.string bytes, d) => bytes.length + uptoBulk d + 1
  | (_, d) => uptoBulk d + 1
 end
def uptoSmall : (H : Type) → List (DataW H) → Bool := fun _ ds => decide (uptoBulkAll ds ≤ 1048576)
def OpenSpec.upto (s : _root_.Go.ChangeSpec) : _root_.Go.OpenSpec := { _root_.Go.OpenSpec.ofChange s with cond := some uptoSmall }

/-- 'laws.FnExactNarcissistic', WHERE WHAT IT READS IS OF BULK AT MOST 1048576: true; the input reads as it did. -/
def fnExactNarcissisticUptoRow : OpenClaim := { program := "ytehhkkbejmhcfaa", sum := "6ae3cf1455d25b21bd7ad965b31a49fed55712943efb749a27f5f57101911332", func := "loop.example/g01151/laws.FnExactNarcissistic", spec := "fnExactNarcissistic", unfollowed := true, recurses := true, apart := false, narrowed := true }
def FnExactNarcissisticUptoSaid : Prop := fnExactNarcissisticUptoRow.holds Try.pinned (OpenSpec.upto fnExactNarcissisticSpec)

/-- 'laws.FnExactOwnPowers', WHERE WHAT IT READS IS OF BULK AT MOST 1048576: true; the input reads as it did. -/
def fnExactOwnPowersUptoRow : OpenClaim := { program := "ytehhkkbejmhcfaa", sum := "6ae3cf1455d25b21bd7ad965b31a49fed55712943efb749a27f5f57101911332", func := "loop.example/g01151/laws.FnExactOwnPowers", spec := "fnExactOwnPowers", unfollowed := true, recurses := true, apart := false, narrowed := true }
def FnExactOwnPowersUptoSaid : Prop := fnExactOwnPowersUptoRow.holds Try.pinned (OpenSpec.upto fnExactOwnPowersSpec)

/-- 'laws.FnExactCyclesOfPowers', WHERE WHAT IT READS IS OF BULK AT MOST 1048576: true; the input reads as it did. -/
def fnExactCyclesOfPowersUptoRow : OpenClaim := { program := "ytehhkkbejmhcfaa", sum := "6ae3cf1455d25b21bd7ad965b31a49fed55712943efb749a27f5f57101911332", func := "loop.example/g01151/laws.FnExactCyclesOfPowers", spec := "fnExactCyclesOfPowers", unfollowed := true, recurses := true, apart := false, narrowed := true }
def FnExactCyclesOfPowersUptoSaid : Prop := fnExactCyclesOfPowersUptoRow.holds Try.pinned (OpenSpec.upto fnExactCyclesOfPowersSpec)

/-- 'laws.FnCyclesOfPowers', WHERE WHAT IT READS IS OF BULK AT MOST 1048576: true; the input reads as it did. -/
def fnCyclesOfPowersUptoRow : OpenClaim := { program := "ytehhkkbejmhcfaa", sum := "6ae3cf1455d25b21bd7ad965b31a49fed55712943efb749a27f5f57101911332", func := "loop.example/g01151/laws.FnCyclesOfPowers", spec := "fnCyclesOfPowers", unfollowed := true, recurses := true, apart := false, narrowed := true }
def FnCyclesOfPowersUptoSaid : Prop := fnCyclesOfPowersUptoRow.holds Try.pinned (OpenSpec.upto fnCyclesOfPowersSpec)

/-- 'laws.FnOwnPowers', WHERE WHAT IT READS IS OF BULK AT MOST 1048576: true; the input reads as it did. -/
def fnOwnPowersUptoRow : OpenClaim := { program := "ytehhkkbejmhcfaa", sum := "6ae3cf1455d25b21bd7ad965b31a49fed55712943efb749a27f5f57101911332", func := "loop.example/g01151/laws.FnOwnPowers", spec := "fnOwnPowers", unfollowed := true, recurses := true, apart := false, narrowed := true }
def FnOwnPowersUptoSaid : Prop := fnOwnPowersUptoRow.holds Try.pinned (OpenSpec.upto fnOwnPowersSpec)

end Rows
end Go.Proofs.Ytehhkkbejmhcfaa
