/-
  No cell of these rows narrows 'for every input' (looked for: loops, veiled, ifaces, maps, wideKeys, modest, calm, conditions, laid).
  DERIVED. THE GIVEN ROWS OF THIS SEAT. 5 by the template 'for every input the law returns true; each argument reads behind the call as it read before'; 0 by the template 'total and deterministic' (their statements: YtcaohpcbohdkbaaTotals.lean).
  GIVEN WITH THE SEED: the statements are not yours to turn. If you find one false, say at which input.
  Laid BY PROGRAM, IN A SANDBOX (cutbox-rows.mjs): the forced cells as the released guide's own fill.sh prints them over the translation a677ffbd44945604… (all of the seat's roots in one cut). By AI agents, Wed Nov 11 2026. No macro, syntax, notation, axiom, sorry.
-/
import Derived.Test.YtcaohpcbohdkbaaChecked
import GoSem.Claim
import GoSem.ClaimJoined
import GoSem.ClaimMapViews
import Derived.JoinedTies
import Derived.KernelRfl
namespace Go.Proofs.Ytcaohpcbohdkbaa
/- THE CELL 'sum', in the pinned program and in every row, IS THE sha256 OF THE DUMP (.gsa) THAT YtcaohpcbohdkbaaProg.lean LOADS. Nothing in Lean hashes anything: it is a label: what it is worth is what the hold of that sum in a sandbox is worth. -/
noncomputable def Try.pinned : Pinned := { name := "ytcaohpcbohdkbaa", sum := "a677ffbd44945604d83f8ca9666e09e9b38efbea86928f4a565bcb1b62c8130f", checked := Try.checked }
namespace Rows
def none {H : Type} : Left H := { results := [], args := [] }

/-- 'laws.FnExactCyclesOfMap': WHATEVER THE INPUT: true; the input reads as it did. -/
def fnExactCyclesOfMapSpec : ChangeSpec := { name := "fnExactCyclesOfMap", fn := fun _ => fun
  | [d] => { results := [.lit (.bool true)], args := [d] }
  | _ => none }
def fnExactCyclesOfMapRow : OpenClaim := { program := "ytcaohpcbohdkbaa", sum := "a677ffbd44945604d83f8ca9666e09e9b38efbea86928f4a565bcb1b62c8130f", func := "loop.example/g01151/laws.FnExactCyclesOfMap", spec := "fnExactCyclesOfMap", unfollowed := true, recurses := true, apart := false }
def FnExactCyclesOfMapSaid : Prop := fnExactCyclesOfMapRow.holds Try.pinned (OpenSpec.ofChange fnExactCyclesOfMapSpec)

/-- ITS FALSE NEIGHBOUR: 'it returns false'. Refute it at one input. -/
def fnExactCyclesOfMapWrong : ChangeSpec := { name := "fnExactCyclesOfMap", fn := fun _ => fun
  | [d] => { results := [.lit (.bool false)], args := [d] }
  | _ => none }
def FnExactCyclesOfMapWrongFalsely : Prop := fnExactCyclesOfMapRow.holds Try.pinned (OpenSpec.ofChange fnExactCyclesOfMapWrong)

/-- 'laws.FnExactImagesOf': WHATEVER THE INPUT: true; the input reads as it did. -/
def fnExactImagesOfSpec : ChangeSpec := { name := "fnExactImagesOf", fn := fun _ => fun
  | [d] => { results := [.lit (.bool true)], args := [d] }
  | _ => none }
def fnExactImagesOfRow : OpenClaim := { program := "ytcaohpcbohdkbaa", sum := "a677ffbd44945604d83f8ca9666e09e9b38efbea86928f4a565bcb1b62c8130f", func := "loop.example/g01151/laws.FnExactImagesOf", spec := "fnExactImagesOf", unfollowed := true, recurses := true, apart := false }
def FnExactImagesOfSaid : Prop := fnExactImagesOfRow.holds Try.pinned (OpenSpec.ofChange fnExactImagesOfSpec)

/-- ITS FALSE NEIGHBOUR: 'it returns false'. Refute it at one input. -/
def fnExactImagesOfWrong : ChangeSpec := { name := "fnExactImagesOf", fn := fun _ => fun
  | [d] => { results := [.lit (.bool false)], args := [d] }
  | _ => none }
def FnExactImagesOfWrongFalsely : Prop := fnExactImagesOfRow.holds Try.pinned (OpenSpec.ofChange fnExactImagesOfWrong)

/-- 'laws.FnExactGapsOf': WHATEVER THE INPUT: true; the input reads as it did. -/
def fnExactGapsOfSpec : ChangeSpec := { name := "fnExactGapsOf", fn := fun _ => fun
  | [d1, d2] => { results := [.lit (.bool true)], args := [d1, d2] }
  | _ => none }
def fnExactGapsOfRow : OpenClaim := { program := "ytcaohpcbohdkbaa", sum := "a677ffbd44945604d83f8ca9666e09e9b38efbea86928f4a565bcb1b62c8130f", func := "loop.example/g01151/laws.FnExactGapsOf", spec := "fnExactGapsOf", unfollowed := true, recurses := true, apart := false }
def FnExactGapsOfSaid : Prop := fnExactGapsOfRow.holds Try.pinned (OpenSpec.ofChange fnExactGapsOfSpec)

/-- ITS FALSE NEIGHBOUR: 'it returns false'. Refute it at one input. -/
def fnExactGapsOfWrong : ChangeSpec := { name := "fnExactGapsOf", fn := fun _ => fun
  | [d1, d2] => { results := [.lit (.bool false)], args := [d1, d2] }
  | _ => none }
def FnExactGapsOfWrongFalsely : Prop := fnExactGapsOfRow.holds Try.pinned (OpenSpec.ofChange fnExactGapsOfWrong)

/-- 'laws.FnExactAreMapsAlike': WHATEVER THE INPUT: true; the input reads as it did. -/
def fnExactAreMapsAlikeSpec : ChangeSpec := { name := "fnExactAreMapsAlike", fn := fun _ => fun
  | [d1, d2] => { results := [.lit (.bool true)], args := [d1, d2] }
  | _ => none }
def fnExactAreMapsAlikeRow : OpenClaim := { program := "ytcaohpcbohdkbaa", sum := "a677ffbd44945604d83f8ca9666e09e9b38efbea86928f4a565bcb1b62c8130f", func := "loop.example/g01151/laws.FnExactAreMapsAlike", spec := "fnExactAreMapsAlike", inPlace := ["internal/abi.NoEscape", "internal/bytealg.MakeNoZero"], unfollowed := true, recurses := true, apart := false }
def FnExactAreMapsAlikeSaid : Prop := fnExactAreMapsAlikeRow.holds Try.pinned (OpenSpec.ofChange fnExactAreMapsAlikeSpec)

/-- ITS FALSE NEIGHBOUR: 'it returns false'. Refute it at one input. -/
def fnExactAreMapsAlikeWrong : ChangeSpec := { name := "fnExactAreMapsAlike", fn := fun _ => fun
  | [d1, d2] => { results := [.lit (.bool false)], args := [d1, d2] }
  | _ => none }
def FnExactAreMapsAlikeWrongFalsely : Prop := fnExactAreMapsAlikeRow.holds Try.pinned (OpenSpec.ofChange fnExactAreMapsAlikeWrong)

/-- 'laws.FnExactNameOfMap': WHATEVER THE INPUT: true; the input reads as it did. -/
def fnExactNameOfMapSpec : ChangeSpec := { name := "fnExactNameOfMap", fn := fun _ => fun
  | [d] => { results := [.lit (.bool true)], args := [d] }
  | _ => none }
def fnExactNameOfMapRow : OpenClaim := { program := "ytcaohpcbohdkbaa", sum := "a677ffbd44945604d83f8ca9666e09e9b38efbea86928f4a565bcb1b62c8130f", func := "loop.example/g01151/laws.FnExactNameOfMap", spec := "fnExactNameOfMap", inPlace := ["internal/abi.NoEscape", "internal/bytealg.MakeNoZero"], unfollowed := true, recurses := true, apart := false }
def FnExactNameOfMapSaid : Prop := fnExactNameOfMapRow.holds Try.pinned (OpenSpec.ofChange fnExactNameOfMapSpec)

/-- ITS FALSE NEIGHBOUR: 'it returns false'. Refute it at one input. -/
def fnExactNameOfMapWrong : ChangeSpec := { name := "fnExactNameOfMap", fn := fun _ => fun
  | [d] => { results := [.lit (.bool false)], args := [d] }
  | _ => none }
def FnExactNameOfMapWrongFalsely : Prop := fnExactNameOfMapRow.holds Try.pinned (OpenSpec.ofChange fnExactNameOfMapWrong)

/- THE SECOND FORM. 'bulk': how many values and letters a reading holds, each counted each time it is reached (what is shared counts as often as it is met; a slice's spare places count too). A statement '..UptoSaid' is the law's where the arguments, and the package variables that the reading takes, are together of bulk at most 1048576: NARROWER than '..Said'. Prove '..Said' where nothing that the law and all that it calls make is longer than what came in: it says more and counts as full. Else prove '..UptoSaid'. A law counts once. -/
mutual
def uptoBulk {H : Type} : DataW H → Nat
  | .lit (.string bytes) => bytes.length + 1
  | .lit _ => 1
  | .nil => 1
  | .ptr d => uptoBulk d + 1
  | .slice elems spare => uptoBulkAll elems + uptoBulkAll spare + 1
  | .agg parts => uptoBulkAll parts + 1
  | .iface _ d => uptoBulk d + 1
  | .map entries => uptoBulkEntries entries + 1
  | .held _ => 1
def uptoBulkAll {H : Type} : List (DataW H) → Nat
  | [] => 0
  | d :: r => uptoBulk d + uptoBulkAll r
def uptoBulkEntries {H : Type} : List (Lit × DataW H) → Nat
  | [] => 0
  | x :: r => uptoBulkEntry x + uptoBulkEntries r
def uptoBulkEntry {H : Type} : Lit × DataW H → Nat
  | (.string bytes, d) => bytes.length + uptoBulk d + 1
  | (_, d) => uptoBulk d + 1
 end
def uptoSmall : (H : Type) → List (DataW H) → Bool := fun _ ds => decide (uptoBulkAll ds ≤ 1048576)
def OpenSpec.upto (s : _root_.Go.ChangeSpec) : _root_.Go.OpenSpec := { _root_.Go.OpenSpec.ofChange s with cond := some uptoSmall }

/-- 'laws.FnExactCyclesOfMap', WHERE WHAT IT READS IS OF BULK AT MOST 1048576: true; the input reads as it did. -/
def fnExactCyclesOfMapUptoRow : OpenClaim := { program := "ytcaohpcbohdkbaa", sum := "a677ffbd44945604d83f8ca9666e09e9b38efbea86928f4a565bcb1b62c8130f", func := "loop.example/g01151/laws.FnExactCyclesOfMap", spec := "fnExactCyclesOfMap", unfollowed := true, recurses := true, apart := false, narrowed := true }
def FnExactCyclesOfMapUptoSaid : Prop := fnExactCyclesOfMapUptoRow.holds Try.pinned (OpenSpec.upto fnExactCyclesOfMapSpec)

/-- 'laws.FnExactImagesOf', WHERE WHAT IT READS IS OF BULK AT MOST 1048576: true; the input reads as it did. -/
def fnExactImagesOfUptoRow : OpenClaim := { program := "ytcaohpcbohdkbaa", sum := "a677ffbd44945604d83f8ca9666e09e9b38efbea86928f4a565bcb1b62c8130f", func := "loop.example/g01151/laws.FnExactImagesOf", spec := "fnExactImagesOf", unfollowed := true, recurses := true, apart := false, narrowed := true }
def FnExactImagesOfUptoSaid : Prop := fnExactImagesOfUptoRow.holds Try.pinned (OpenSpec.upto fnExactImagesOfSpec)

/-- 'laws.FnExactGapsOf', WHERE WHAT IT READS IS OF BULK AT MOST 1048576: true; the input reads as it did. -/
def fnExactGapsOfUptoRow : OpenClaim := { program := "ytcaohpcbohdkbaa", sum := "a677ffbd44945604d83f8ca9666e09e9b38efbea86928f4a565bcb1b62c8130f", func := "loop.example/g01151/laws.FnExactGapsOf", spec := "fnExactGapsOf", unfollowed := true, recurses := true, apart := false, narrowed := true }
def FnExactGapsOfUptoSaid : Prop := fnExactGapsOfUptoRow.holds Try.pinned (OpenSpec.upto fnExactGapsOfSpec)

/-- 'laws.FnExactAreMapsAlike', WHERE WHAT IT READS IS OF BULK AT MOST 1048576: true; the input reads as it did. -/
def fnExactAreMapsAlikeUptoRow : OpenClaim := { program := "ytcaohpcbohdkbaa", sum := "a677ffbd44945604d83f8ca9666e09e9b38efbea86928f4a565bcb1b62c8130f", func := "loop.example/g01151/laws.FnExactAreMapsAlike", spec := "fnExactAreMapsAlike", inPlace := ["internal/abi.NoEscape", "internal/bytealg.MakeNoZero"], unfollowed := true, recurses := true, apart := false, narrowed := true }
def FnExactAreMapsAlikeUptoSaid : Prop := fnExactAreMapsAlikeUptoRow.holds Try.pinned (OpenSpec.upto fnExactAreMapsAlikeSpec)

/-- 'laws.FnExactNameOfMap', WHERE WHAT IT READS IS OF BULK AT MOST 1048576: true; the input reads as it did. -/
def fnExactNameOfMapUptoRow : OpenClaim := { program := "ytcaohpcbohdkbaa", sum := "a677ffbd44945604d83f8ca9666e09e9b38efbea86928f4a565bcb1b62c8130f", func := "loop.example/g01151/laws.FnExactNameOfMap", spec := "fnExactNameOfMap", inPlace := ["internal/abi.NoEscape", "internal/bytealg.MakeNoZero"], unfollowed := true, recurses := true, apart := false, narrowed := true }
def FnExactNameOfMapUptoSaid : Prop := fnExactNameOfMapUptoRow.holds Try.pinned (OpenSpec.upto fnExactNameOfMapSpec)

end Rows
end Go.Proofs.Ytcaohpcbohdkbaa
