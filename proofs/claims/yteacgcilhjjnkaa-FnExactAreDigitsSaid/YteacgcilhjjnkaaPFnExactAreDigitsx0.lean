/- Each Go function that FnExactAreDigits reaches, as a plain Lean function, and a proof that the Go code comes to its answers. No conditions. (Written by a program.) -/
import Derived.Test.YteacgcilhjjnkaaProg
import Derived.Below
import Derived.Deep.Draws
import Derived.Deep.AppendLies
import Derived.Maps.AppendAt
import Derived.OwnWalk
import Derived.Laws.BytesArg
import Derived.Laws.MakeOwn
import Derived.Laws.OwnMore
import Derived.Deep.OwnRows
import Derived.Tactics
import Derived.Lib.ConvBytes
import Derived.Laws.Slices
import Derived.WalkKit
import Derived.KernelRfl
import Derived.RowKit3
import Derived.Deep.LoopGhost
import Derived.Deep.QuietTactic
import Derived.BigQuiet
import Derived.WideLaws
import Derived.Deep.DeepCutAuto
import Derived.Deep.CutBlock
import Derived.Deep.RegionHeld3
import Derived.Laws.Rows
import Derived.Lib.AppendStr
import Derived.ArgAppend
import Derived.Laws.IdiomCopy
import Derived.OrdersHeld
import Derived.Laws.BitsLemmas
import Derived.RowKit
import Derived.Lib.Hide
import Derived.Shelf.Abstract
import Derived.Test.YteacgcilhjjnkaaWWords
import Derived.Test.YteacgcilhjjnkaaWLast
import Derived.Test.YteacgcilhjjnkaaWTab
import Derived.Test.YteacgcilhjjnkaaWFour
import Derived.Test.YteacgcilhjjnkaaWQPut
import Derived.Test.YteacgcilhjjnkaaWApart
import Derived.Test.YteacgcilhjjnkaaWArr
import Derived.Test.YteacgcilhjjnkaaWZeros
import Derived.Test.YteacgcilhjjnkaaWFoot
import Derived.Test.YteacgcilhjjnkaaWKept
import Derived.Test.YteacgcilhjjnkaaWShare
import Derived.Test.YteacgcilhjjnkaaWN
import Derived.Test.YteacgcilhjjnkaaWFootNe
import Derived.Test.YteacgcilhjjnkaaWAt
import Derived.Test.YteacgcilhjjnkaaWEqStruct
import Derived.Test.YteacgcilhjjnkaaWRepsOne
import Derived.Test.YteacgcilhjjnkaaWInv
import Derived.Test.YteacgcilhjjnkaaWInvWords
import Derived.Test.YteacgcilhjjnkaaWGuard
import Derived.Test.YteacgcilhjjnkaaWNEv
import Derived.Test.YteacgcilhjjnkaaWMore
namespace Go.Proofs.Yteacgcilhjjnkaa.PFnExactAreDigits
open Go.RowKit Go.Proofs.YteacgcilhjjnkaaW.PrintWords Go.Proofs.YteacgcilhjjnkaaW.PrintLast Go.Proofs.YteacgcilhjjnkaaW.PrintMore
attribute [local go_sem] max2_int min2_int max_two min_two max_three min_three max_four min_four   -- for this text's walks alone
set_option linter.unusedVariables false
set_option linter.unusedSimpArgs false



def errW : Option Int → Value
  | none => .nilIface
  | some c => .iface 0 (.int .i64 c)
theorem errW_none : errW none = .nilIface := rfl
theorem errW_some (c : Int) : errW (some c) = .iface 0 (.int .i64 c) := rfl

theorem info3 : (Try.prog.info? 3).map (fun i => (i.zero, i.size, i.bytes)) = some (some (.int .i64 0), 1, 8) := by kernel_rfl
-- the values' own types

end Go.Proofs.Yteacgcilhjjnkaa.PFnExactAreDigits
