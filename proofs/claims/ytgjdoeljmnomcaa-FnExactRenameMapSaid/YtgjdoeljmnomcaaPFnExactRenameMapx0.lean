/- Each Go function that FnExactRenameMap reaches, as a plain Lean function, and a proof that the Go code comes to its answers. No conditions. (Written by a program.) -/
import Derived.Test.YtgjdoeljmnomcaaProg
import Derived.Below
import Derived.Deep.Draws
import Derived.Deep.AppendLies
import Derived.Maps.AppendAt
import Derived.OwnWalk
import Derived.Laws.BytesArg
import Derived.Laws.MakeOwn
import Derived.Laws.OwnMore
import Derived.Deep.OwnRows
import Derived.Tactics
import Derived.Lib.ConvBytes
import Derived.Laws.Slices
import Derived.WalkKit
import Derived.KernelRfl
import Derived.RowKit3
import Derived.Deep.LoopGhost
import Derived.Deep.QuietTactic
import Derived.BigQuiet
import Derived.WideLaws
import Derived.Deep.DeepCutAuto
import Derived.Deep.CutBlock
import Derived.Deep.RegionHeld3
import Derived.Laws.Rows
import Derived.Lib.AppendStr
import Derived.ArgAppend
import Derived.Laws.IdiomCopy
import Derived.OrdersHeld
import Derived.Laws.BitsLemmas
import Derived.RowKit
import Derived.Deep.RegionLaw
import Derived.Laws.CopyOwn
import Derived.Lib.Hide
import Derived.Shelf.Abstract
import Derived.Test.YtgjdoeljmnomcaaWWords
import Derived.Test.YtgjdoeljmnomcaaWLast
import Derived.Test.YtgjdoeljmnomcaaWTab
import Derived.Test.YtgjdoeljmnomcaaWFour
import Derived.Test.YtgjdoeljmnomcaaWQPut
import Derived.Test.YtgjdoeljmnomcaaWApart
import Derived.Test.YtgjdoeljmnomcaaWArr
import Derived.Test.YtgjdoeljmnomcaaWZeros
import Derived.Test.YtgjdoeljmnomcaaWFoot
import Derived.Test.YtgjdoeljmnomcaaWKept
import Derived.Test.YtgjdoeljmnomcaaWShare
import Derived.Test.YtgjdoeljmnomcaaWN
import Derived.Test.YtgjdoeljmnomcaaWFootNe
import Derived.Test.YtgjdoeljmnomcaaWAt
import Derived.Test.YtgjdoeljmnomcaaWEqStruct
import Derived.Test.YtgjdoeljmnomcaaWRepsOne
import Derived.Test.YtgjdoeljmnomcaaWInv
import Derived.Test.YtgjdoeljmnomcaaWInvWords
import Derived.Test.YtgjdoeljmnomcaaWGuard
import Derived.Test.YtgjdoeljmnomcaaWNEv
import Derived.Test.YtgjdoeljmnomcaaWMore
namespace Go.Proofs.Ytgjdoeljmnomcaa.PFnExactRenameMap
open Go.RowKit Go.Proofs.YtgjdoeljmnomcaaW.PrintWords Go.Proofs.YtgjdoeljmnomcaaW.PrintLast Go.Proofs.YtgjdoeljmnomcaaW.PrintMore
attribute [local go_sem] max2_int min2_int max_two min_two max_three min_three max_four min_four   -- for this text's walks alone
set_option linter.unusedVariables false
set_option linter.unusedSimpArgs false



def errW : Option Int → Value
  | none => .nilIface
  | some c => .iface 0 (.int .i64 c)
theorem errW_none : errW none = .nilIface := rfl
theorem errW_some (c : Int) : errW (some c) = .iface 0 (.int .i64 c) := rfl

theorem info3 : (Try.prog.info? 3).map (fun i => (i.zero, i.size, i.bytes)) = some (some (.int .i64 0), 1, 8) := by kernel_rfl
-- the values' own types

end Go.Proofs.Ytgjdoeljmnomcaa.PFnExactRenameMap
