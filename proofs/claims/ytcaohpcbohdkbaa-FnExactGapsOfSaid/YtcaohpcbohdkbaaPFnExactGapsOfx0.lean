/- Each Go function that FnExactGapsOf reaches, as a plain Lean function, and a proof that the Go code comes to its answers. No conditions. (Written by a program.) -/
import Derived.Test.YtcaohpcbohdkbaaProg
import Derived.Below
import Derived.Deep.Draws
import Derived.Deep.AppendLies
import Derived.Maps.AppendAt
import Derived.OwnWalk
import Derived.Laws.BytesArg
import Derived.Laws.MakeOwn
import Derived.Laws.OwnMore
import Derived.Deep.OwnRows
import Derived.Tactics
import Derived.Lib.ConvBytes
import Derived.Laws.Slices
import Derived.WalkKit
import Derived.KernelRfl
import Derived.RowKit3
import Derived.Deep.LoopGhost
import Derived.Deep.QuietTactic
import Derived.BigQuiet
import Derived.WideLaws
import Derived.Deep.DeepCutAuto
import Derived.Deep.CutBlock
import Derived.Deep.RegionHeld3
import Derived.Laws.Rows
import Derived.Lib.AppendStr
import Derived.ArgAppend
import Derived.Laws.IdiomCopy
import Derived.OrdersHeld
import Derived.Laws.BitsLemmas
import Derived.RowKit
import Derived.Lib.Hide
import Derived.Shelf.Abstract
import Derived.Sort.OwnSortedInts
import Derived.Test.YtcaohpcbohdkbaaIt
import Derived.Test.YtcaohpcbohdkbaaSh
import Derived.Test.YtcaohpcbohdkbaaWWords
import Derived.Test.YtcaohpcbohdkbaaWLast
import Derived.Test.YtcaohpcbohdkbaaWTab
import Derived.Test.YtcaohpcbohdkbaaWFour
import Derived.Test.YtcaohpcbohdkbaaWQPut
import Derived.Test.YtcaohpcbohdkbaaWApart
import Derived.Test.YtcaohpcbohdkbaaWArr
import Derived.Test.YtcaohpcbohdkbaaWZeros
import Derived.Test.YtcaohpcbohdkbaaWFoot
import Derived.Test.YtcaohpcbohdkbaaWKept
import Derived.Test.YtcaohpcbohdkbaaWShare
import Derived.Test.YtcaohpcbohdkbaaWN
import Derived.Test.YtcaohpcbohdkbaaWFootNe
import Derived.Test.YtcaohpcbohdkbaaWAt
import Derived.Test.YtcaohpcbohdkbaaWEqStruct
import Derived.Test.YtcaohpcbohdkbaaWRepsOne
import Derived.Test.YtcaohpcbohdkbaaWInv
import Derived.Test.YtcaohpcbohdkbaaWInvWords
import Derived.Test.YtcaohpcbohdkbaaWGuard
import Derived.Test.YtcaohpcbohdkbaaWNEv
import Derived.Test.YtcaohpcbohdkbaaWMore
namespace Go.Proofs.Ytcaohpcbohdkbaa.PFnExactGapsOf
open Go.RowKit Go.Proofs.YtcaohpcbohdkbaaW.PrintWords Go.Proofs.YtcaohpcbohdkbaaW.PrintLast Go.Proofs.YtcaohpcbohdkbaaW.PrintMore
attribute [local go_sem] max2_int min2_int max_two min_two max_three min_three max_four min_four   -- for this text's walks alone
set_option linter.unusedVariables false
set_option linter.unusedSimpArgs false



def errW : Option Int → Value
  | none => .nilIface
  | some c => .iface 0 (.int .i64 c)
theorem errW_none : errW none = .nilIface := rfl
theorem errW_some (c : Int) : errW (some c) = .iface 0 (.int .i64 c) := rfl

theorem info3 : (Try.prog.info? 3).map (fun i => (i.zero, i.size, i.bytes)) = some (some (.int .i64 0), 1, 8) := by kernel_rfl
-- the values' own types

end Go.Proofs.Ytcaohpcbohdkbaa.PFnExactGapsOf
