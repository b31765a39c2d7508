/- Each Go function that FnExactCountHappy reaches, as a plain Lean function, and a proof that the Go code comes to its answers. No conditions. (Written by a program.) -/
import Derived.Test.YtocnokalokbgpaaProg
import Derived.Below
import Derived.Deep.Draws
import Derived.Deep.AppendLies
import Derived.Maps.AppendAt
import Derived.OwnWalk
import Derived.Laws.BytesArg
import Derived.Laws.MakeOwn
import Derived.Laws.OwnMore
import Derived.Deep.OwnRows
import Derived.Tactics
import Derived.Lib.ConvBytes
import Derived.Laws.Slices
import Derived.WalkKit
import Derived.KernelRfl
import Derived.RowKit3
import Derived.Deep.LoopGhost
import Derived.Deep.QuietTactic
import Derived.BigQuiet
import Derived.WideLaws
import Derived.Deep.DeepCutAuto
import Derived.Deep.CutBlock
import Derived.Deep.RegionHeld3
import Derived.Laws.Rows
import Derived.Lib.AppendStr
import Derived.ArgAppend
import Derived.Laws.IdiomCopy
import Derived.OrdersHeld
import Derived.Laws.BitsLemmas
import Derived.RowKit
import Derived.Maps.OwnOps
import Derived.Maps.OwnSet
import Derived.Shelf.Abstract
import Derived.Test.YtocnokalokbgpaaWWords
import Derived.Test.YtocnokalokbgpaaWLast
import Derived.Test.YtocnokalokbgpaaWTab
import Derived.Test.YtocnokalokbgpaaWFour
import Derived.Test.YtocnokalokbgpaaWQPut
import Derived.Test.YtocnokalokbgpaaWApart
import Derived.Test.YtocnokalokbgpaaWArr
import Derived.Test.YtocnokalokbgpaaWZeros
import Derived.Test.YtocnokalokbgpaaWFoot
import Derived.Test.YtocnokalokbgpaaWKept
import Derived.Test.YtocnokalokbgpaaWShare
import Derived.Test.YtocnokalokbgpaaWN
import Derived.Test.YtocnokalokbgpaaWFootNe
import Derived.Test.YtocnokalokbgpaaWAt
import Derived.Test.YtocnokalokbgpaaWEqStruct
import Derived.Test.YtocnokalokbgpaaWRepsOne
import Derived.Test.YtocnokalokbgpaaWInv
import Derived.Test.YtocnokalokbgpaaWInvWords
import Derived.Test.YtocnokalokbgpaaWGuard
import Derived.Test.YtocnokalokbgpaaWNEv
import Derived.Test.YtocnokalokbgpaaWMore
namespace Go.Proofs.Ytocnokalokbgpaa.PFnExactCountHappy
open Go.RowKit Go.Proofs.YtocnokalokbgpaaW.PrintWords Go.Proofs.YtocnokalokbgpaaW.PrintLast Go.Proofs.YtocnokalokbgpaaW.PrintMore
attribute [local go_sem] max2_int min2_int max_two min_two max_three min_three max_four min_four   -- for this text's walks alone
set_option linter.unusedVariables false
set_option linter.unusedSimpArgs false



def errW : Option Int → Value
  | none => .nilIface
  | some c => .iface 0 (.int .i64 c)
theorem errW_none : errW none = .nilIface := rfl
theorem errW_some (c : Int) : errW (some c) = .iface 0 (.int .i64 c) := rfl

theorem info3 : (Try.prog.info? 3).map (fun i => (i.zero, i.size, i.bytes)) = some (some (.int .i64 0), 1, 8) := by kernel_rfl
-- the values' own types

end Go.Proofs.Ytocnokalokbgpaa.PFnExactCountHappy
