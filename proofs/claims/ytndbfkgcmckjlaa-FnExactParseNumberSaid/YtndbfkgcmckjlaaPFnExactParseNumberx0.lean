/- Each Go function that FnExactParseNumber reaches, as a plain Lean function, and a proof that the Go code comes to its answers. No conditions. (Written by a program.) -/
import Derived.Test.YtndbfkgcmckjlaaProg
import Derived.Below
import Derived.Deep.Draws
import Derived.Deep.AppendLies
import Derived.Maps.AppendAt
import Derived.OwnWalk
import Derived.Laws.BytesArg
import Derived.Laws.MakeOwn
import Derived.Laws.OwnMore
import Derived.Deep.OwnRows
import Derived.Tactics
import Derived.Lib.ConvBytes
import Derived.Laws.Slices
import Derived.WalkKit
import Derived.KernelRfl
import Derived.RowKit3
import Derived.Deep.LoopGhost
import Derived.Deep.QuietTactic
import Derived.BigQuiet
import Derived.WideLaws
import Derived.Deep.DeepCutAuto
import Derived.Deep.CutBlock
import Derived.Deep.RegionHeld3
import Derived.Laws.Rows
import Derived.Lib.AppendStr
import Derived.ArgAppend
import Derived.Laws.IdiomCopy
import Derived.OrdersHeld
import Derived.Laws.BitsLemmas
import Derived.RowKit
import Derived.Lib.SlBytesConst
import Derived.Lib.Hide
import Derived.Shelf.Abstract
import Derived.Test.YtndbfkgcmckjlaaWWords
import Derived.Test.YtndbfkgcmckjlaaWLast
import Derived.Test.YtndbfkgcmckjlaaWTab
import Derived.Test.YtndbfkgcmckjlaaWFour
import Derived.Test.YtndbfkgcmckjlaaWQPut
import Derived.Test.YtndbfkgcmckjlaaWApart
import Derived.Test.YtndbfkgcmckjlaaWArr
import Derived.Test.YtndbfkgcmckjlaaWZeros
import Derived.Test.YtndbfkgcmckjlaaWFoot
import Derived.Test.YtndbfkgcmckjlaaWKept
import Derived.Test.YtndbfkgcmckjlaaWShare
import Derived.Test.YtndbfkgcmckjlaaWN
import Derived.Test.YtndbfkgcmckjlaaWFootNe
import Derived.Test.YtndbfkgcmckjlaaWAt
import Derived.Test.YtndbfkgcmckjlaaWEqStruct
import Derived.Test.YtndbfkgcmckjlaaWRepsOne
import Derived.Test.YtndbfkgcmckjlaaWInv
import Derived.Test.YtndbfkgcmckjlaaWInvWords
import Derived.Test.YtndbfkgcmckjlaaWGuard
import Derived.Test.YtndbfkgcmckjlaaWNEv
import Derived.Test.YtndbfkgcmckjlaaWMore
namespace Go.Proofs.Ytndbfkgcmckjlaa.PFnExactParseNumber
open Go.RowKit Go.Proofs.YtndbfkgcmckjlaaW.PrintWords Go.Proofs.YtndbfkgcmckjlaaW.PrintLast Go.Proofs.YtndbfkgcmckjlaaW.PrintMore
attribute [local go_sem] max2_int min2_int max_two min_two max_three min_three max_four min_four   -- for this text's walks alone
set_option linter.unusedVariables false
set_option linter.unusedSimpArgs false



def errW : Option Int → Value
  | none => .nilIface
  | some c => .iface 0 (.int .i64 c)
theorem errW_none : errW none = .nilIface := rfl
theorem errW_some (c : Int) : errW (some c) = .iface 0 (.int .i64 c) := rfl

theorem info3 : (Try.prog.info? 3).map (fun i => (i.zero, i.size, i.bytes)) = some (some (.int .i64 0), 1, 8) := by kernel_rfl
theorem info5 : (Try.prog.info? 5).map (fun i => (i.zero, i.size, i.bytes)) = some (some (.int .u8 0), 1, 1) := by kernel_rfl
-- the values' own types

end Go.Proofs.Ytndbfkgcmckjlaa.PFnExactParseNumber
