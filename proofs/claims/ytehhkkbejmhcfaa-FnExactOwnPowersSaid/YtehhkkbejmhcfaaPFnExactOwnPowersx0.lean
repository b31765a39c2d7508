/- Each Go function that FnExactOwnPowers reaches, as a plain Lean function, and a proof that the Go code comes to its answers. No conditions. (Written by a program.) -/
import Derived.Test.YtehhkkbejmhcfaaProg
import Derived.Below
import Derived.Deep.Draws
import Derived.Deep.AppendLies
import Derived.Maps.AppendAt
import Derived.OwnWalk
import Derived.Laws.BytesArg
import Derived.Laws.MakeOwn
import Derived.Laws.OwnMore
import Derived.Deep.OwnRows
import Derived.Tactics
import Derived.Lib.ConvBytes
import Derived.Laws.Slices
import Derived.WalkKit
import Derived.KernelRfl
import Derived.RowKit3
import Derived.Deep.LoopGhost
import Derived.Deep.QuietTactic
import Derived.BigQuiet
import Derived.WideLaws
import Derived.Deep.DeepCutAuto
import Derived.Deep.CutBlock
import Derived.Deep.RegionHeld3
import Derived.Laws.Rows
import Derived.Lib.AppendStr
import Derived.ArgAppend
import Derived.Laws.IdiomCopy
import Derived.OrdersHeld
import Derived.Laws.BitsLemmas
import Derived.RowKit
import Derived.Lib.SliceRun
import Derived.Sort.OwnSortedInts
import Derived.Test.YtehhkkbejmhcfaaSh
import Derived.Test.YtehhkkbejmhcfaaWWords
import Derived.Test.YtehhkkbejmhcfaaWLast
import Derived.Test.YtehhkkbejmhcfaaWTab
import Derived.Test.YtehhkkbejmhcfaaWFour
import Derived.Test.YtehhkkbejmhcfaaWQPut
import Derived.Test.YtehhkkbejmhcfaaWApart
import Derived.Test.YtehhkkbejmhcfaaWArr
import Derived.Test.YtehhkkbejmhcfaaWZeros
import Derived.Test.YtehhkkbejmhcfaaWFoot
import Derived.Test.YtehhkkbejmhcfaaWKept
import Derived.Test.YtehhkkbejmhcfaaWShare
import Derived.Test.YtehhkkbejmhcfaaWN
import Derived.Test.YtehhkkbejmhcfaaWFootNe
import Derived.Test.YtehhkkbejmhcfaaWAt
import Derived.Test.YtehhkkbejmhcfaaWEqStruct
import Derived.Test.YtehhkkbejmhcfaaWRepsOne
import Derived.Test.YtehhkkbejmhcfaaWInv
import Derived.Test.YtehhkkbejmhcfaaWInvWords
import Derived.Test.YtehhkkbejmhcfaaWGuard
import Derived.Test.YtehhkkbejmhcfaaWNEv
import Derived.Test.YtehhkkbejmhcfaaWMore
namespace Go.Proofs.Ytehhkkbejmhcfaa.PFnExactOwnPowers
open Go.RowKit Go.Proofs.YtehhkkbejmhcfaaW.PrintWords Go.Proofs.YtehhkkbejmhcfaaW.PrintLast Go.Proofs.YtehhkkbejmhcfaaW.PrintMore
attribute [local go_sem] max2_int min2_int max_two min_two max_three min_three max_four min_four   -- for this text's walks alone
set_option linter.unusedVariables false
set_option linter.unusedSimpArgs false



def errW : Option Int → Value
  | none => .nilIface
  | some c => .iface 0 (.int .i64 c)
theorem errW_none : errW none = .nilIface := rfl
theorem errW_some (c : Int) : errW (some c) = .iface 0 (.int .i64 c) := rfl

theorem info3 : (Try.prog.info? 3).map (fun i => (i.zero, i.size, i.bytes)) = some (some (.int .i64 0), 1, 8) := by kernel_rfl
-- the values' own types

end Go.Proofs.Ytehhkkbejmhcfaa.PFnExactOwnPowers
