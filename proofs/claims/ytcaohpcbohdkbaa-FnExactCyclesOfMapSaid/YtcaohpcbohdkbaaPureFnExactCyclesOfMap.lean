/- FnExactCyclesOfMap answers true at every input: the plain statement over its printed functions. No conditions. -/
import Derived.Test.YtcaohpcbohdkbaaPFnExactCyclesOfMapx5
import Derived.Test.YtcaohpcbohdkbaaLCm
import Derived.KernelRfl
namespace Go.Proofs.Ytcaohpcbohdkbaa.Pure

theorem same_FnExactCyclesOfMap : Go.Proofs.Ytcaohpcbohdkbaa.PFnExactCyclesOfMap.laws_FnExactCyclesOfMap.Pure = Go.Proofs.YtcaohpcbohdkbaaC.laws_FnExactCyclesOfMap.Pure := by kernel_rfl
theorem FnExactCyclesOfMap : Go.Proofs.Ytcaohpcbohdkbaa.PFnExactCyclesOfMap.laws_FnExactCyclesOfMap.Pure := by
  rw [same_FnExactCyclesOfMap]
  exact Go.Proofs.YtcaohpcbohdkbaaC.CyclesOfMap_law

end Go.Proofs.Ytcaohpcbohdkbaa.Pure
