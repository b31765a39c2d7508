/- FnExactApplyMap answers true at every input: the plain statement over its printed functions. No conditions. -/
import Derived.Test.YtgjdoeljmnomcaaPFnExactApplyMapx2
import Derived.Test.YtgjdoeljmnomcaaLMp
import Derived.KernelRfl
namespace Go.Proofs.Ytgjdoeljmnomcaa.Pure

theorem same_FnExactApplyMap : Go.Proofs.Ytgjdoeljmnomcaa.PFnExactApplyMap.laws_FnExactApplyMap.Pure = Go.Proofs.YtgjdoeljmnomcaaC.laws_FnExactApplyMap.Pure := by kernel_rfl
theorem FnExactApplyMap : Go.Proofs.Ytgjdoeljmnomcaa.PFnExactApplyMap.laws_FnExactApplyMap.Pure := by
  rw [same_FnExactApplyMap]
  exact Go.Proofs.YtgjdoeljmnomcaaC.ApplyMap_law

end Go.Proofs.Ytgjdoeljmnomcaa.Pure
