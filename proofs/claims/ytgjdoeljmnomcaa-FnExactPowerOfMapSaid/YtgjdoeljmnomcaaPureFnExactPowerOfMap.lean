/- FnExactPowerOfMap answers true at every input: the plain statement over its printed functions. No conditions. -/
import Derived.Test.YtgjdoeljmnomcaaPFnExactPowerOfMapx5
import Derived.Test.YtgjdoeljmnomcaaLMr
import Derived.KernelRfl
namespace Go.Proofs.Ytgjdoeljmnomcaa.Pure

theorem same_FnExactPowerOfMap : Go.Proofs.Ytgjdoeljmnomcaa.PFnExactPowerOfMap.laws_FnExactPowerOfMap.Pure = Go.Proofs.YtgjdoeljmnomcaaC.laws_FnExactPowerOfMap.Pure := by kernel_rfl
theorem FnExactPowerOfMap : Go.Proofs.Ytgjdoeljmnomcaa.PFnExactPowerOfMap.laws_FnExactPowerOfMap.Pure := by
  rw [same_FnExactPowerOfMap]
  exact Go.Proofs.YtgjdoeljmnomcaaC.PowerOfMap_law

end Go.Proofs.Ytgjdoeljmnomcaa.Pure
