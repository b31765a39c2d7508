/- FnExactIsMap answers true at every input: the plain statement over its printed functions. No conditions. -/
import Derived.Test.YtgjdoeljmnomcaaPFnExactIsMapx1
import Derived.Test.YtgjdoeljmnomcaaLMp
import Derived.KernelRfl
namespace Go.Proofs.Ytgjdoeljmnomcaa.Pure

theorem same_FnExactIsMap : Go.Proofs.Ytgjdoeljmnomcaa.PFnExactIsMap.laws_FnExactIsMap.Pure = Go.Proofs.YtgjdoeljmnomcaaC.laws_FnExactIsMap.Pure := by kernel_rfl
theorem FnExactIsMap : Go.Proofs.Ytgjdoeljmnomcaa.PFnExactIsMap.laws_FnExactIsMap.Pure := by
  rw [same_FnExactIsMap]
  exact Go.Proofs.YtgjdoeljmnomcaaC.IsMap_law

end Go.Proofs.Ytgjdoeljmnomcaa.Pure
