/- FnExactCountFixedBy answers true at every input: the plain statement over its printed functions. No conditions. -/
import Derived.Test.YtgjdoeljmnomcaaPFnExactCountFixedByx5
import Derived.Test.YtgjdoeljmnomcaaLMu
import Derived.KernelRfl
namespace Go.Proofs.Ytgjdoeljmnomcaa.Pure

theorem same_FnExactCountFixedBy : Go.Proofs.Ytgjdoeljmnomcaa.PFnExactCountFixedBy.laws_FnExactCountFixedBy.Pure = Go.Proofs.YtgjdoeljmnomcaaC.laws_FnExactCountFixedBy.Pure := by kernel_rfl
theorem FnExactCountFixedBy : Go.Proofs.Ytgjdoeljmnomcaa.PFnExactCountFixedBy.laws_FnExactCountFixedBy.Pure := by
  rw [same_FnExactCountFixedBy]
  exact Go.Proofs.YtgjdoeljmnomcaaC.CountFixedBy_law

end Go.Proofs.Ytgjdoeljmnomcaa.Pure
