/- FnExactDepthsOf answers true at every input: the plain statement over its printed functions. No conditions. -/
import Derived.Test.YtgjdoeljmnomcaaPFnExactDepthsOfx4
import Derived.Test.YtgjdoeljmnomcaaLMq
import Derived.KernelRfl
namespace Go.Proofs.Ytgjdoeljmnomcaa.Pure

theorem same_FnExactDepthsOf : Go.Proofs.Ytgjdoeljmnomcaa.PFnExactDepthsOf.laws_FnExactDepthsOf.Pure = Go.Proofs.YtgjdoeljmnomcaaC.laws_FnExactDepthsOf.Pure := by kernel_rfl
theorem FnExactDepthsOf : Go.Proofs.Ytgjdoeljmnomcaa.PFnExactDepthsOf.laws_FnExactDepthsOf.Pure := by
  rw [same_FnExactDepthsOf]
  exact Go.Proofs.YtgjdoeljmnomcaaC.DepthsOf_law

end Go.Proofs.Ytgjdoeljmnomcaa.Pure
