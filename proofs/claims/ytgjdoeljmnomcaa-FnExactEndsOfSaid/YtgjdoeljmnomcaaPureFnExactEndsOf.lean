/- FnExactEndsOf answers true at every input: the plain statement over its printed functions. No conditions. -/
import Derived.Test.YtgjdoeljmnomcaaPFnExactEndsOfx3
import Derived.Test.YtgjdoeljmnomcaaLMp
import Derived.KernelRfl
namespace Go.Proofs.Ytgjdoeljmnomcaa.Pure

theorem same_FnExactEndsOf : Go.Proofs.Ytgjdoeljmnomcaa.PFnExactEndsOf.laws_FnExactEndsOf.Pure = Go.Proofs.YtgjdoeljmnomcaaC.laws_FnExactEndsOf.Pure := by kernel_rfl
theorem FnExactEndsOf : Go.Proofs.Ytgjdoeljmnomcaa.PFnExactEndsOf.laws_FnExactEndsOf.Pure := by
  rw [same_FnExactEndsOf]
  exact Go.Proofs.YtgjdoeljmnomcaaC.EndsOf_law

end Go.Proofs.Ytgjdoeljmnomcaa.Pure
