/- FnExactBeforeOf answers true at every input: the plain statement over its printed functions. No conditions. -/
import Derived.Test.YtgjdoeljmnomcaaPFnExactBeforeOfx3
import Derived.Test.YtgjdoeljmnomcaaLMp
import Derived.KernelRfl
namespace Go.Proofs.Ytgjdoeljmnomcaa.Pure

theorem same_FnExactBeforeOf : Go.Proofs.Ytgjdoeljmnomcaa.PFnExactBeforeOf.laws_FnExactBeforeOf.Pure = Go.Proofs.YtgjdoeljmnomcaaC.laws_FnExactBeforeOf.Pure := by kernel_rfl
theorem FnExactBeforeOf : Go.Proofs.Ytgjdoeljmnomcaa.PFnExactBeforeOf.laws_FnExactBeforeOf.Pure := by
  rw [same_FnExactBeforeOf]
  exact Go.Proofs.YtgjdoeljmnomcaaC.BeforeOf_law

end Go.Proofs.Ytgjdoeljmnomcaa.Pure
