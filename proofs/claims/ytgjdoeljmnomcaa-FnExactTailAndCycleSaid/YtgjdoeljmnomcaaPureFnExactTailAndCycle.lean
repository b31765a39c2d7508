/- FnExactTailAndCycle answers true at every input: the plain statement over its printed functions. No conditions. -/
import Derived.Test.YtgjdoeljmnomcaaPFnExactTailAndCyclex3
import Derived.Test.YtgjdoeljmnomcaaLMq
import Derived.KernelRfl
namespace Go.Proofs.Ytgjdoeljmnomcaa.Pure

theorem same_FnExactTailAndCycle : Go.Proofs.Ytgjdoeljmnomcaa.PFnExactTailAndCycle.laws_FnExactTailAndCycle.Pure = Go.Proofs.YtgjdoeljmnomcaaC.laws_FnExactTailAndCycle.Pure := by kernel_rfl
theorem FnExactTailAndCycle : Go.Proofs.Ytgjdoeljmnomcaa.PFnExactTailAndCycle.laws_FnExactTailAndCycle.Pure := by
  rw [same_FnExactTailAndCycle]
  exact Go.Proofs.YtgjdoeljmnomcaaC.TailAndCycle_law

end Go.Proofs.Ytgjdoeljmnomcaa.Pure
