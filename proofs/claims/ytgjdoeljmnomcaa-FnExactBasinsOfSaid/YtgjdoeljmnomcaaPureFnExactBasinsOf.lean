/- FnExactBasinsOf answers true at every input: the plain statement over its printed functions. No conditions. -/
import Derived.Test.YtgjdoeljmnomcaaPFnExactBasinsOfx6
import Derived.Test.YtgjdoeljmnomcaaLMb
import Derived.KernelRfl
namespace Go.Proofs.Ytgjdoeljmnomcaa.Pure

theorem same_FnExactBasinsOf : Go.Proofs.Ytgjdoeljmnomcaa.PFnExactBasinsOf.laws_FnExactBasinsOf.Pure = Go.Proofs.YtgjdoeljmnomcaaC.laws_FnExactBasinsOf.Pure := by kernel_rfl
theorem FnExactBasinsOf : Go.Proofs.Ytgjdoeljmnomcaa.PFnExactBasinsOf.laws_FnExactBasinsOf.Pure := by
  rw [same_FnExactBasinsOf]
  exact Go.Proofs.YtgjdoeljmnomcaaC.BasinsOf_law

end Go.Proofs.Ytgjdoeljmnomcaa.Pure
