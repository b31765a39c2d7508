/- FnExactWhenSteady answers true at every input: the plain statement over its printed functions. No conditions. -/
import Derived.Test.YtilpolepomokaaaPFnExactWhenSteadyx6
import Derived.Test.YtilpolepomokaaaLWs
import Derived.KernelRfl
namespace Go.Proofs.Ytilpolepomokaaa.Pure

theorem same_FnExactWhenSteady : Go.Proofs.Ytilpolepomokaaa.PFnExactWhenSteady.laws_FnExactWhenSteady.Pure = Go.Proofs.YtilpolepomokaaaC.laws_FnExactWhenSteady.Pure := by kernel_rfl
theorem FnExactWhenSteady : Go.Proofs.Ytilpolepomokaaa.PFnExactWhenSteady.laws_FnExactWhenSteady.Pure := by
  rw [same_FnExactWhenSteady]
  exact Go.Proofs.YtilpolepomokaaaC.WhenSteady_law

end Go.Proofs.Ytilpolepomokaaa.Pure
