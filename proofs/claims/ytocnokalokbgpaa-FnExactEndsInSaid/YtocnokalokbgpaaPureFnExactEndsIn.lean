/- FnExactEndsIn answers true at every input: the plain statement over its printed functions. No conditions. -/
import Derived.Test.YtocnokalokbgpaaPFnExactEndsInx3
import Derived.Test.YtocnokalokbgpaaLHp
import Derived.KernelRfl
namespace Go.Proofs.Ytocnokalokbgpaa.Pure

theorem same_FnExactEndsIn : Go.Proofs.Ytocnokalokbgpaa.PFnExactEndsIn.laws_FnExactEndsIn.Pure = Go.Proofs.YtocnokalokbgpaaC.laws_FnExactEndsIn.Pure := by kernel_rfl
theorem FnExactEndsIn : Go.Proofs.Ytocnokalokbgpaa.PFnExactEndsIn.laws_FnExactEndsIn.Pure := by
  rw [same_FnExactEndsIn]
  exact Go.Proofs.YtocnokalokbgpaaC.EndsIn_law

end Go.Proofs.Ytocnokalokbgpaa.Pure
