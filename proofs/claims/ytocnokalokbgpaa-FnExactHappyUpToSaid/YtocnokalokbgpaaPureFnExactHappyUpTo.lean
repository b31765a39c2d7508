/- FnExactHappyUpTo answers true at every input: the plain statement over its printed functions. No conditions. -/
import Derived.Test.YtocnokalokbgpaaPFnExactHappyUpTox4
import Derived.Test.YtocnokalokbgpaaLHp
import Derived.KernelRfl
namespace Go.Proofs.Ytocnokalokbgpaa.Pure

theorem same_FnExactHappyUpTo : Go.Proofs.Ytocnokalokbgpaa.PFnExactHappyUpTo.laws_FnExactHappyUpTo.Pure = Go.Proofs.YtocnokalokbgpaaC.laws_FnExactHappyUpTo.Pure := by kernel_rfl
theorem FnExactHappyUpTo : Go.Proofs.Ytocnokalokbgpaa.PFnExactHappyUpTo.laws_FnExactHappyUpTo.Pure := by
  rw [same_FnExactHappyUpTo]
  exact Go.Proofs.YtocnokalokbgpaaC.HappyUpTo_law

end Go.Proofs.Ytocnokalokbgpaa.Pure
