/- FnExactIsHappy answers true at every input: the plain statement over its printed functions. No conditions. -/
import Derived.Test.YtocnokalokbgpaaPFnExactIsHappyx3
import Derived.Test.YtocnokalokbgpaaLHp
import Derived.KernelRfl
namespace Go.Proofs.Ytocnokalokbgpaa.Pure

theorem same_FnExactIsHappy : Go.Proofs.Ytocnokalokbgpaa.PFnExactIsHappy.laws_FnExactIsHappy.Pure = Go.Proofs.YtocnokalokbgpaaC.laws_FnExactIsHappy.Pure := by kernel_rfl
theorem FnExactIsHappy : Go.Proofs.Ytocnokalokbgpaa.PFnExactIsHappy.laws_FnExactIsHappy.Pure := by
  rw [same_FnExactIsHappy]
  exact Go.Proofs.YtocnokalokbgpaaC.IsHappy_law

end Go.Proofs.Ytocnokalokbgpaa.Pure
