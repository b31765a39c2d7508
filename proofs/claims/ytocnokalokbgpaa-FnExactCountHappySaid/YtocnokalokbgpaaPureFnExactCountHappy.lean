/- FnExactCountHappy answers true at every input: the plain statement over its printed functions. No conditions. -/
import Derived.Test.YtocnokalokbgpaaPFnExactCountHappyx4
import Derived.Test.YtocnokalokbgpaaLHp
import Derived.KernelRfl
namespace Go.Proofs.Ytocnokalokbgpaa.Pure

theorem same_FnExactCountHappy : Go.Proofs.Ytocnokalokbgpaa.PFnExactCountHappy.laws_FnExactCountHappy.Pure = Go.Proofs.YtocnokalokbgpaaC.laws_FnExactCountHappy.Pure := by kernel_rfl
theorem FnExactCountHappy : Go.Proofs.Ytocnokalokbgpaa.PFnExactCountHappy.laws_FnExactCountHappy.Pure := by
  rw [same_FnExactCountHappy]
  exact Go.Proofs.YtocnokalokbgpaaC.CountHappy_law

end Go.Proofs.Ytocnokalokbgpaa.Pure
