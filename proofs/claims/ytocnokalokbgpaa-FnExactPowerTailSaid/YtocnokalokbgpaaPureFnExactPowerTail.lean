/- FnExactPowerTail answers true at every input: the plain statement over its printed functions. No conditions. -/
import Derived.Test.YtocnokalokbgpaaPFnExactPowerTailx2
import Derived.Test.YtocnokalokbgpaaLHp
import Derived.KernelRfl
namespace Go.Proofs.Ytocnokalokbgpaa.Pure

theorem same_FnExactPowerTail : Go.Proofs.Ytocnokalokbgpaa.PFnExactPowerTail.laws_FnExactPowerTail.Pure = Go.Proofs.YtocnokalokbgpaaC.laws_FnExactPowerTail.Pure := by kernel_rfl
theorem FnExactPowerTail : Go.Proofs.Ytocnokalokbgpaa.PFnExactPowerTail.laws_FnExactPowerTail.Pure := by
  rw [same_FnExactPowerTail]
  exact Go.Proofs.YtocnokalokbgpaaC.PowerTail_law

end Go.Proofs.Ytocnokalokbgpaa.Pure
