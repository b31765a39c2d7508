/- FnExactPowerRun answers true at every input: the plain statement over its printed functions. No conditions. -/
import Derived.Test.YtocnokalokbgpaaPFnExactPowerRunx3
import Derived.Test.YtocnokalokbgpaaLHp
import Derived.KernelRfl
namespace Go.Proofs.Ytocnokalokbgpaa.Pure

theorem same_FnExactPowerRun : Go.Proofs.Ytocnokalokbgpaa.PFnExactPowerRun.laws_FnExactPowerRun.Pure = Go.Proofs.YtocnokalokbgpaaC.laws_FnExactPowerRun.Pure := by kernel_rfl
theorem FnExactPowerRun : Go.Proofs.Ytocnokalokbgpaa.PFnExactPowerRun.laws_FnExactPowerRun.Pure := by
  rw [same_FnExactPowerRun]
  exact Go.Proofs.YtocnokalokbgpaaC.PowerRun_law

end Go.Proofs.Ytocnokalokbgpaa.Pure
