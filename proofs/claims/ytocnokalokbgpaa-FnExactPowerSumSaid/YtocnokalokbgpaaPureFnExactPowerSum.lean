/- FnExactPowerSum answers true at every input: the plain statement over its printed functions. No conditions. -/
import Derived.Test.YtocnokalokbgpaaPFnExactPowerSumx2
import Derived.Test.YtocnokalokbgpaaLPw
import Derived.KernelRfl
namespace Go.Proofs.Ytocnokalokbgpaa.Pure

theorem same_FnExactPowerSum : Go.Proofs.Ytocnokalokbgpaa.PFnExactPowerSum.laws_FnExactPowerSum.Pure = Go.Proofs.YtocnokalokbgpaaC.laws_FnExactPowerSum.Pure := by kernel_rfl
theorem FnExactPowerSum : Go.Proofs.Ytocnokalokbgpaa.PFnExactPowerSum.laws_FnExactPowerSum.Pure := by
  rw [same_FnExactPowerSum]
  exact Go.Proofs.YtocnokalokbgpaaC.PowerSum_law

end Go.Proofs.Ytocnokalokbgpaa.Pure
