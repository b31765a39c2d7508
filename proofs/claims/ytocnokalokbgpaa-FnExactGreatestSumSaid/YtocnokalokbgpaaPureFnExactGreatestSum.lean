/- FnExactGreatestSum answers true at every input: the plain statement over its printed functions. No conditions. -/
import Derived.Test.YtocnokalokbgpaaPFnExactGreatestSumx1
import Derived.Test.YtocnokalokbgpaaLPw
import Derived.KernelRfl
namespace Go.Proofs.Ytocnokalokbgpaa.Pure

theorem same_FnExactGreatestSum : Go.Proofs.Ytocnokalokbgpaa.PFnExactGreatestSum.laws_FnExactGreatestSum.Pure = Go.Proofs.YtocnokalokbgpaaC.laws_FnExactGreatestSum.Pure := by kernel_rfl
theorem FnExactGreatestSum : Go.Proofs.Ytocnokalokbgpaa.PFnExactGreatestSum.laws_FnExactGreatestSum.Pure := by
  rw [same_FnExactGreatestSum]
  exact Go.Proofs.YtocnokalokbgpaaC.GreatestSum_law

end Go.Proofs.Ytocnokalokbgpaa.Pure
