/- FnExactSumsSpread answers true at every input: the plain statement over its printed functions. No conditions. -/
import Derived.Test.YtocnokalokbgpaaPFnExactSumsSpreadx2
import Derived.Test.YtocnokalokbgpaaLPs
import Derived.KernelRfl
namespace Go.Proofs.Ytocnokalokbgpaa.Pure

theorem same_FnExactSumsSpread : Go.Proofs.Ytocnokalokbgpaa.PFnExactSumsSpread.laws_FnExactSumsSpread.Pure = Go.Proofs.YtocnokalokbgpaaC.laws_FnExactSumsSpread.Pure := by kernel_rfl
theorem FnExactSumsSpread : Go.Proofs.Ytocnokalokbgpaa.PFnExactSumsSpread.laws_FnExactSumsSpread.Pure := by
  rw [same_FnExactSumsSpread]
  exact Go.Proofs.YtocnokalokbgpaaC.SumsSpread_law

end Go.Proofs.Ytocnokalokbgpaa.Pure
