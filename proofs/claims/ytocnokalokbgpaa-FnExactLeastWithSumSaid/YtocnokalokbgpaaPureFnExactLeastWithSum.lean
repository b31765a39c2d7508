/- FnExactLeastWithSum answers true at every input: the plain statement over its printed functions. No conditions. -/
import Derived.Test.YtocnokalokbgpaaPFnExactLeastWithSumx4
import Derived.Test.YtocnokalokbgpaaLPl
import Derived.KernelRfl
namespace Go.Proofs.Ytocnokalokbgpaa.Pure

theorem same_FnExactLeastWithSum : Go.Proofs.Ytocnokalokbgpaa.PFnExactLeastWithSum.laws_FnExactLeastWithSum.Pure = Go.Proofs.YtocnokalokbgpaaC.laws_FnExactLeastWithSum.Pure := by kernel_rfl
theorem FnExactLeastWithSum : Go.Proofs.Ytocnokalokbgpaa.PFnExactLeastWithSum.laws_FnExactLeastWithSum.Pure := by
  rw [same_FnExactLeastWithSum]
  exact Go.Proofs.YtocnokalokbgpaaC.LeastWithSum_law

end Go.Proofs.Ytocnokalokbgpaa.Pure
