/- FnExactFallsFrom answers true at every input: the plain statement over its printed functions. No conditions. -/
import Derived.Test.YtocnokalokbgpaaPFnExactFallsFromx1
import Derived.Test.YtocnokalokbgpaaLPw
import Derived.KernelRfl
namespace Go.Proofs.Ytocnokalokbgpaa.Pure

theorem same_FnExactFallsFrom : Go.Proofs.Ytocnokalokbgpaa.PFnExactFallsFrom.laws_FnExactFallsFrom.Pure = Go.Proofs.YtocnokalokbgpaaC.laws_FnExactFallsFrom.Pure := by kernel_rfl
theorem FnExactFallsFrom : Go.Proofs.Ytocnokalokbgpaa.PFnExactFallsFrom.laws_FnExactFallsFrom.Pure := by
  rw [same_FnExactFallsFrom]
  exact Go.Proofs.YtocnokalokbgpaaC.FallsFrom_law

end Go.Proofs.Ytocnokalokbgpaa.Pure
