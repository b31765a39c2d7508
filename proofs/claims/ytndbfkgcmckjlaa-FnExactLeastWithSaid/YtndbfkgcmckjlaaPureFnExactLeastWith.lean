/- FnExactLeastWith answers true at every input: the plain statement over its printed functions. No conditions. -/
import Derived.Test.YtndbfkgcmckjlaaPFnExactLeastWithx5
import Derived.Test.YtndbfkgcmckjlaaLLs
import Derived.KernelRfl
namespace Go.Proofs.Ytndbfkgcmckjlaa.Pure

theorem same_FnExactLeastWith : Go.Proofs.Ytndbfkgcmckjlaa.PFnExactLeastWith.laws_FnExactLeastWith.Pure = Go.Proofs.YtndbfkgcmckjlaaC.laws_FnExactLeastWith.Pure := by kernel_rfl
theorem FnExactLeastWith : Go.Proofs.Ytndbfkgcmckjlaa.PFnExactLeastWith.laws_FnExactLeastWith.Pure := by
  rw [same_FnExactLeastWith]
  exact Go.Proofs.YtndbfkgcmckjlaaC.LeastWith_law

end Go.Proofs.Ytndbfkgcmckjlaa.Pure
