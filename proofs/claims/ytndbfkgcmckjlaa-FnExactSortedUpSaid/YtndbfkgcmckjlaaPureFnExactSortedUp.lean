/- FnExactSortedUp answers true at every input: the plain statement over its printed functions. No conditions. -/
import Derived.Test.YtndbfkgcmckjlaaPFnExactSortedUpx2
import Derived.Test.YtndbfkgcmckjlaaLSo
import Derived.KernelRfl
namespace Go.Proofs.Ytndbfkgcmckjlaa.Pure

theorem same_FnExactSortedUp : Go.Proofs.Ytndbfkgcmckjlaa.PFnExactSortedUp.laws_FnExactSortedUp.Pure = Go.Proofs.YtndbfkgcmckjlaaC.laws_FnExactSortedUp.Pure := by kernel_rfl
theorem FnExactSortedUp : Go.Proofs.Ytndbfkgcmckjlaa.PFnExactSortedUp.laws_FnExactSortedUp.Pure := by
  rw [same_FnExactSortedUp]
  exact Go.Proofs.YtndbfkgcmckjlaaC.SortedUp_law

end Go.Proofs.Ytndbfkgcmckjlaa.Pure
