/- FnExactSortedDown answers true at every input: the plain statement over its printed functions. No conditions. -/
import Derived.Test.YtndbfkgcmckjlaaPFnExactSortedDownx3
import Derived.Test.YtndbfkgcmckjlaaLSd
import Derived.KernelRfl
namespace Go.Proofs.Ytndbfkgcmckjlaa.Pure

theorem same_FnExactSortedDown : Go.Proofs.Ytndbfkgcmckjlaa.PFnExactSortedDown.laws_FnExactSortedDown.Pure = Go.Proofs.YtndbfkgcmckjlaaC.laws_FnExactSortedDown.Pure := by kernel_rfl
theorem FnExactSortedDown : Go.Proofs.Ytndbfkgcmckjlaa.PFnExactSortedDown.laws_FnExactSortedDown.Pure := by
  rw [same_FnExactSortedDown]
  exact Go.Proofs.YtndbfkgcmckjlaaC.SortedDown_law

end Go.Proofs.Ytndbfkgcmckjlaa.Pure
