/- FnExactCountRearranged answers true at every input: the plain statement over its printed functions. No conditions. -/
import Derived.Test.YtndbfkgcmckjlaaPFnExactCountRearrangedx2
import Derived.Test.YtndbfkgcmckjlaaLCr
import Derived.KernelRfl
namespace Go.Proofs.Ytndbfkgcmckjlaa.Pure

theorem same_FnExactCountRearranged : Go.Proofs.Ytndbfkgcmckjlaa.PFnExactCountRearranged.laws_FnExactCountRearranged.Pure = Go.Proofs.YtndbfkgcmckjlaaC.laws_FnExactCountRearranged.Pure := by kernel_rfl
theorem FnExactCountRearranged : Go.Proofs.Ytndbfkgcmckjlaa.PFnExactCountRearranged.laws_FnExactCountRearranged.Pure := by
  rw [same_FnExactCountRearranged]
  exact Go.Proofs.YtndbfkgcmckjlaaC.CountRearranged_law

end Go.Proofs.Ytndbfkgcmckjlaa.Pure
