/- FnExactStepByGaps answers true at every input: the plain statement over its printed functions. No conditions. -/
import Derived.Test.YtndbfkgcmckjlaaPFnExactStepByGapsx5
import Derived.Test.YtndbfkgcmckjlaaLGs
import Derived.KernelRfl
namespace Go.Proofs.Ytndbfkgcmckjlaa.Pure

theorem same_FnExactStepByGaps : Go.Proofs.Ytndbfkgcmckjlaa.PFnExactStepByGaps.laws_FnExactStepByGaps.Pure = Go.Proofs.YtndbfkgcmckjlaaC.laws_FnExactStepByGaps.Pure := by kernel_rfl
theorem FnExactStepByGaps : Go.Proofs.Ytndbfkgcmckjlaa.PFnExactStepByGaps.laws_FnExactStepByGaps.Pure := by
  rw [same_FnExactStepByGaps]
  exact Go.Proofs.YtndbfkgcmckjlaaC.StepByGaps_law

end Go.Proofs.Ytndbfkgcmckjlaa.Pure
