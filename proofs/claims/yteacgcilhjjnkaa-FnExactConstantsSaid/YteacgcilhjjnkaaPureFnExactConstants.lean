/- FnExactConstants answers true at every input: the plain statement over its printed functions. No conditions. -/
import Derived.Test.YteacgcilhjjnkaaPFnExactConstantsx1
import Derived.Test.YteacgcilhjjnkaaLDg2
import Derived.KernelRfl
namespace Go.Proofs.Yteacgcilhjjnkaa.Pure

theorem same_FnExactConstants : Go.Proofs.Yteacgcilhjjnkaa.PFnExactConstants.laws_FnExactConstants.Pure = Go.Proofs.YteacgcilhjjnkaaC.laws_FnExactConstants.Pure := by kernel_rfl
theorem FnExactConstants : Go.Proofs.Yteacgcilhjjnkaa.PFnExactConstants.laws_FnExactConstants.Pure := by
  rw [same_FnExactConstants]
  exact Go.Proofs.YteacgcilhjjnkaaC.Constants_law

end Go.Proofs.Yteacgcilhjjnkaa.Pure
