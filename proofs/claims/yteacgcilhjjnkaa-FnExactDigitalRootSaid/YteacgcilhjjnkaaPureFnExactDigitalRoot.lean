/- FnExactDigitalRoot answers true at every input: the plain statement over its printed functions. No conditions. -/
import Derived.Test.YteacgcilhjjnkaaPFnExactDigitalRootx2
import Derived.Test.YteacgcilhjjnkaaLDg2
import Derived.KernelRfl
namespace Go.Proofs.Yteacgcilhjjnkaa.Pure

theorem same_FnExactDigitalRoot : Go.Proofs.Yteacgcilhjjnkaa.PFnExactDigitalRoot.laws_FnExactDigitalRoot.Pure = Go.Proofs.YteacgcilhjjnkaaC.laws_FnExactDigitalRoot.Pure := by kernel_rfl
theorem FnExactDigitalRoot : Go.Proofs.Yteacgcilhjjnkaa.PFnExactDigitalRoot.laws_FnExactDigitalRoot.Pure := by
  rw [same_FnExactDigitalRoot]
  exact Go.Proofs.YteacgcilhjjnkaaC.DigitalRoot_law

end Go.Proofs.Yteacgcilhjjnkaa.Pure
