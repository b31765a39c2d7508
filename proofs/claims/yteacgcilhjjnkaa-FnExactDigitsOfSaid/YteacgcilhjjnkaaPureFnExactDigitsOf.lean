/- FnExactDigitsOf answers true at every input: the plain statement over its printed functions. No conditions. -/
import Derived.Test.YteacgcilhjjnkaaPFnExactDigitsOfx2
import Derived.Test.YteacgcilhjjnkaaLDg2
import Derived.KernelRfl
namespace Go.Proofs.Yteacgcilhjjnkaa.Pure

theorem same_FnExactDigitsOf : Go.Proofs.Yteacgcilhjjnkaa.PFnExactDigitsOf.laws_FnExactDigitsOf.Pure = Go.Proofs.YteacgcilhjjnkaaC.laws_FnExactDigitsOf.Pure := by kernel_rfl
theorem FnExactDigitsOf : Go.Proofs.Yteacgcilhjjnkaa.PFnExactDigitsOf.laws_FnExactDigitsOf.Pure := by
  rw [same_FnExactDigitsOf]
  exact Go.Proofs.YteacgcilhjjnkaaC.DigitsOf_law

end Go.Proofs.Yteacgcilhjjnkaa.Pure
