/- FnExactDigitCounts answers true at every input: the plain statement over its printed functions. No conditions. -/
import Derived.Test.YteacgcilhjjnkaaPFnExactDigitCountsx3
import Derived.Test.YteacgcilhjjnkaaLDg2
import Derived.KernelRfl
namespace Go.Proofs.Yteacgcilhjjnkaa.Pure

theorem same_FnExactDigitCounts : Go.Proofs.Yteacgcilhjjnkaa.PFnExactDigitCounts.laws_FnExactDigitCounts.Pure = Go.Proofs.YteacgcilhjjnkaaC.laws_FnExactDigitCounts.Pure := by kernel_rfl
theorem FnExactDigitCounts : Go.Proofs.Yteacgcilhjjnkaa.PFnExactDigitCounts.laws_FnExactDigitCounts.Pure := by
  rw [same_FnExactDigitCounts]
  exact Go.Proofs.YteacgcilhjjnkaaC.DigitCounts_law

end Go.Proofs.Yteacgcilhjjnkaa.Pure
