/- FnExactDigitSum answers true at every input: the plain statement over its printed functions. No conditions. -/
import Derived.Test.YteacgcilhjjnkaaPFnExactDigitSumx2
import Derived.Test.YteacgcilhjjnkaaLDg
import Derived.KernelRfl
namespace Go.Proofs.Yteacgcilhjjnkaa.Pure

theorem same_FnExactDigitSum : Go.Proofs.Yteacgcilhjjnkaa.PFnExactDigitSum.laws_FnExactDigitSum.Pure = Go.Proofs.YteacgcilhjjnkaaC.laws_FnExactDigitSum.Pure := by kernel_rfl
theorem FnExactDigitSum : Go.Proofs.Yteacgcilhjjnkaa.PFnExactDigitSum.laws_FnExactDigitSum.Pure := by
  rw [same_FnExactDigitSum]
  exact Go.Proofs.YteacgcilhjjnkaaC.DigitSum_law

end Go.Proofs.Yteacgcilhjjnkaa.Pure
