/- FnExactCountDigits answers true at every input: the plain statement over its printed functions. No conditions. -/
import Derived.Test.YteacgcilhjjnkaaPFnExactCountDigitsx2
import Derived.Test.YteacgcilhjjnkaaLDg
import Derived.KernelRfl
namespace Go.Proofs.Yteacgcilhjjnkaa.Pure

theorem same_FnExactCountDigits : Go.Proofs.Yteacgcilhjjnkaa.PFnExactCountDigits.laws_FnExactCountDigits.Pure = Go.Proofs.YteacgcilhjjnkaaC.laws_FnExactCountDigits.Pure := by kernel_rfl
theorem FnExactCountDigits : Go.Proofs.Yteacgcilhjjnkaa.PFnExactCountDigits.laws_FnExactCountDigits.Pure := by
  rw [same_FnExactCountDigits]
  exact Go.Proofs.YteacgcilhjjnkaaC.CountDigits_law

end Go.Proofs.Yteacgcilhjjnkaa.Pure
