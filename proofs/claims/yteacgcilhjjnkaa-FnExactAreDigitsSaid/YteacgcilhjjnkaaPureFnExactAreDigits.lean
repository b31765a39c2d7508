/- FnExactAreDigits answers true at every input: the plain statement over its printed functions. No conditions. -/
import Derived.Test.YteacgcilhjjnkaaPFnExactAreDigitsx2
import Derived.Test.YteacgcilhjjnkaaLD3
import Derived.KernelRfl
namespace Go.Proofs.Yteacgcilhjjnkaa.Pure

theorem same_FnExactAreDigits : Go.Proofs.Yteacgcilhjjnkaa.PFnExactAreDigits.laws_FnExactAreDigits.Pure = Go.Proofs.YteacgcilhjjnkaaC.laws_FnExactAreDigits.Pure := by kernel_rfl
theorem FnExactAreDigits : Go.Proofs.Yteacgcilhjjnkaa.PFnExactAreDigits.laws_FnExactAreDigits.Pure := by
  rw [same_FnExactAreDigits]
  exact Go.Proofs.YteacgcilhjjnkaaC.AreDigits_law

end Go.Proofs.Yteacgcilhjjnkaa.Pure
