/- FnExactDigitProduct answers true at every input: the plain statement over its printed functions. No conditions. -/
import Derived.Test.YteacgcilhjjnkaaPFnExactDigitProductx2
import Derived.Test.YteacgcilhjjnkaaLDg
import Derived.KernelRfl
namespace Go.Proofs.Yteacgcilhjjnkaa.Pure

theorem same_FnExactDigitProduct : Go.Proofs.Yteacgcilhjjnkaa.PFnExactDigitProduct.laws_FnExactDigitProduct.Pure = Go.Proofs.YteacgcilhjjnkaaC.laws_FnExactDigitProduct.Pure := by kernel_rfl
theorem FnExactDigitProduct : Go.Proofs.Yteacgcilhjjnkaa.PFnExactDigitProduct.laws_FnExactDigitProduct.Pure := by
  rw [same_FnExactDigitProduct]
  exact Go.Proofs.YteacgcilhjjnkaaC.DigitProduct_law

end Go.Proofs.Yteacgcilhjjnkaa.Pure
