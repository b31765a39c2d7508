/- FnExactNumberText answers true at every input: the plain statement over its printed functions. No conditions. -/
import Derived.Test.YteacgcilhjjnkaaPFnExactNumberTextx2
import Derived.Test.YteacgcilhjjnkaaLDg2
import Derived.KernelRfl
namespace Go.Proofs.Yteacgcilhjjnkaa.Pure

theorem same_FnExactNumberText : Go.Proofs.Yteacgcilhjjnkaa.PFnExactNumberText.laws_FnExactNumberText.Pure = Go.Proofs.YteacgcilhjjnkaaC.laws_FnExactNumberText.Pure := by kernel_rfl
theorem FnExactNumberText : Go.Proofs.Yteacgcilhjjnkaa.PFnExactNumberText.laws_FnExactNumberText.Pure := by
  rw [same_FnExactNumberText]
  exact Go.Proofs.YteacgcilhjjnkaaC.NumberText_law

end Go.Proofs.Yteacgcilhjjnkaa.Pure
