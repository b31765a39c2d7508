/- FnExactNumberOf answers true at every input: the plain statement over its printed functions. No conditions. -/
import Derived.Test.YteacgcilhjjnkaaPFnExactNumberOfx2
import Derived.Test.YteacgcilhjjnkaaLD3
import Derived.KernelRfl
namespace Go.Proofs.Yteacgcilhjjnkaa.Pure

theorem same_FnExactNumberOf : Go.Proofs.Yteacgcilhjjnkaa.PFnExactNumberOf.laws_FnExactNumberOf.Pure = Go.Proofs.YteacgcilhjjnkaaC.laws_FnExactNumberOf.Pure := by kernel_rfl
theorem FnExactNumberOf : Go.Proofs.Yteacgcilhjjnkaa.PFnExactNumberOf.laws_FnExactNumberOf.Pure := by
  rw [same_FnExactNumberOf]
  exact Go.Proofs.YteacgcilhjjnkaaC.NumberOf_law

end Go.Proofs.Yteacgcilhjjnkaa.Pure
