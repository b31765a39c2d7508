/- FnExactReverseNumber answers true at every input: the plain statement over its printed functions. No conditions. -/
import Derived.Test.YteacgcilhjjnkaaPFnExactReverseNumberx2
import Derived.Test.YteacgcilhjjnkaaLD3
import Derived.KernelRfl
namespace Go.Proofs.Yteacgcilhjjnkaa.Pure

theorem same_FnExactReverseNumber : Go.Proofs.Yteacgcilhjjnkaa.PFnExactReverseNumber.laws_FnExactReverseNumber.Pure = Go.Proofs.YteacgcilhjjnkaaC.laws_FnExactReverseNumber.Pure := by kernel_rfl
theorem FnExactReverseNumber : Go.Proofs.Yteacgcilhjjnkaa.PFnExactReverseNumber.laws_FnExactReverseNumber.Pure := by
  rw [same_FnExactReverseNumber]
  exact Go.Proofs.YteacgcilhjjnkaaC.ReverseNumber_law

end Go.Proofs.Yteacgcilhjjnkaa.Pure
