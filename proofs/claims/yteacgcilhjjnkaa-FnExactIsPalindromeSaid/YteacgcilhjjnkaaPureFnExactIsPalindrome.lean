/- FnExactIsPalindrome answers true at every input: the plain statement over its printed functions. No conditions. -/
import Derived.Test.YteacgcilhjjnkaaPFnExactIsPalindromex2
import Derived.Test.YteacgcilhjjnkaaLD3
import Derived.KernelRfl
namespace Go.Proofs.Yteacgcilhjjnkaa.Pure

theorem same_FnExactIsPalindrome : Go.Proofs.Yteacgcilhjjnkaa.PFnExactIsPalindrome.laws_FnExactIsPalindrome.Pure = Go.Proofs.YteacgcilhjjnkaaC.laws_FnExactIsPalindrome.Pure := by kernel_rfl
theorem FnExactIsPalindrome : Go.Proofs.Yteacgcilhjjnkaa.PFnExactIsPalindrome.laws_FnExactIsPalindrome.Pure := by
  rw [same_FnExactIsPalindrome]
  exact Go.Proofs.YteacgcilhjjnkaaC.IsPalindrome_law

end Go.Proofs.Yteacgcilhjjnkaa.Pure
