/- FnExactNextPalindrome answers true at every input: the plain statement over its printed functions. No conditions. -/
import Derived.Test.YtndbfkgcmckjlaaPFnExactNextPalindromex3
import Derived.Test.YtndbfkgcmckjlaaLNr
import Derived.KernelRfl
namespace Go.Proofs.Ytndbfkgcmckjlaa.Pure

theorem same_FnExactNextPalindrome : Go.Proofs.Ytndbfkgcmckjlaa.PFnExactNextPalindrome.laws_FnExactNextPalindrome.Pure = Go.Proofs.YtndbfkgcmckjlaaC.laws_FnExactNextPalindrome.Pure := by kernel_rfl
theorem FnExactNextPalindrome : Go.Proofs.Ytndbfkgcmckjlaa.PFnExactNextPalindrome.laws_FnExactNextPalindrome.Pure := by
  rw [same_FnExactNextPalindrome]
  exact Go.Proofs.YtndbfkgcmckjlaaC.NextPalindrome_law

end Go.Proofs.Ytndbfkgcmckjlaa.Pure
