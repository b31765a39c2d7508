/- FnExactSameDigits answers true at every input: the plain statement over its printed functions. No conditions. -/
import Derived.Test.YtndbfkgcmckjlaaPFnExactSameDigitsx2
import Derived.Test.YtndbfkgcmckjlaaLSm
import Derived.KernelRfl
namespace Go.Proofs.Ytndbfkgcmckjlaa.Pure

theorem same_FnExactSameDigits : Go.Proofs.Ytndbfkgcmckjlaa.PFnExactSameDigits.laws_FnExactSameDigits.Pure = Go.Proofs.YtndbfkgcmckjlaaC.laws_FnExactSameDigits.Pure := by kernel_rfl
theorem FnExactSameDigits : Go.Proofs.Ytndbfkgcmckjlaa.PFnExactSameDigits.laws_FnExactSameDigits.Pure := by
  rw [same_FnExactSameDigits]
  exact Go.Proofs.YtndbfkgcmckjlaaC.SameDigits_law

end Go.Proofs.Ytndbfkgcmckjlaa.Pure
