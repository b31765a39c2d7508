/- FnExactValueOf answers true at every input: the plain statement over its printed functions. No conditions. -/
import Derived.Test.YtndbfkgcmckjlaaPFnExactValueOfx2
import Derived.Test.YtndbfkgcmckjlaaLGp
import Derived.KernelRfl
namespace Go.Proofs.Ytndbfkgcmckjlaa.Pure

theorem same_FnExactValueOf : Go.Proofs.Ytndbfkgcmckjlaa.PFnExactValueOf.laws_FnExactValueOf.Pure = Go.Proofs.YtndbfkgcmckjlaaC.laws_FnExactValueOf.Pure := by kernel_rfl
theorem FnExactValueOf : Go.Proofs.Ytndbfkgcmckjlaa.PFnExactValueOf.laws_FnExactValueOf.Pure := by
  rw [same_FnExactValueOf]
  exact Go.Proofs.YtndbfkgcmckjlaaC.ValueOf_law

end Go.Proofs.Ytndbfkgcmckjlaa.Pure
