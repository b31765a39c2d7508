/- FnExactWordOf answers true at every input: the plain statement over its printed functions. No conditions. -/
import Derived.Test.YtndbfkgcmckjlaaPFnExactWordOfx3
import Derived.Test.YtndbfkgcmckjlaaLGp
import Derived.KernelRfl
namespace Go.Proofs.Ytndbfkgcmckjlaa.Pure

theorem same_FnExactWordOf : Go.Proofs.Ytndbfkgcmckjlaa.PFnExactWordOf.laws_FnExactWordOf.Pure = Go.Proofs.YtndbfkgcmckjlaaC.laws_FnExactWordOf.Pure := by kernel_rfl
theorem FnExactWordOf : Go.Proofs.Ytndbfkgcmckjlaa.PFnExactWordOf.laws_FnExactWordOf.Pure := by
  rw [same_FnExactWordOf]
  exact Go.Proofs.YtndbfkgcmckjlaaC.WordOf_law

end Go.Proofs.Ytndbfkgcmckjlaa.Pure
