/- FnExactParseNumber answers true at every input: the plain statement over its printed functions. No conditions. -/
import Derived.Test.YtndbfkgcmckjlaaPFnExactParseNumberx2
import Derived.Test.YtndbfkgcmckjlaaLPn
import Derived.KernelRfl
namespace Go.Proofs.Ytndbfkgcmckjlaa.Pure

theorem same_FnExactParseNumber : Go.Proofs.Ytndbfkgcmckjlaa.PFnExactParseNumber.laws_FnExactParseNumber.Pure = Go.Proofs.YtndbfkgcmckjlaaC.laws_FnExactParseNumber.Pure := by kernel_rfl
theorem FnExactParseNumber : Go.Proofs.Ytndbfkgcmckjlaa.PFnExactParseNumber.laws_FnExactParseNumber.Pure := by
  rw [same_FnExactParseNumber]
  exact Go.Proofs.YtndbfkgcmckjlaaC.ParseNumber_law

end Go.Proofs.Ytndbfkgcmckjlaa.Pure
