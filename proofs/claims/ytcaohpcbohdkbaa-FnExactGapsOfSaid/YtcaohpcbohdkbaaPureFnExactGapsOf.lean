/- FnExactGapsOf answers true at every input: the plain statement over its printed functions. No conditions. -/
import Derived.Test.YtcaohpcbohdkbaaPFnExactGapsOfx4
import Derived.Test.YtcaohpcbohdkbaaLGa
import Derived.KernelRfl
namespace Go.Proofs.Ytcaohpcbohdkbaa.Pure

theorem same_FnExactGapsOf : Go.Proofs.Ytcaohpcbohdkbaa.PFnExactGapsOf.laws_FnExactGapsOf.Pure = Go.Proofs.YtcaohpcbohdkbaaC.laws_FnExactGapsOf.Pure := by kernel_rfl
theorem FnExactGapsOf : Go.Proofs.Ytcaohpcbohdkbaa.PFnExactGapsOf.laws_FnExactGapsOf.Pure := by
  rw [same_FnExactGapsOf]
  exact Go.Proofs.YtcaohpcbohdkbaaC.GapsOf_law

end Go.Proofs.Ytcaohpcbohdkbaa.Pure
