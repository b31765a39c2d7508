/- FnExactAreMapsAlike answers true at every input: the plain statement over its printed functions. No conditions. -/
import Derived.Test.YtcaohpcbohdkbaaPFnExactAreMapsAlikex9
import Derived.Test.YtcaohpcbohdkbaaLAl
import Derived.KernelRfl
namespace Go.Proofs.Ytcaohpcbohdkbaa.Pure

theorem same_FnExactAreMapsAlike : Go.Proofs.Ytcaohpcbohdkbaa.PFnExactAreMapsAlike.laws_FnExactAreMapsAlike.Pure = Go.Proofs.YtcaohpcbohdkbaaC.laws_FnExactAreMapsAlike.Pure := by kernel_rfl
theorem FnExactAreMapsAlike : Go.Proofs.Ytcaohpcbohdkbaa.PFnExactAreMapsAlike.laws_FnExactAreMapsAlike.Pure := by
  rw [same_FnExactAreMapsAlike]
  exact Go.Proofs.YtcaohpcbohdkbaaC.AreMapsAlike_law

end Go.Proofs.Ytcaohpcbohdkbaa.Pure
