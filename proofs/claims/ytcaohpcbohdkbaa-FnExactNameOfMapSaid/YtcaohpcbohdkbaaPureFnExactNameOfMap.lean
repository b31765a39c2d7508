/- FnExactNameOfMap answers true at every input: the plain statement over its printed functions. No conditions. -/
import Derived.Test.YtcaohpcbohdkbaaPFnExactNameOfMapx9
import Derived.Test.YtcaohpcbohdkbaaLNa
import Derived.KernelRfl
namespace Go.Proofs.Ytcaohpcbohdkbaa.Pure

theorem same_FnExactNameOfMap : Go.Proofs.Ytcaohpcbohdkbaa.PFnExactNameOfMap.laws_FnExactNameOfMap.Pure = Go.Proofs.YtcaohpcbohdkbaaC.laws_FnExactNameOfMap.Pure := by kernel_rfl
theorem FnExactNameOfMap : Go.Proofs.Ytcaohpcbohdkbaa.PFnExactNameOfMap.laws_FnExactNameOfMap.Pure := by
  rw [same_FnExactNameOfMap]
  exact Go.Proofs.YtcaohpcbohdkbaaC.NameOfMap_law

end Go.Proofs.Ytcaohpcbohdkbaa.Pure
