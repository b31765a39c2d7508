/- FnExactComposeMaps answers true at every input: the plain statement over its printed functions. No conditions. -/
import Derived.Test.YtgjdoeljmnomcaaPFnExactComposeMapsx3
import Derived.Test.YtgjdoeljmnomcaaLMp
import Derived.KernelRfl
namespace Go.Proofs.Ytgjdoeljmnomcaa.Pure

theorem same_FnExactComposeMaps : Go.Proofs.Ytgjdoeljmnomcaa.PFnExactComposeMaps.laws_FnExactComposeMaps.Pure = Go.Proofs.YtgjdoeljmnomcaaC.laws_FnExactComposeMaps.Pure := by kernel_rfl
theorem FnExactComposeMaps : Go.Proofs.Ytgjdoeljmnomcaa.PFnExactComposeMaps.laws_FnExactComposeMaps.Pure := by
  rw [same_FnExactComposeMaps]
  exact Go.Proofs.YtgjdoeljmnomcaaC.ComposeMaps_law

end Go.Proofs.Ytgjdoeljmnomcaa.Pure
