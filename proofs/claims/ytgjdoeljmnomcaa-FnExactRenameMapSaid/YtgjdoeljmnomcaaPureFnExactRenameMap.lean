/- FnExactRenameMap answers true at every input: the plain statement over its printed functions. No conditions. -/
import Derived.Test.YtgjdoeljmnomcaaPFnExactRenameMapx5
import Derived.Test.YtgjdoeljmnomcaaLMs
import Derived.KernelRfl
namespace Go.Proofs.Ytgjdoeljmnomcaa.Pure

theorem same_FnExactRenameMap : Go.Proofs.Ytgjdoeljmnomcaa.PFnExactRenameMap.laws_FnExactRenameMap.Pure = Go.Proofs.YtgjdoeljmnomcaaC.laws_FnExactRenameMap.Pure := by kernel_rfl
theorem FnExactRenameMap : Go.Proofs.Ytgjdoeljmnomcaa.PFnExactRenameMap.laws_FnExactRenameMap.Pure := by
  rw [same_FnExactRenameMap]
  exact Go.Proofs.YtgjdoeljmnomcaaC.RenameMap_law

end Go.Proofs.Ytgjdoeljmnomcaa.Pure
