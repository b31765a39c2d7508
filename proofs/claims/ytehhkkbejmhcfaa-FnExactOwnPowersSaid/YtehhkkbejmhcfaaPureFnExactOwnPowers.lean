/- FnExactOwnPowers answers true at every input: the plain statement over its printed functions. No conditions. -/
import Derived.Test.YtehhkkbejmhcfaaPFnExactOwnPowersx5
import Derived.Test.YtehhkkbejmhcfaaLOw
import Derived.KernelRfl
namespace Go.Proofs.Ytehhkkbejmhcfaa.Pure

theorem same_FnExactOwnPowers : Go.Proofs.Ytehhkkbejmhcfaa.PFnExactOwnPowers.laws_FnExactOwnPowers.Pure = Go.Proofs.YtehhkkbejmhcfaaC.laws_FnExactOwnPowers.Pure := by kernel_rfl
theorem FnExactOwnPowers : Go.Proofs.Ytehhkkbejmhcfaa.PFnExactOwnPowers.laws_FnExactOwnPowers.Pure := by
  rw [same_FnExactOwnPowers]
  exact Go.Proofs.YtehhkkbejmhcfaaC.OwnPowers_law

end Go.Proofs.Ytehhkkbejmhcfaa.Pure
