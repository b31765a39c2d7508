/- FnExactCyclesOfPowers answers true at every input: the plain statement over its printed functions. No conditions. -/
import Derived.Test.YtehhkkbejmhcfaaPFnExactCyclesOfPowersx7
import Derived.Test.YtehhkkbejmhcfaaLCp
import Derived.KernelRfl
namespace Go.Proofs.Ytehhkkbejmhcfaa.Pure

theorem same_FnExactCyclesOfPowers : Go.Proofs.Ytehhkkbejmhcfaa.PFnExactCyclesOfPowers.laws_FnExactCyclesOfPowers.Pure = Go.Proofs.YtehhkkbejmhcfaaC.laws_FnExactCyclesOfPowers.Pure := by kernel_rfl
theorem FnExactCyclesOfPowers : Go.Proofs.Ytehhkkbejmhcfaa.PFnExactCyclesOfPowers.laws_FnExactCyclesOfPowers.Pure := by
  rw [same_FnExactCyclesOfPowers]
  exact Go.Proofs.YtehhkkbejmhcfaaC.CyclesOfPowers_law

end Go.Proofs.Ytehhkkbejmhcfaa.Pure
