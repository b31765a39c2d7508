/- Plain texts of FnCyclesOfPowers, merged by a program: what Go functions compute, lemmas of the walk, and proofs. No conditions. -/
import Derived.KernelRfl
import Derived.Test.YtehhkkbejmhcfaaZFnCyclesOfPowers5
import Derived.Test.YtehhkkbejmhcfaaZFnCyclesOfPowers16
section
namespace Go.Proofs.Ytehhkkbejmhcfaa.Pure
theorem same_FnCyclesOfPowers : Go.Proofs.Ytehhkkbejmhcfaa.PFnCyclesOfPowers.laws_FnCyclesOfPowers.Pure = Go.Proofs.YtehhkkbejmhcfaaC.laws_FnCyclesOfPowers.Pure := by kernel_rfl
theorem FnCyclesOfPowers : Go.Proofs.Ytehhkkbejmhcfaa.PFnCyclesOfPowers.laws_FnCyclesOfPowers.Pure := by
  rw [same_FnCyclesOfPowers]
  exact Go.Proofs.YtehhkkbejmhcfaaC.FnCyclesOfPowers_law
end Go.Proofs.Ytehhkkbejmhcfaa.Pure
end
