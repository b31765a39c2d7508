/- Plain texts of FnOwnPowers, merged by a program: what Go functions compute, lemmas of the walk, and proofs. No conditions. -/
import Derived.KernelRfl
import Derived.Test.YtehhkkbejmhcfaaZFnOwnPowers5
import Derived.Test.YtehhkkbejmhcfaaZFnOwnPowers14
section
namespace Go.Proofs.Ytehhkkbejmhcfaa.Pure
theorem same_FnOwnPowers : Go.Proofs.Ytehhkkbejmhcfaa.PFnOwnPowers.laws_FnOwnPowers.Pure = Go.Proofs.YtehhkkbejmhcfaaC.laws_FnOwnPowers.Pure := by kernel_rfl
theorem FnOwnPowers : Go.Proofs.Ytehhkkbejmhcfaa.PFnOwnPowers.laws_FnOwnPowers.Pure := by
  rw [same_FnOwnPowers]
  exact Go.Proofs.YtehhkkbejmhcfaaC.FnOwnPowers_law
end Go.Proofs.Ytehhkkbejmhcfaa.Pure
end
