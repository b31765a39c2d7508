/- FnExactNarcissistic answers true at every input: the plain statement over its printed functions. No conditions. -/
import Derived.Test.YtehhkkbejmhcfaaPFnExactNarcissisticx5
import Derived.Test.YtehhkkbejmhcfaaLOw
import Derived.KernelRfl
namespace Go.Proofs.Ytehhkkbejmhcfaa.Pure

theorem same_FnExactNarcissistic : Go.Proofs.Ytehhkkbejmhcfaa.PFnExactNarcissistic.laws_FnExactNarcissistic.Pure = Go.Proofs.YtehhkkbejmhcfaaC.laws_FnExactNarcissistic.Pure := by kernel_rfl
theorem FnExactNarcissistic : Go.Proofs.Ytehhkkbejmhcfaa.PFnExactNarcissistic.laws_FnExactNarcissistic.Pure := by
  rw [same_FnExactNarcissistic]
  exact Go.Proofs.YtehhkkbejmhcfaaC.Narcissistic_law

end Go.Proofs.Ytehhkkbejmhcfaa.Pure
