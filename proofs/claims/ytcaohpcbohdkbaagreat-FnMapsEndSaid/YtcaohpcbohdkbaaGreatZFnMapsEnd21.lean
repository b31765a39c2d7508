/- Plain texts of FnMapsEnd, merged by a program: what Go functions compute, lemmas of the walk, and proofs. No conditions. -/
import Derived.KernelRfl
import Derived.Test.YtcaohpcbohdkbaaGreatZFnMapsEnd6
import Derived.Test.YtcaohpcbohdkbaaGreatZFnMapsEnd20
section
namespace Go.Proofs.YtcaohpcbohdkbaaGreat.Pure
theorem same_FnMapsEnd : Go.Proofs.YtcaohpcbohdkbaaGreat.PFnMapsEnd.laws_FnMapsEnd.Pure = Go.Proofs.YtcaohpcbohdkbaaGreatC.laws_FnMapsEnd.Pure := by kernel_rfl
theorem FnMapsEnd : Go.Proofs.YtcaohpcbohdkbaaGreat.PFnMapsEnd.laws_FnMapsEnd.Pure := by
  rw [same_FnMapsEnd]
  exact Go.Proofs.YtcaohpcbohdkbaaGreatC.FnMapsEnd_law
end Go.Proofs.YtcaohpcbohdkbaaGreat.Pure
end
