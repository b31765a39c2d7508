/- FnExactImagesOf answers true at every input: the plain statement over its printed functions. No conditions. -/
import Derived.Test.YtcaohpcbohdkbaaPFnExactImagesOfx5
import Derived.Test.YtcaohpcbohdkbaaLIm
import Derived.KernelRfl
namespace Go.Proofs.Ytcaohpcbohdkbaa.Pure

theorem same_FnExactImagesOf : Go.Proofs.Ytcaohpcbohdkbaa.PFnExactImagesOf.laws_FnExactImagesOf.Pure = Go.Proofs.YtcaohpcbohdkbaaC.laws_FnExactImagesOf.Pure := by kernel_rfl
theorem FnExactImagesOf : Go.Proofs.Ytcaohpcbohdkbaa.PFnExactImagesOf.laws_FnExactImagesOf.Pure := by
  rw [same_FnExactImagesOf]
  exact Go.Proofs.YtcaohpcbohdkbaaC.ImagesOf_law

end Go.Proofs.Ytcaohpcbohdkbaa.Pure
