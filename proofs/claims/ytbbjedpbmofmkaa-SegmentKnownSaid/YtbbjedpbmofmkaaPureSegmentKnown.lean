/- SegmentKnown: the closed statement over the loops of the law answers true: each law that it calls does. -/
import Derived.Test.YtbbjedpbmofmkaaPlainF
namespace Go.Proofs.Ytbbjedpbmofmkaa.Pure
open Go.RowKit Go.Proofs.Ytbbjedpbmofmkaa.E Go.Proofs.YtbbjedpbmofmkaaW.PrintWords Go.Proofs.YtbbjedpbmofmkaaW.PrintLast
theorem SegmentKnown : octroilaw16_SegmentKnown.Pure := ⟨1000000, known_l0 3 1000000 2 (by decide) (by decide) (by decide)⟩
end Go.Proofs.Ytbbjedpbmofmkaa.Pure
