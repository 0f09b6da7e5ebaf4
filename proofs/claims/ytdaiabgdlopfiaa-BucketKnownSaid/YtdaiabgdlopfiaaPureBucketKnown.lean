/- BucketKnown: the one pure statement that its row asks for; no condition. -/
import Derived.Test.YtdaiabgdlopfiaaKk
namespace Go.Proofs.Ytdaiabgdlopfiaa.Pure
open Go.Proofs.Ytdaiabgdlopfiaa.K
theorem BucketKnown : octroilaw10_BucketKnown.Pure := known_law
end Go.Proofs.Ytdaiabgdlopfiaa.Pure
