/- The Go functions that a law reaches, each with a Lean function of the same answers and its contract; no condition but that this function answers. Written by this session's program (over the kit's printer); Lean checks it. -/
import Derived.Test.YtbbjedpbmofmkaaEx0
import Derived.Test.YtbbjedpbmofmkaaEx1
import Derived.Test.YtbbjedpbmofmkaaEx2
import Derived.Test.YtbbjedpbmofmkaaEx3
import Derived.Test.YtbbjedpbmofmkaaEx4
import Derived.Test.YtbbjedpbmofmkaaEx5
import Derived.Test.YtbbjedpbmofmkaaEx6
import Derived.Test.YtbbjedpbmofmkaaEx7
import Derived.Test.YtbbjedpbmofmkaaEx8
namespace Go.Proofs.Ytbbjedpbmofmkaa.E
open Go.RowKit Go.Proofs.YtbbjedpbmofmkaaW.PrintWords Go.Proofs.YtbbjedpbmofmkaaW.PrintLast Go.Proofs.YtbbjedpbmofmkaaW.PrintMore
attribute [local go_sem] max2_int min2_int max_two min_two max_three min_three max_four min_four   -- for this text's walks alone
set_option linter.unusedVariables false
set_option linter.unusedSimpArgs false

end Go.Proofs.Ytbbjedpbmofmkaa.E
