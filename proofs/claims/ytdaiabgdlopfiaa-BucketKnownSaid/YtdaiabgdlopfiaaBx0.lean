/- The Go functions that a law reaches, each with a Lean function of the same answers and its contract; no condition but that this function answers. Written by this session's program (over the kit's printer); Lean checks it. -/
import Derived.Test.YtdaiabgdlopfiaaProg
import Derived.Below
import Derived.Deep.Draws
import Derived.Deep.AppendLies
import Derived.Maps.AppendAt
import Derived.OwnWalk
import Derived.Laws.BytesArg
import Derived.Laws.MakeOwn
import Derived.Laws.OwnMore
import Derived.Deep.OwnRows
import Derived.Tactics
import Derived.Lib.ConvBytes
import Derived.Laws.Slices
import Derived.WalkKit
import Derived.KernelRfl
import Derived.RowKit3
import Derived.Deep.LoopGhost
import Derived.Deep.QuietTactic
import Derived.BigQuiet
import Derived.WideLaws
import Derived.Deep.DeepCutAuto
import Derived.Deep.CutBlock
import Derived.Deep.RegionHeld3
import Derived.Laws.Rows
import Derived.Lib.AppendStr
import Derived.ArgAppend
import Derived.Laws.IdiomCopy
import Derived.OrdersHeld
import Derived.Laws.BitsLemmas
import Derived.RowKit
import Derived.Test.YtdaiabgdlopfiaaWWords
import Derived.Test.YtdaiabgdlopfiaaWLast
import Derived.Test.YtdaiabgdlopfiaaWTab
import Derived.Test.YtdaiabgdlopfiaaWFour
import Derived.Test.YtdaiabgdlopfiaaWQPut
import Derived.Test.YtdaiabgdlopfiaaWApart
import Derived.Test.YtdaiabgdlopfiaaWArr
import Derived.Test.YtdaiabgdlopfiaaWZeros
import Derived.Test.YtdaiabgdlopfiaaWFoot
import Derived.Test.YtdaiabgdlopfiaaWKept
import Derived.Test.YtdaiabgdlopfiaaWShare
import Derived.Test.YtdaiabgdlopfiaaWN
import Derived.Test.YtdaiabgdlopfiaaWFootNe
import Derived.Test.YtdaiabgdlopfiaaWAt
import Derived.Test.YtdaiabgdlopfiaaWEqStruct
import Derived.Test.YtdaiabgdlopfiaaWRepsOne
import Derived.Test.YtdaiabgdlopfiaaWInv
import Derived.Test.YtdaiabgdlopfiaaWInvWords
import Derived.Test.YtdaiabgdlopfiaaWGuard
import Derived.Test.YtdaiabgdlopfiaaWNEv
import Derived.Test.YtdaiabgdlopfiaaWMore
namespace Go.Proofs.Ytdaiabgdlopfiaa.B
open Go.RowKit Go.Proofs.YtdaiabgdlopfiaaW.PrintWords Go.Proofs.YtdaiabgdlopfiaaW.PrintLast Go.Proofs.YtdaiabgdlopfiaaW.PrintMore
attribute [local go_sem] max2_int min2_int max_two min_two max_three min_three max_four min_four   -- for this text's walks alone
set_option linter.unusedVariables false
set_option linter.unusedSimpArgs false



def errW : Option Int → Value
  | none => .nilIface
  | some c => .iface 0 (.int .i64 c)
theorem errW_none : errW none = .nilIface := rfl
theorem errW_some (c : Int) : errW (some c) = .iface 0 (.int .i64 c) := rfl

-- the values' own types

end Go.Proofs.Ytdaiabgdlopfiaa.B
