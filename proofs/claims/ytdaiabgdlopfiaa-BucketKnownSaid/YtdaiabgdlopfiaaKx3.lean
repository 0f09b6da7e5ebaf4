/- The Go functions that a law reaches, each with a Lean function of the same answers and its contract; no condition but that this function answers. Written by this session's program (over the kit's printer); Lean checks it. -/
import Derived.Test.YtdaiabgdlopfiaaKx0
namespace Go.Proofs.Ytdaiabgdlopfiaa.K
open Go.RowKit Go.Proofs.YtdaiabgdlopfiaaW.PrintWords Go.Proofs.YtdaiabgdlopfiaaW.PrintLast Go.Proofs.YtdaiabgdlopfiaaW.PrintMore
attribute [local go_sem] max2_int min2_int max_two min_two max_three min_three max_four min_four   -- for this text's walks alone
set_option linter.unusedVariables false
set_option linter.unusedSimpArgs false

/-! ### octroilaw10_BucketWaits: function 5 (by hand) -/
def octroilaw10_BucketWaits.f (a0 a1 a2 a3 a4 a5 : Int) : Option Bool := if Go.Proofs.Ytdaiabgdlopfiaa.B.u64B a0 = true ∧ Go.Proofs.Ytdaiabgdlopfiaa.B.u64B a1 = true ∧ Go.Proofs.Ytdaiabgdlopfiaa.B.u64B a2 = true ∧ Go.Proofs.Ytdaiabgdlopfiaa.B.u64B a3 = true ∧ Go.Proofs.Ytdaiabgdlopfiaa.B.u64B a4 = true ∧ Go.Proofs.Ytdaiabgdlopfiaa.B.u64B a5 = true then some true else none
theorem octroilaw10_BucketWaits.calls (a0 a1 a2 a3 a4 a5 : Int) (r : Bool) (w : World) (h : octroilaw10_BucketWaits.f a0 a1 a2 a3 a4 a5 = some r) :
    Calls Try.prog 5 #[.int .u64 a0, .int .u64 a1, .int .u64 a2, .int .u64 a3, .int .u64 a4, .int .u64 a5] w fun e w' => e = .returned (.bool r) ∧ Below w.heap.size w w' := by
  unfold octroilaw10_BucketWaits.f at h
  split at h
  · rename_i hc
    cases h
    simp only [Go.Proofs.Ytdaiabgdlopfiaa.B.u64B_iff] at hc
    obtain ⟨p0, p1, p2, p3, p4, p5⟩ := hc
    exact Go.Proofs.Ytdaiabgdlopfiaa.B.waits_any a0 a1 a2 a3 a4 a5 w p0 p1 p2 p3 p4 p5
  · cases h

/-! ### octroilaw10_BucketNone: function 6 (by hand) -/
def octroilaw10_BucketNone.f (a0 a1 : Int) : Option Bool := some true
theorem octroilaw10_BucketNone.calls (a0 a1 : Int) (r : Bool) (w : World) (h : octroilaw10_BucketNone.f a0 a1 = some r) :
    Calls Try.prog 6 #[.int .u64 a0, .int .u64 a1] w fun e w' => e = .returned (.bool r) ∧ Below w.heap.size w w' := by
  cases h
  exact Go.Proofs.Ytdaiabgdlopfiaa.B.none_any a0 a1 w

end Go.Proofs.Ytdaiabgdlopfiaa.K
