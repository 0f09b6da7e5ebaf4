/- The bucket's contracts, as the printer asks for them: the tests that their numbers are of 64 bits; no condition. -/
import Derived.Test.YtdaiabgdlopfiaaBr
namespace Go.Proofs.Ytdaiabgdlopfiaa.B
open Go.RowKit Go.Proofs.YtdaiabgdlopfiaaW.PrintWords Go.Proofs.YtdaiabgdlopfiaaW.PrintLast Go.Proofs.YtdaiabgdlopfiaaW.PrintMore
set_option linter.unusedVariables false
set_option linter.unusedSimpArgs false

def u64B (x : Int) : Bool := decide (0 ≤ x) && decide (x ≤ 18446744073709551615)
def okB (a b c d : Int) : Bool := u64B a && u64B b && u64B c && u64B d
theorem u64B_iff {x : Int} : u64B x = true ↔ U64 x := by simp [u64B, U64]
theorem okB_iff {a b c d : Int} : okB a b c d = true ↔ Ok a b c d := by
  simp only [okB, Bool.and_eq_true, u64B_iff]
  exact ⟨fun h => ⟨h.1.1.1, h.1.1.2, h.1.2, h.2⟩, fun h => ⟨⟨⟨h.r, h.b⟩, h.t⟩, h.k⟩⟩
theorem keep_own {w w' : World} {g : Nat} (h : w.grownBy w' (some g)) : KeepBut w w' g none :=
  ⟨h.size, fun i hi hne _ => h.block i hi (by simpa using hne)⟩
end Go.Proofs.Ytdaiabgdlopfiaa.B
