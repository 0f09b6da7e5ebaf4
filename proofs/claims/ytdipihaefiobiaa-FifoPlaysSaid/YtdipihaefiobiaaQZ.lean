/- FifoPlays: the row's form. -/
import Derived.Test.YtdipihaefiobiaaQR
import Derived.Test.YtdipihaefiobiaaQY
namespace Go.Proofs.Ytdipihaefiobiaa.F
open Go Go.RowKit Go.Proofs.YtdipihaefiobiaaW.PrintWords Go.Proofs.YtdipihaefiobiaaW.PrintLast Go.Proofs.YtdipihaefiobiaaW.PrintMore

theorem i64_le {i : Int} (h : (Lit.int .i64 i).wf = true) : i ≤ 9223372036854775807 := by
  simp only [Lit.wf, Bool.and_eq_true, decide_eq_true_eq] at h
  have h2 : (IntKind.i64.max) = 9223372036854775807 := by decide
  omega
theorem plays_row (i0 s0 : Int) (hs : (Lit.int .i64 s0).wf = true) (A : Option Addr) (c : Nat) (xs : List (Int × Int × Int × List Int)) (W : World) (hC : Kd.C kAct W A xs.length xs) (hc : xs.length ≤ maxLen)
    (ho : ∀ x, x ∈ xs → ∀ i, i ∈ x.2.2.2 → (Lit.int .u8 i).wf = true) :
    Calls Try.prog 3 #[.int .i64 i0, .int .i64 s0, .slice A xs.length c] W fun e w' => e = .returned (.bool true) ∧ Below W.heap.size W w' :=
  plays_any i0 s0 (i64_le hs) A xs.length c (xs.map toAc) W (acts_of_C hC fun x hx i hi => byte_wf (ho x hx i hi)) hc
end Go.Proofs.Ytdipihaefiobiaa.F
