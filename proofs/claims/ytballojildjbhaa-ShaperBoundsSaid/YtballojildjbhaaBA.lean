/- bucket.Bucket: put, fill, Level, Take, When, New: what they answer and leave; conditions: the block holds the four numbers, all of 64 bits. -/
import Derived.Test.YtballojildjbhaaProg
import Derived.Below
import Derived.Deep.Draws
import Derived.Deep.AppendLies
import Derived.Maps.AppendAt
import Derived.OwnWalk
import Derived.Laws.BytesArg
import Derived.Laws.MakeOwn
import Derived.Laws.OwnMore
import Derived.Deep.OwnRows
import Derived.Tactics
import Derived.Lib.ConvBytes
import Derived.Laws.Slices
import Derived.WalkKit
import Derived.WalkSpells
import Derived.RangeFuncOwn
import Derived.KernelRfl
import Derived.RowKit3
import Derived.Deep.LoopGhost
import Derived.Deep.QuietTactic
import Derived.BigQuiet
import Derived.WideLaws
import Derived.Deep.DeepCutAuto
import Derived.Deep.CutBlock
import Derived.Deep.RegionHeld3
import Derived.RegionTactic
import Derived.ChangeAlike
import Derived.Laws.Rows
import Derived.Laws.CopyRow
import Derived.Lib.AppendStr
import Derived.ArgAppend
import Derived.Laws.IdiomCopy
import Derived.OrdersHeld
import Derived.Laws.BitsLemmas
import Derived.RowKit
import Derived.Outline
import Derived.Test.YtballojildjbhaaWWords
import Derived.Test.YtballojildjbhaaWLast
import Derived.Test.YtballojildjbhaaWMore
import Derived.Shelf.Bits.Mul64
import Derived.StillTailTactics
import Derived.Laws.Externs
namespace Go.Proofs
open Go.Shelf
def Try.lays264_ren : Go.Shelf.Ren := ⟨fun | 264 => 78 | n => n, fun | 53 => 22 | 46 => 160 | n => n, fun | n => n⟩
theorem Try.lays264 : Go.Proofs.Lays.n264 Try.prog Try.lays264_ren := {
  mixed := by kernel_rfl
  f264 := Try.func78.trans (congrArg some (by kernel_rfl))
  t46 := Try.underlying160
  a46 := Try.isAgg160
  z46 := Try.sizeOf160
  v46 := Try.zeroValue160
  t53 := Try.underlying22
  a53 := Try.isAgg22
  z53 := Try.sizeOf22
  v53 := Try.zeroValue22 }
open Go.RowKit Go.Lib in
theorem Try.bits_Mul64 (x y : Nat) (hx : x < 18446744073709551616) (hy : y < 18446744073709551616) (w : World) :
    Calls Try.prog 78 #[.int .u64 x, .int .u64 y] w fun e w' => e = .returned (.tuple #[.int .u64 ((x * y / 18446744073709551616 : Nat) : Int), .int .u64 ((x * y % 18446744073709551616 : Nat) : Int)]) ∧ w' = w := Any.bits_Mul64 Try.lays264 x y hx hy w
end Go.Proofs
namespace Go.Proofs.Ytballojildjbhaa.B
open Go Go.RowKit Go.Proofs.YtballojildjbhaaW.PrintWords Go.Proofs.YtballojildjbhaaW.PrintLast Go.Proofs.YtballojildjbhaaW.PrintMore
attribute [local go_sem] max2_int min2_int max_two min_two max_three min_three max_four min_four   -- for this text's walks alone
set_option linter.unusedVariables false
set_option linter.unusedSimpArgs false


theorem add64_run (x y : Int) (hx : 0 ≤ x) (hy : 0 ≤ y) (w : World) :
    (callFunc 64 #[.int .u64 x, .int .u64 y, .int .u64 0]).run Try.prog w = .ok (.value (.tuple #[.int .u64 ((x + y) % 18446744073709551616), .int .u64 ((x + y) / 18446744073709551616)])) w := by
  rw [run_callFunc_extern Try.func64 (by kernel_rfl) (by kernel_rfl) (by kernel_rfl) (e := add64Entry) (by kernel_rfl), run_add64 x y 0 hx hy (by omega) (by omega)]
  simp only [Result.andThen, Int.add_zero]

/-- A bucket's block. -/
def Bk (w : World) (g : Nat) (s0 s1 s2 s3 : Int) : Prop := w.heap[g]? = some (.cells #[.int .u64 s0, .int .u64 s1, .int .u64 s2, .int .u64 s3] 138 (0, 0))

theorem cellB_0 {w : World} {g : Nat} {s0 s1 s2 s3 : Int} (h : Bk w g s0 s1 s2 s3) : w.cell? ⟨g, 0, none⟩ = some (.int .u64 s0) := (blk_cell h 0).trans rfl
theorem cellB_1 {w : World} {g : Nat} {s0 s1 s2 s3 : Int} (h : Bk w g s0 s1 s2 s3) : w.cell? ⟨g, 1, none⟩ = some (.int .u64 s1) := (blk_cell h 1).trans rfl
theorem cellB_2 {w : World} {g : Nat} {s0 s1 s2 s3 : Int} (h : Bk w g s0 s1 s2 s3) : w.cell? ⟨g, 2, none⟩ = some (.int .u64 s2) := (blk_cell h 2).trans rfl
theorem cellB_3 {w : World} {g : Nat} {s0 s1 s2 s3 : Int} (h : Bk w g s0 s1 s2 s3) : w.cell? ⟨g, 3, none⟩ = some (.int .u64 s3) := (blk_cell h 3).trans rfl
set_option maxHeartbeats 400000 in
theorem put_o (g : Nat) (s0 s1 s2 s3 o n : Int) (w : World) (hI : Bk w g s0 s1 s2 s3)
    (h3 : 0 ≤ s3) (hn : 0 ≤ n) (ho : decide (0 < o) = true) :
    Calls Try.prog 77 #[.pointer (some ⟨g, 0, none⟩), .int .u64 o, .int .u64 n] w fun e w' => e = .returned (.tuple #[]) ∧ w.setCell ⟨g, 3, none⟩ (.int .u64 (mn s1 18446744073709551615)) = w' := by
  have hadd := add64_run s3 n h3 hn
  have c1 := cellB_1 hI
  have c3 := cellB_3 hI
  have f3 := blk_frozen hI 3
  clear hI
  go_enter Try.func77, Try.ntmps77
  go_wp2
  all_goals
    go_end0
    refine ⟨rfl, congrArg (fun z : Int => w.setCell ⟨g, 3, none⟩ (.int .u64 z)) ?_⟩
    unfold mn
    split <;> omega
set_option maxHeartbeats 400000 in
theorem put_c (g : Nat) (s0 s1 s2 s3 o n : Int) (w : World) (hI : Bk w g s0 s1 s2 s3)
    (h3 : 0 ≤ s3) (hn : 0 ≤ n) (ho : decide (0 < o) = false) (hc : decide (0 < (s3 + n) / 18446744073709551616) = true) :
    Calls Try.prog 77 #[.pointer (some ⟨g, 0, none⟩), .int .u64 o, .int .u64 n] w fun e w' => e = .returned (.tuple #[]) ∧ w.setCell ⟨g, 3, none⟩ (.int .u64 (mn s1 18446744073709551615)) = w' := by
  have hadd := add64_run s3 n h3 hn
  have c1 := cellB_1 hI
  have c3 := cellB_3 hI
  have f3 := blk_frozen hI 3
  clear hI
  go_enter Try.func77, Try.ntmps77
  go_wp2
  all_goals
    go_end0
    refine ⟨rfl, congrArg (fun z : Int => w.setCell ⟨g, 3, none⟩ (.int .u64 z)) ?_⟩
    unfold mn
    split <;> omega
set_option maxHeartbeats 400000 in
theorem put_n (g : Nat) (s0 s1 s2 s3 o n : Int) (w : World) (hI : Bk w g s0 s1 s2 s3)
    (h3 : 0 ≤ s3) (hn : 0 ≤ n) (ho : decide (0 < o) = false) (hc : decide (0 < (s3 + n) / 18446744073709551616) = false) :
    Calls Try.prog 77 #[.pointer (some ⟨g, 0, none⟩), .int .u64 o, .int .u64 n] w fun e w' => e = .returned (.tuple #[]) ∧ w.setCell ⟨g, 3, none⟩ (.int .u64 (mn s1 ((s3 + n) % 18446744073709551616))) = w' := by
  have hadd := add64_run s3 n h3 hn
  have c1 := cellB_1 hI
  have c3 := cellB_3 hI
  have f3 := blk_frozen hI 3
  clear hI
  go_enter Try.func77, Try.ntmps77
  go_wp2
  all_goals
    go_end0
    refine ⟨rfl, congrArg (fun z : Int => w.setCell ⟨g, 3, none⟩ (.int .u64 z)) ?_⟩
    unfold mn
    split <;> omega

theorem mn_def (a b : Int) : mn a b = if a ≤ b then a else b := by unfold mn; split <;> split <;> omega

/-- put: the tokens are as many as it holds. -/
theorem put_any (g : Nat) (s0 s1 s2 s3 o n : Int) (w : World) (hI : Bk w g s0 s1 s2 s3) (h1 : s1 ≤ 18446744073709551615)
    (h3 : 0 ≤ s3) (hn : 0 ≤ n) (h0 : 0 ≤ o) :
    Calls Try.prog 77 #[.pointer (some ⟨g, 0, none⟩), .int .u64 o, .int .u64 n] w fun e w' => e = .returned (.tuple #[]) ∧ w.setCell ⟨g, 3, none⟩ (.int .u64 (mn s1 (s3 + (o * 18446744073709551616 + n)))) = w' := by
  by_cases ho : 0 < o
  · rw [show mn s1 (s3 + (o * 18446744073709551616 + n)) = mn s1 18446744073709551615 by rw [mn_def, mn_def, if_pos (by omega), if_pos h1]]
    exact put_o g s0 s1 s2 s3 o n w hI h3 hn (decide_eq_true ho)
  · obtain rfl : o = 0 := by omega
    rw [show s3 + (0 * 18446744073709551616 + n) = s3 + n by omega]
    by_cases hc : 0 < (s3 + n) / 18446744073709551616
    · rw [show mn s1 (s3 + n) = mn s1 18446744073709551615 by rw [mn_def, mn_def, if_pos (by omega), if_pos h1]]
      exact put_c g s0 s1 s2 s3 0 n w hI h3 hn (decide_eq_false ho) (decide_eq_true hc)
    · have := put_n g s0 s1 s2 s3 0 n w hI h3 hn (decide_eq_false ho) (decide_eq_false hc)
      rw [show (s3 + n) % 18446744073709551616 = s3 + n by omega] at this
      exact this
end Go.Proofs.Ytballojildjbhaa.B
