/- The bucket, a block of four numbers: what a world tells of it, what a store into it tells; no condition but that fact. -/
import Derived.Test.YtdaiabgdlopfiaaBx
import Derived.Test.YtdaiabgdlopfiaaMul
import Derived.Outline
namespace Go.Proofs.Ytdaiabgdlopfiaa.B
open Go.RowKit Go.Proofs.YtdaiabgdlopfiaaW.PrintWords Go.Proofs.YtdaiabgdlopfiaaW.PrintLast Go.Proofs.YtdaiabgdlopfiaaW.PrintMore
attribute [local go_sem] max2_int min2_int max_two min_two max_three min_three max_four min_four   -- for this text's walks alone
set_option linter.unusedVariables false
set_option linter.unusedSimpArgs false

theorem add64_run (x y : Int) (hx : 0 ≤ x) (hy : 0 ≤ y) (w : World) :
    (callFunc 21 #[.int .u64 x, .int .u64 y, .int .u64 0]).run Try.prog w = .ok (.value (.tuple #[.int .u64 ((x + y) % 18446744073709551616), .int .u64 ((x + y) / 18446744073709551616)])) w := by
  rw [run_callFunc_extern Try.func21 (by kernel_rfl) (by kernel_rfl) (by kernel_rfl) (e := add64Entry) (by kernel_rfl), run_add64 x y 0 hx hy (by omega) (by omega)]
  simp only [Result.andThen, Int.add_zero]

/-- A bucket's block. -/
def Bk (w : World) (g : Nat) (s0 s1 s2 s3 : Int) : Prop := w.heap[g]? = some (.cells #[.int .u64 s0, .int .u64 s1, .int .u64 s2, .int .u64 s3] 47 (0, 0))

set_option maxHeartbeats 400000 in
theorem put_o (g : Nat) (s0 s1 s2 s3 o n : Int) (w : World) (hI : Bk w g s0 s1 s2 s3)
    (h3 : 0 ≤ s3) (hn : 0 ≤ n) (ho : decide (0 < o) = true) :
    Calls Try.prog 23 #[.pointer (some ⟨g, 0, none⟩), .int .u64 o, .int .u64 n] w fun e w' => e = .returned (.tuple #[]) ∧ w.setCell ⟨g, 3, none⟩ (.int .u64 (mn s1 18446744073709551615)) = w' := by
  have hadd := add64_run s3 n h3 hn
  have c1 := cellS47_1 hI
  have c3 := cellS47_3 hI
  have f3 := blk_frozen hI 3
  clear hI
  go_enter Try.func23, Try.ntmps23
  go_wp2
  all_goals
    go_end0
    refine ⟨rfl, congrArg (fun z : Int => w.setCell ⟨g, 3, none⟩ (.int .u64 z)) ?_⟩
    unfold mn
    split <;> omega
set_option maxHeartbeats 400000 in
theorem put_c (g : Nat) (s0 s1 s2 s3 o n : Int) (w : World) (hI : Bk w g s0 s1 s2 s3)
    (h3 : 0 ≤ s3) (hn : 0 ≤ n) (ho : decide (0 < o) = false) (hc : decide (0 < (s3 + n) / 18446744073709551616) = true) :
    Calls Try.prog 23 #[.pointer (some ⟨g, 0, none⟩), .int .u64 o, .int .u64 n] w fun e w' => e = .returned (.tuple #[]) ∧ w.setCell ⟨g, 3, none⟩ (.int .u64 (mn s1 18446744073709551615)) = w' := by
  have hadd := add64_run s3 n h3 hn
  have c1 := cellS47_1 hI
  have c3 := cellS47_3 hI
  have f3 := blk_frozen hI 3
  clear hI
  go_enter Try.func23, Try.ntmps23
  go_wp2
  all_goals
    go_end0
    refine ⟨rfl, congrArg (fun z : Int => w.setCell ⟨g, 3, none⟩ (.int .u64 z)) ?_⟩
    unfold mn
    split <;> omega
set_option maxHeartbeats 400000 in
theorem put_n (g : Nat) (s0 s1 s2 s3 o n : Int) (w : World) (hI : Bk w g s0 s1 s2 s3)
    (h3 : 0 ≤ s3) (hn : 0 ≤ n) (ho : decide (0 < o) = false) (hc : decide (0 < (s3 + n) / 18446744073709551616) = false) :
    Calls Try.prog 23 #[.pointer (some ⟨g, 0, none⟩), .int .u64 o, .int .u64 n] w fun e w' => e = .returned (.tuple #[]) ∧ w.setCell ⟨g, 3, none⟩ (.int .u64 (mn s1 ((s3 + n) % 18446744073709551616))) = w' := by
  have hadd := add64_run s3 n h3 hn
  have c1 := cellS47_1 hI
  have c3 := cellS47_3 hI
  have f3 := blk_frozen hI 3
  clear hI
  go_enter Try.func23, Try.ntmps23
  go_wp2
  all_goals
    go_end0
    refine ⟨rfl, congrArg (fun z : Int => w.setCell ⟨g, 3, none⟩ (.int .u64 z)) ?_⟩
    unfold mn
    split <;> omega

theorem mn_def (a b : Int) : mn a b = if a ≤ b then a else b := by unfold mn; split <;> split <;> omega

/-- put: the tokens are as many as it holds. -/
theorem put_any (g : Nat) (s0 s1 s2 s3 o n : Int) (w : World) (hI : Bk w g s0 s1 s2 s3) (h1 : s1 ≤ 18446744073709551615)
    (h3 : 0 ≤ s3) (hn : 0 ≤ n) (h0 : 0 ≤ o) :
    Calls Try.prog 23 #[.pointer (some ⟨g, 0, none⟩), .int .u64 o, .int .u64 n] w fun e w' => e = .returned (.tuple #[]) ∧ w.setCell ⟨g, 3, none⟩ (.int .u64 (mn s1 (s3 + (o * 18446744073709551616 + n)))) = w' := by
  by_cases ho : 0 < o
  · rw [show mn s1 (s3 + (o * 18446744073709551616 + n)) = mn s1 18446744073709551615 by rw [mn_def, mn_def, if_pos (by omega), if_pos h1]]
    exact put_o g s0 s1 s2 s3 o n w hI h3 hn (decide_eq_true ho)
  · obtain rfl : o = 0 := by omega
    rw [show s3 + (0 * 18446744073709551616 + n) = s3 + n by omega]
    by_cases hc : 0 < (s3 + n) / 18446744073709551616
    · rw [show mn s1 (s3 + n) = mn s1 18446744073709551615 by rw [mn_def, mn_def, if_pos (by omega), if_pos h1]]
      exact put_c g s0 s1 s2 s3 0 n w hI h3 hn (decide_eq_false ho) (decide_eq_true hc)
    · have := put_n g s0 s1 s2 s3 0 n w hI h3 hn (decide_eq_false ho) (decide_eq_false hc)
      rw [show (s3 + n) % 18446744073709551616 = s3 + n by omega] at this
      exact this
end Go.Proofs.Ytdaiabgdlopfiaa.B
