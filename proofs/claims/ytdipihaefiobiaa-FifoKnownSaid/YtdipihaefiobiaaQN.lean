/- FifoNone's walk: it answers true, whatever the item; no condition. -/
import Derived.Test.YtdipihaefiobiaaQM
namespace Go.Proofs.Ytdipihaefiobiaa.F
open Go Go.RowKit Go.Proofs.YtdipihaefiobiaaW.PrintWords Go.Proofs.YtdipihaefiobiaaW.PrintLast Go.Proofs.YtdipihaefiobiaaW.PrintMore
set_option linter.unusedVariables false
set_option linter.unusedSimpArgs false

set_option maxHeartbeats 2000000 in
theorem none_any (no size : Int) (A : Option Addr) (n c : Nat) (w : World) : Calls Try.prog 5 #[.agg #[.int .u64 no, .int .i64 size, .slice A n c]] w fun e w' => e = .returned (.bool true) ∧ Below w.heap.size w w' := by
  go_enter Try.func5, Try.ntmps5
  go_wp2_with fail
  refine (head_none none _ (.inl rfl)).mono ?_
  rintro e w1 ⟨rfl, b⟩
  have HI1 := Aside0.mk (blk_below (blk_new w (.cells #[.int .u64 no, .int .i64 size, .slice A n c] 37)) b)
  have HB1 := Aside0.mk (below_step (below_alloc (Below.refl _ w) _) b)
  clear b
  go_wp2_with fail
  refine (pop_none none _ (.inl rfl)).mono ?_
  rintro e w2 ⟨rfl, b⟩
  have HI2 := Aside0.mk (blk_below (blk_alloc HI1.out _) b)
  have HB2 := Aside0.mk (below_step (below_alloc HB1.out _) b)
  have hz2 : w.heap.size < w2.heap.size := blk_lt HI2.out
  obtain ⟨i0, i1, i2, j0, j1, j2⟩ := cells3 HI2.out
  clear b HI1 HB1
  go_wp2_with fail
  refine (push_nil undef no size A n c _).mono ?_
  rintro e w3 ⟨rfl, b⟩
  have HI3 := Aside0.mk (blk_below (blk_alloc HI2.out _) b)
  have HB3 := Aside0.mk (below_step (below_alloc HB2.out _) b)
  have hz3 : w.heap.size < w3.heap.size := blk_lt HI3.out
  obtain ⟨i0, i1, i2, j0, j1, j2⟩ := cells3 HI3.out
  clear b HI2 HB2
  go_wp2_with fail
  refine (room_nil size _).mono ?_
  rintro e w4 ⟨rfl, b⟩
  have HB4 := Aside0.mk (below_step HB3.out b)
  clear b
  go_wp2_with fail
  refine (len_nil _).mono ?_
  rintro e w5 ⟨rfl, rfl⟩
  go_wp2_with fail
  refine (size_nil _).mono ?_
  rintro e w5 ⟨rfl, rfl⟩
  go_wp2_with fail
  refine (drops_nil _).mono ?_
  rintro e w5 ⟨rfl, rfl⟩
  go_wp2_with fail
  refine (all_nil _).mono ?_
  rintro e w5 ⟨rfl, rfl⟩
  go_wp2_with fail
  refine (clear_none none _ (.inl rfl)).mono ?_
  rintro e w5 ⟨rfl, rfl⟩
  go_wp2_with fail
  refine (works_any _).mono ?_
  rintro e w5 ⟨rfl, b⟩
  have HB5 := Aside0.mk (below_step HB4.out b)
  clear b
  go_wp2
  go_ret
  exact ⟨rfl, HB5.out⟩
end Go.Proofs.Ytdipihaefiobiaa.F
