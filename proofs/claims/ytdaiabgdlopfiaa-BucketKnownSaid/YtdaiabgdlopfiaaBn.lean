/- Bucket.When, New, and all methods of the nil bucket; conditions: the block holds the four numbers, all of 64 bits. -/
import Derived.Test.YtdaiabgdlopfiaaBm
namespace Go.Proofs.Ytdaiabgdlopfiaa.B
open Go.RowKit Go.Proofs.YtdaiabgdlopfiaaW.PrintWords Go.Proofs.YtdaiabgdlopfiaaW.PrintLast Go.Proofs.YtdaiabgdlopfiaaW.PrintMore
set_option linter.unusedVariables false
set_option linter.unusedSimpArgs false

def whenV (s0 s1 s2 s3 n : Int) : Int × Bool :=
  if n ≤ s3 then (s2, true) else if n > s1 ∨ s0 = 0 then (0, false) else
    if s2 + ((n - s3 - 1) / s0 + 1) > 18446744073709551615 then (0, false) else (s2 + ((n - s3 - 1) / s0 + 1), true)

set_option maxHeartbeats 400000 in
theorem when_has (g : Nat) (s0 s1 s2 s3 n : Int) (w : World) (hI : Bk w g s0 s1 s2 s3) (h : decide (n ≤ s3) = true) :
    Calls Try.prog 16 #[.pointer (some ⟨g, 0, none⟩), .int .u64 n] w fun e w' => e = .returned (.tuple #[.int .u64 s2, .bool true]) ∧ w = w' := by
  have c2 := cellS47_2 hI
  have c3 := cellS47_3 hI
  clear hI
  go_enter Try.func16, Try.ntmps16
  go_wp2
  go_ret2
  exact ⟨rfl, rfl⟩
set_option maxHeartbeats 400000 in
theorem when_over (g : Nat) (s0 s1 s2 s3 n : Int) (w : World) (hI : Bk w g s0 s1 s2 s3) (h : decide (n ≤ s3) = false) (h1 : decide (s1 < n) = true) :
    Calls Try.prog 16 #[.pointer (some ⟨g, 0, none⟩), .int .u64 n] w fun e w' => e = .returned (.tuple #[.int .u64 0, .bool false]) ∧ w = w' := by
  have c1 := cellS47_1 hI
  have c3 := cellS47_3 hI
  clear hI
  go_enter Try.func16, Try.ntmps16
  go_wp2
  go_ret2
  exact ⟨rfl, rfl⟩
set_option maxHeartbeats 400000 in
theorem when_zero (g : Nat) (s0 s1 s2 s3 n : Int) (w : World) (hI : Bk w g s0 s1 s2 s3) (h : decide (n ≤ s3) = false) (h1 : decide (s1 < n) = false) (h0 : (s0 == 0) = true) :
    Calls Try.prog 16 #[.pointer (some ⟨g, 0, none⟩), .int .u64 n] w fun e w' => e = .returned (.tuple #[.int .u64 0, .bool false]) ∧ w = w' := by
  have c0 := cellS47_0 hI
  have c1 := cellS47_1 hI
  have c3 := cellS47_3 hI
  clear hI
  go_enter Try.func16, Try.ntmps16
  go_wp2
  go_ret2
  exact ⟨rfl, rfl⟩
set_option maxHeartbeats 400000 in
theorem when_on (g : Nat) (s0 s1 s2 s3 n q : Int) (b : Bool) (w : World) (hI : Bk w g s0 s1 s2 s3) (h : decide (n ≤ s3) = false) (h1 : decide (s1 < n) = false) (h0 : (s0 == 0) = false) (h00 : ¬ s0 = 0)
    (w1 : IntKind.u64.wrap (n - s3) = n - s3) (w2 : IntKind.u64.wrap (n - s3 - 1) = n - s3 - 1) (w3 : IntKind.u64.wrap ((n - s3 - 1).tdiv s0) = q) (w4 : IntKind.u64.wrap (q + 1) = q + 1) (hq : 0 ≤ q + 1) (h2 : 0 ≤ s2)
    (hb : decide (0 < (s2 + (q + 1)) / 18446744073709551616) = b) :
    Calls Try.prog 16 #[.pointer (some ⟨g, 0, none⟩), .int .u64 n] w fun e w' => e = .returned (.tuple (if b then #[.int .u64 0, .bool false] else #[.int .u64 ((s2 + (q + 1)) % 18446744073709551616), .bool true])) ∧ Below w.heap.size w w' := by
  have hadd := add64_run s2 (q + 1) h2 hq
  have c0 := cellS47_0 hI
  have c1 := cellS47_1 hI
  have c2 := cellS47_2 hI
  have c3 := cellS47_3 hI
  clear hI hq h2
  cases b
  · go_enter Try.func16, Try.ntmps16
    go_wp2
    go_quiet (fail)
    go_wp2
    go_ret2
    exact ⟨rfl, pw_below_drewN (Below.refl _ _) _⟩
  · go_enter Try.func16, Try.ntmps16
    go_wp2
    go_quiet (fail)
    go_wp2
    go_ret2
    exact ⟨rfl, pw_below_drewN (Below.refl _ _) _⟩

theorem when_any (g : Nat) (s0 s1 s2 s3 n : Int) (w : World) (hI : Bk w g s0 s1 s2 s3) (ho : Ok s0 s1 s2 s3) (hn : U64 n) :
    Calls Try.prog 16 #[.pointer (some ⟨g, 0, none⟩), .int .u64 n] w fun e w' => e = .returned (.tuple #[.int .u64 (whenV s0 s1 s2 s3 n).1, .bool (whenV s0 s1 s2 s3 n).2]) ∧ Below w.heap.size w w' := by
  obtain ⟨⟨r0, r1⟩, ⟨b0, b1⟩, ⟨t0, t1⟩, ⟨k0, k1⟩⟩ := ho
  obtain ⟨n0, n1⟩ := hn
  unfold whenV
  by_cases h : n ≤ s3
  · rw [if_pos h]
    refine (when_has g s0 s1 s2 s3 n w hI (decide_eq_true h)).mono ?_
    rintro e w' ⟨rfl, rfl⟩
    exact ⟨rfl, Below.refl _ _⟩
  · rw [if_neg h]
    by_cases h1 : n > s1
    · rw [if_pos (.inl h1)]
      refine (when_over g s0 s1 s2 s3 n w hI (decide_eq_false h) (decide_eq_true h1)).mono ?_
      rintro e w' ⟨rfl, rfl⟩
      exact ⟨rfl, Below.refl _ _⟩
    · by_cases h0 : s0 = 0
      · rw [if_pos (.inr h0)]
        refine (when_zero g s0 s1 s2 s3 n w hI (decide_eq_false h) (decide_eq_false h1) (by rw [h0]; rfl)).mono ?_
        rintro e w' ⟨rfl, rfl⟩
        exact ⟨rfl, Below.refl _ _⟩
      · rw [if_neg (by rintro (h | h) <;> contradiction)]
        have q0 : 0 ≤ (n - s3 - 1) / s0 := Int.ediv_nonneg (by omega) r0
        have q1 : (n - s3 - 1) / s0 ≤ n - s3 - 1 := Int.ediv_le_self _ (by omega)
        have e3 : IntKind.u64.wrap ((n - s3 - 1).tdiv s0) = (n - s3 - 1) / s0 := by
          rw [Int.tdiv_eq_ediv_of_nonneg (by omega)]
          generalize (n - s3 - 1) / s0 = q at *
          simp only [IntKind.wrap_u64]; omega
        generalize (n - s3 - 1) / s0 = q at *
        have := when_on g s0 s1 s2 s3 n q _ w hI (decide_eq_false h) (decide_eq_false h1) (by simpa using h0) h0 (by simp only [IntKind.wrap_u64]; omega) (by simp only [IntKind.wrap_u64]; omega) e3 (by simp only [IntKind.wrap_u64]; omega) (by omega) t0 rfl
        by_cases hc : s2 + (q + 1) > 18446744073709551615
        · rw [if_pos hc]
          rw [show decide (0 < (s2 + (q + 1)) / 18446744073709551616) = true from decide_eq_true (by omega)] at this
          exact this
        · rw [if_neg hc]
          rw [show decide (0 < (s2 + (q + 1)) / 18446744073709551616) = false from decide_eq_false (by omega), show (s2 + (q + 1)) % 18446744073709551616 = s2 + (q + 1) by omega] at this
          exact this

/-! A bucket that is not there. -/
set_option maxHeartbeats 400000 in
theorem level_nil (t : Int) (w : World) : Calls Try.prog 11 #[.pointer none, .int .u64 t] w fun e w' => e = .returned (.int .u64 0) ∧ w = w' := by
  go_enter Try.func11, Try.ntmps11
  go_wp2
  go_ret
  exact ⟨rfl, rfl⟩
set_option maxHeartbeats 400000 in
theorem take_nil (t n : Int) (w : World) : Calls Try.prog 10 #[.pointer none, .int .u64 t, .int .u64 n] w fun e w' => e = .returned (.bool false) ∧ w = w' := by
  go_enter Try.func10, Try.ntmps10
  go_wp2
  go_ret
  exact ⟨rfl, rfl⟩
set_option maxHeartbeats 400000 in
theorem when_nil (n : Int) (w : World) : Calls Try.prog 16 #[.pointer none, .int .u64 n] w fun e w' => e = .returned (.tuple #[.int .u64 0, .bool false]) ∧ w = w' := by
  go_enter Try.func16, Try.ntmps16
  go_wp2
  go_ret2
  exact ⟨rfl, rfl⟩
set_option maxHeartbeats 400000 in
theorem copy_nil (w : World) : Calls Try.prog 13 #[.pointer none] w fun e w' => e = .returned (.pointer none) ∧ w = w' := by
  go_enter Try.func13, Try.ntmps13
  go_wp2
  go_ret
  exact ⟨rfl, rfl⟩
set_option maxHeartbeats 400000 in
theorem tick_nil (w : World) : Calls Try.prog 15 #[.pointer none] w fun e w' => e = .returned (.int .u64 0) ∧ w = w' := by
  go_enter Try.func15, Try.ntmps15
  go_wp2
  go_ret
  exact ⟨rfl, rfl⟩
set_option maxHeartbeats 400000 in
theorem new_any (r b t : Int) (w : World) : Calls Try.prog 9 #[.int .u64 r, .int .u64 b, .int .u64 t] w fun e w' => e = .returned (.pointer (some ⟨w.heap.size, 0, none⟩)) ∧ Bk w' w.heap.size r b t b ∧ Below w.heap.size w w' := by
  go_enter Try.func9, Try.ntmps9
  go_wp2
  go_ret
  exact ⟨rfl, blk_new _ _, below_alloc (Below.refl _ _) _⟩
end Go.Proofs.Ytdaiabgdlopfiaa.B
