/- BucketNone answers true, whatever it is given; no condition. Facts of the numbers that BucketWaits needs. -/
import Derived.Test.YtdaiabgdlopfiaaBo
namespace Go.Proofs.Ytdaiabgdlopfiaa.B
open Go.RowKit Go.Proofs.YtdaiabgdlopfiaaW.PrintWords Go.Proofs.YtdaiabgdlopfiaaW.PrintLast Go.Proofs.YtdaiabgdlopfiaaW.PrintMore
set_option linter.unusedVariables false
set_option linter.unusedSimpArgs false

set_option maxHeartbeats 1000000 in
theorem none_any (t n : Int) (w : World) : Calls Try.prog 6 #[.int .u64 t, .int .u64 n] w fun e w' => e = .returned (.bool true) ∧ Below w.heap.size w w' := by
  go_enter Try.func6, Try.ntmps6
  go_wp2_with fail
  refine (when_nil n _).mono ?_
  rintro e w1 ⟨rfl, rfl⟩
  go_wp2_with fail
  refine (level_nil t _).mono ?_
  rintro e w1 ⟨rfl, rfl⟩
  go_wp2_with fail
  refine (take_nil t n _).mono ?_
  rintro e w1 ⟨rfl, rfl⟩
  go_wp2_with fail
  refine (copy_nil _).mono ?_
  rintro e w1 ⟨rfl, rfl⟩
  go_wp2_with fail
  refine (tick_nil _).mono ?_
  rintro e w1 ⟨rfl, rfl⟩
  go_wp2_with fail
  refine (works_any _).mono ?_
  rintro e w1 ⟨rfl, hb⟩
  have HB := Aside0.mk hb
  clear hb
  go_wp2_with fail
  go_ret
  exact ⟨rfl, HB.out⟩

theorem tick_self {a b : Int} (h : b ≤ a) : tickV a b = a := by unfold tickV; rw [if_pos h]
theorem tok_self {s0 s1 s2 s3 t : Int} (h : t ≤ s2) : tokV s0 s1 s2 s3 t = s3 := by unfold tokV; rw [if_pos h]
theorem Ok.take {s0 s1 s2 s3 t n : Int} (h : Ok s0 s1 s2 s3) (ht : U64 t) (hn : U64 n) : Ok s0 s1 (tickV s2 t) (subV (tokV s0 s1 s2 s3 t) n) := by
  obtain ⟨a, b, c, ⟨d0, d1⟩⟩ := h.fill ht
  refine ⟨a, b, c, ?_⟩
  obtain ⟨n0, n1⟩ := hn
  unfold subV U64
  split <;> omega

/-- None, ever. -/
theorem never {s0 s1 s2 s3 n : Int} (h : Ok s0 s1 s2 s3) (hn : U64 n) (hk : ¬ n ≤ s3) (hw : (whenV s0 s1 s2 s3 n).2 = false) : (whenV s0 s1 s2 s3 n).1 = 0 ∧ ¬ n ≤ tokV s0 s1 s2 s3 18446744073709551615 := by
  obtain ⟨⟨r0, r1⟩, ⟨b0, b1⟩, ⟨t0, t1⟩, ⟨k0, k1⟩⟩ := h
  obtain ⟨n0, n1⟩ := hn
  unfold whenV at hw ⊢
  rw [if_neg hk] at hw ⊢
  by_cases h1 : n > s1 ∨ s0 = 0
  · rw [if_pos h1]
    refine ⟨rfl, ?_⟩
    unfold tokV mn
    rcases h1 with h1 | rfl
    · split
      · exact hk
      · split <;> omega
    · rw [Int.zero_mul]
      split
      · exact hk
      · split <;> omega
  · rw [if_neg h1] at hw ⊢
    have hs : ¬ s0 = 0 := fun e => h1 (.inr e)
    have q1 : s0 * ((n - s3 - 1) / s0) ≤ n - s3 - 1 := Int.mul_ediv_self_le (by omega)
    by_cases h2 : s2 + ((n - s3 - 1) / s0 + 1) > 18446744073709551615
    · rw [if_pos h2]
      refine ⟨rfl, ?_⟩
      have q2 : s0 * (18446744073709551615 - s2) ≤ s0 * ((n - s3 - 1) / s0) := Int.mul_le_mul_of_nonneg_left (by omega) r0
      unfold tokV mn
      split
      · exact hk
      · split <;> omega
    · rw [if_neg h2] at hw
      simp at hw

/-- At that tick, and at none before. -/
theorem first {s0 s1 s2 s3 n : Int} (h : Ok s0 s1 s2 s3) (hn : U64 n) (hk : ¬ n ≤ s3) (hw : (whenV s0 s1 s2 s3 n).2 = true) :
    s2 < (whenV s0 s1 s2 s3 n).1 ∧ U64 (whenV s0 s1 s2 s3 n).1 ∧ ¬ n ≤ tokV s0 s1 s2 s3 ((whenV s0 s1 s2 s3 n).1 - 1) ∧ n ≤ tokV s0 s1 s2 s3 (whenV s0 s1 s2 s3 n).1 := by
  obtain ⟨⟨r0, r1⟩, ⟨b0, b1⟩, ⟨t0, t1⟩, ⟨k0, k1⟩⟩ := h
  obtain ⟨n0, n1⟩ := hn
  unfold whenV at hw ⊢
  rw [if_neg hk] at hw ⊢
  by_cases h1 : n > s1 ∨ s0 = 0
  · rw [if_pos h1] at hw; simp at hw
  · rw [if_neg h1] at hw ⊢
    have hs : ¬ s0 = 0 := fun e => h1 (.inr e)
    by_cases h2 : s2 + ((n - s3 - 1) / s0 + 1) > 18446744073709551615
    · rw [if_pos h2] at hw; simp at hw
    · rw [if_neg h2]
      have q0 : 0 ≤ (n - s3 - 1) / s0 := Int.ediv_nonneg (by omega) r0
      have q1 : s0 * ((n - s3 - 1) / s0) ≤ n - s3 - 1 := Int.mul_ediv_self_le (by omega)
      have q2 : n - s3 - 1 < s0 * ((n - s3 - 1) / s0) + s0 := Int.lt_mul_ediv_self_add (by omega)
      have q3 : s0 * ((n - s3 - 1) / s0 + 1) = s0 * ((n - s3 - 1) / s0) + s0 := by rw [Int.mul_add, Int.mul_one]
      have hb : ¬ n > s1 := fun e => h1 (.inl e)
      generalize (n - s3 - 1) / s0 = q at *
      refine ⟨by show s2 < s2 + (q + 1); omega, ⟨by show 0 ≤ s2 + (q + 1); omega, by show s2 + (q + 1) ≤ _; omega⟩, ?_, ?_⟩
      · show ¬ n ≤ tokV s0 s1 s2 s3 (s2 + (q + 1) - 1)
        unfold tokV mn
        rw [show s2 + (q + 1) - 1 - s2 = q by omega]
        split
        · exact hk
        · split <;> omega
      · show n ≤ tokV s0 s1 s2 s3 (s2 + (q + 1))
        unfold tokV mn
        rw [if_neg (by omega), show s2 + (q + 1) - s2 = q + 1 by omega, q3]
        split <;> omega
end Go.Proofs.Ytdaiabgdlopfiaa.B
