/- BucketPlays answers true, in plain Lean: the bucket and the reference are the same four numbers after each act; condition: all numbers are of 64 bits. -/
import Derived.Test.YtdaiabgdlopfiaaDx2
namespace Go.Proofs.Ytdaiabgdlopfiaa.D
open Go.RowKit Go.Proofs.YtdaiabgdlopfiaaW.PrintWords Go.Proofs.YtdaiabgdlopfiaaW.PrintLast Go.Proofs.YtdaiabgdlopfiaaW.PrintMore
open Go.Proofs.Ytdaiabgdlopfiaa.B (U64 Ok okB u64B okB_iff u64B_iff tickV tokV subV tick_self tok_self mn_def wu64 whenV beq_selfI)
set_option linter.unusedVariables false
set_option linter.unusedSimpArgs false

/-- A product, at most the greatest number. -/
theorem times_ref {a b : Int} (ha : U64 a) (hb : U64 b) : octroiref10_Times.f a b = some (if a * b > 18446744073709551615 then 18446744073709551615 else a * b) := by
  obtain ⟨a0, a1⟩ := ha
  obtain ⟨b0, b1⟩ := hb
  unfold octroiref10_Times.f octroiref10_most.f
  by_cases h : a > 0
  · rw [if_pos h, Option.bind_some, if_neg (by omega), Int.tdiv_eq_ediv_of_nonneg (by decide)]
    have q0 : 0 ≤ (18446744073709551615 : Int) / a := Int.ediv_nonneg (by decide) a0
    have q1 : (18446744073709551615 : Int) / a ≤ 18446744073709551615 := Int.ediv_le_self _ (by decide)
    rw [wu64 q0 q1]
    by_cases hg : b > 18446744073709551615 / a
    · have := (Int.ediv_lt_iff_lt_mul (show 0 < a by omega) (a := 18446744073709551615) (b := b)).1 (by omega)
      rw [Int.mul_comm] at this
      rw [if_pos hg, Option.bind_some, if_pos (by omega)]
    · have := (Int.le_ediv_iff_mul_le (show 0 < a by omega) (a := b) (b := 18446744073709551615)).1 (by omega)
      rw [Int.mul_comm] at this
      have hm : 0 ≤ a * b := Int.mul_nonneg a0 b0
      rw [if_neg hg, if_neg (by omega), wu64 hm this]
  · obtain rfl : a = 0 := by omega
    rw [if_neg h, Int.zero_mul]
    rfl
theorem plus_ref {a b : Int} (ha : U64 a) (hb : U64 b) : octroiref10_Plus.f a b = some (if a + b > 18446744073709551615 then 18446744073709551615 else a + b) := by
  obtain ⟨a0, a1⟩ := ha
  obtain ⟨b0, b1⟩ := hb
  unfold octroiref10_Plus.f octroiref10_most.f
  rw [Option.bind_some, wu64 (x := 18446744073709551615 - b) (by omega) (by omega)]
  by_cases h : a > 18446744073709551615 - b
  · rw [if_pos h, Option.bind_some, if_pos (by omega)]
  · rw [if_neg h, if_neg (by omega), wu64 (by omega) (by omega)]

theorem fill_ref {s0 s1 s2 s3 t : Int} (h : Ok s0 s1 s2 s3) (ht : U64 t) : octroiref10_Fill.f s0 s1 s2 s3 t = some (s0, s1, tickV s2 t, tokV s0 s1 s2 s3 t) := by
  obtain ⟨⟨r0, r1⟩, ⟨b0, b1⟩, ⟨t0, t1⟩, ⟨k0, k1⟩⟩ := h
  obtain ⟨u0, u1⟩ := ht
  unfold octroiref10_Fill.f tickV tokV
  by_cases hl : t ≤ s2
  · rw [if_pos hl, if_pos hl, if_pos hl]
  · rw [if_neg hl, if_neg hl, if_neg hl, wu64 (x := t - s2) (by omega) (by omega), times_ref ⟨r0, r1⟩ ⟨by omega, by omega⟩, Option.bind_some]
    have hm : 0 ≤ s0 * (t - s2) := Int.mul_nonneg r0 (by omega)
    generalize s0 * (t - s2) = m at *
    rw [plus_ref ⟨k0, k1⟩ (by unfold U64; split <;> omega), Option.bind_some]
    congr 4
    unfold mn
    split <;> split <;> split <;> (try split) <;> omega

theorem when_ref {s0 s1 s2 s3 n : Int} (k : Nat) (h : Ok s0 s1 s2 s3) (hn : U64 n) : octroiref10_When.f (k + 1) s0 s1 s2 s3 n = some (whenV s0 s1 s2 s3 n) := by
  obtain ⟨⟨r0, r1⟩, ⟨b0, b1⟩, ⟨t0, t1⟩, ⟨k0, k1⟩⟩ := h
  obtain ⟨n0, n1⟩ := hn
  unfold octroiref10_When.f whenV
  by_cases h : n ≤ s3
  · rw [if_pos (show s3 ≥ n from h), if_pos h]
  · rw [if_neg (show ¬ s3 ≥ n from h), if_neg h, octroiref10_When.j0]
    by_cases h1 : n > s1
    · rw [if_pos h1, if_pos rfl, if_pos (.inl h1)]
    · rw [if_neg h1, octroiref10_When.j0]
      by_cases hs : s0 = 0
      · rw [if_pos (by rw [hs]; rfl), if_pos (.inr hs)]
      · rw [if_neg (show ¬ ((s0 == 0) = true) by simpa using hs), if_neg hs, if_neg (show ¬ (n > s1 ∨ s0 = 0) from fun h => h.elim h1 hs), wu64 (x := n - s3) (by omega) (by omega), Int.tmod_eq_emod_of_nonneg (by omega), Int.tdiv_eq_ediv_of_nonneg (by omega)]
        have e := Int.mul_ediv_add_emod (n - s3) s0
        have m0 := Int.emod_nonneg (n - s3) hs
        have m1 := Int.emod_lt_of_pos (n - s3) (show 0 < s0 by omega)
        have q0 : 0 ≤ (n - s3) / s0 := Int.ediv_nonneg (by omega) r0
        have q1 : (n - s3) / s0 ≤ n - s3 := Int.ediv_le_self _ (by omega)
        by_cases hm : (n - s3) % s0 > 0
        · have eq : (n - s3 - 1) / s0 = (n - s3) / s0 := by
            have := (Int.ediv_emod_unique (show 0 < s0 by omega) (a := n - s3 - 1) (q := (n - s3) / s0) (r := (n - s3) % s0 - 1)).2 ⟨by omega, by omega, by omega⟩
            exact this.1
          rw [if_pos hm, eq]
          unfold octroiref10_most.f
          generalize (n - s3) / s0 = q at *
          have hq1 : 1 * q ≤ s0 * q := Int.mul_le_mul_of_nonneg_right (by omega) q0
          have hqs : q + 1 ≤ 18446744073709551615 := by omega
          rw [Option.bind_some, wu64 (x := q) (by omega) (by omega), wu64 (x := 18446744073709551615 - s2) (by omega) (by omega)]
          rw [wu64 (x := q + 1) (by omega) hqs]
          by_cases ho : q + 1 > 18446744073709551615 - s2
          · rw [if_pos ho, if_pos (by omega)]
          · rw [if_neg ho, if_neg (by omega), wu64 (by omega) (by omega)]
        · have eq : (n - s3 - 1) / s0 + 1 = (n - s3) / s0 := by
            have hq3 : s0 * ((n - s3) / s0 - 1) = s0 * ((n - s3) / s0) - s0 := by rw [Int.mul_sub, Int.mul_one]
            have := (Int.ediv_emod_unique (show 0 < s0 by omega) (a := n - s3 - 1) (q := (n - s3) / s0 - 1) (r := s0 - 1)).2 ⟨by omega, by omega, by omega⟩
            have := this.1
            omega
          rw [if_neg hm, eq]
          unfold octroiref10_most.f
          generalize (n - s3) / s0 = q at *
          rw [Option.bind_some, wu64 (x := q) (by omega) (by omega), wu64 (x := 18446744073709551615 - s2) (by omega) (by omega)]
          by_cases ho : q > 18446744073709551615 - s2
          · rw [if_pos ho, if_pos (by omega)]
          · rw [if_neg ho, if_neg (by omega), wu64 (by omega) (by omega)]


theorem take_ok {s0 s1 s2 s3 t n : Int} (h : Ok s0 s1 s2 s3) (ht : U64 t) (hn : U64 n) : octroiref10_Take.f s0 s1 s2 s3 t n = some (s0, s1, tickV s2 t, subV (tokV s0 s1 s2 s3 t) n, decide (n ≤ tokV s0 s1 s2 s3 t)) := by
  unfold octroiref10_Take.f
  rw [if_pos ⟨okB_iff.2 h, u64B_iff.2 ht, u64B_iff.2 hn⟩]
theorem takeB_ok {s0 s1 s2 s3 t n : Int} (h : Ok s0 s1 s2 s3) (ht : U64 t) (hn : U64 n) : bucket_Bucket_Take.f s0 s1 s2 s3 t n = some (decide (n ≤ tokV s0 s1 s2 s3 t), s0, s1, tickV s2 t, subV (tokV s0 s1 s2 s3 t) n) := by
  unfold bucket_Bucket_Take.f
  rw [if_pos ⟨okB_iff.2 h, u64B_iff.2 ht, u64B_iff.2 hn⟩]
theorem level_ok {s0 s1 s2 s3 t : Int} (h : Ok s0 s1 s2 s3) (ht : U64 t) : bucket_Bucket_Level.f s0 s1 s2 s3 t = some (tokV s0 s1 s2 s3 t, s0, s1, tickV s2 t, tokV s0 s1 s2 s3 t) := by
  unfold bucket_Bucket_Level.f
  rw [if_pos ⟨okB_iff.2 h, u64B_iff.2 ht⟩]
theorem when_ok {s0 s1 s2 s3 n : Int} (h : Ok s0 s1 s2 s3) (hn : U64 n) : bucket_Bucket_When.f s0 s1 s2 s3 n = some ((whenV s0 s1 s2 s3 n).1, (whenV s0 s1 s2 s3 n).2, s0, s1, s2, s3) := by
  unfold bucket_Bucket_When.f
  rw [if_pos ⟨okB_iff.2 h, u64B_iff.2 hn⟩]
theorem beqB (b : Bool) : (b == b) = true := by cases b <;> rfl

/-- An act on a bucket and on the reference leaves both alike. -/
theorem does_ok {r b T K : Int} (k : Nat) (h : Ok r b T K) (d t n : Int) (ht : U64 t) (hn : U64 n) :
    ∃ T' K', Ok r b T' K' ∧ octroilaw10_does.f (k + 1) r b T K r b T K d t n = some (r, b, T', K', true, r, b, T', K') := by
  unfold octroilaw10_does.f
  by_cases h0 : d = 0
  · rw [if_pos h0, fill_ref h ht, Option.bind_some, level_ok h ht, Option.bind_some]
    exact ⟨_, _, h.fill ht, by dsimp only; rw [beq_selfI]⟩
  · rw [if_neg h0]
    by_cases h1 : d = 1
    · rw [if_pos h1, take_ok h ht hn, Option.bind_some, takeB_ok h ht hn, Option.bind_some]
      exact ⟨_, _, Go.Proofs.Ytdaiabgdlopfiaa.B.Ok.take h ht hn, by dsimp only; rw [beqB]⟩
    · rw [if_neg h1, when_ok h hn, Option.bind_some, when_ref k h hn, Option.bind_some]
      dsimp only
      rw [if_pos rfl, beqB]
      exact ⟨_, _, h, rfl⟩

theorem u0 : U64 0 := ⟨by decide, by decide⟩
end Go.Proofs.Ytdaiabgdlopfiaa.D
