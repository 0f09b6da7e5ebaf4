/- BucketPlays answers true, in plain Lean: the bucket and the reference are the same four numbers after each act; condition: all numbers are of 64 bits. -/
import Derived.Test.YtdaiabgdlopfiaaKx1
namespace Go.Proofs.Ytdaiabgdlopfiaa.K
open Go.RowKit Go.Proofs.YtdaiabgdlopfiaaW.PrintWords Go.Proofs.YtdaiabgdlopfiaaW.PrintLast Go.Proofs.YtdaiabgdlopfiaaW.PrintMore
open Go.Proofs.Ytdaiabgdlopfiaa.B (U64 Ok okB u64B okB_iff u64B_iff tickV tokV subV tick_self tok_self mn_def wu64 whenV beq_selfI)
set_option linter.unusedVariables false
set_option linter.unusedSimpArgs false

theorem fill_ref {s0 s1 s2 s3 t : Int} (h : Ok s0 s1 s2 s3) (ht : U64 t) : octroiref10_Fill.f s0 s1 s2 s3 t = some (s0, s1, tickV s2 t, tokV s0 s1 s2 s3 t) := by
  unfold octroiref10_Fill.f
  rw [if_pos ⟨okB_iff.2 h, u64B_iff.2 ht⟩]
theorem when_ref {s0 s1 s2 s3 n : Int} (h : Ok s0 s1 s2 s3) (hn : U64 n) : octroiref10_When.f s0 s1 s2 s3 n = some (whenV s0 s1 s2 s3 n) := by
  unfold octroiref10_When.f
  rw [if_pos ⟨okB_iff.2 h, u64B_iff.2 hn⟩]
theorem take_ok {s0 s1 s2 s3 t n : Int} (h : Ok s0 s1 s2 s3) (ht : U64 t) (hn : U64 n) : octroiref10_Take.f s0 s1 s2 s3 t n = some (s0, s1, tickV s2 t, subV (tokV s0 s1 s2 s3 t) n, decide (n ≤ tokV s0 s1 s2 s3 t)) := by
  unfold octroiref10_Take.f
  rw [if_pos ⟨okB_iff.2 h, u64B_iff.2 ht, u64B_iff.2 hn⟩]
theorem takeB_ok {s0 s1 s2 s3 t n : Int} (h : Ok s0 s1 s2 s3) (ht : U64 t) (hn : U64 n) : bucket_Bucket_Take.f s0 s1 s2 s3 t n = some (decide (n ≤ tokV s0 s1 s2 s3 t), s0, s1, tickV s2 t, subV (tokV s0 s1 s2 s3 t) n) := by
  unfold bucket_Bucket_Take.f
  rw [if_pos ⟨okB_iff.2 h, u64B_iff.2 ht, u64B_iff.2 hn⟩]
theorem level_ok {s0 s1 s2 s3 t : Int} (h : Ok s0 s1 s2 s3) (ht : U64 t) : bucket_Bucket_Level.f s0 s1 s2 s3 t = some (tokV s0 s1 s2 s3 t, s0, s1, tickV s2 t, tokV s0 s1 s2 s3 t) := by
  unfold bucket_Bucket_Level.f
  rw [if_pos ⟨okB_iff.2 h, u64B_iff.2 ht⟩]
theorem when_ok {s0 s1 s2 s3 n : Int} (h : Ok s0 s1 s2 s3) (hn : U64 n) : bucket_Bucket_When.f s0 s1 s2 s3 n = some ((whenV s0 s1 s2 s3 n).1, (whenV s0 s1 s2 s3 n).2, s0, s1, s2, s3) := by
  unfold bucket_Bucket_When.f
  rw [if_pos ⟨okB_iff.2 h, u64B_iff.2 hn⟩]
theorem beqB (b : Bool) : (b == b) = true := by cases b <;> rfl

/-- An act on a bucket and on the reference leaves both alike. -/
theorem does_ok {r b T K : Int} (h : Ok r b T K) (d t n : Int) (ht : U64 t) (hn : U64 n) :
    ∃ T' K', Ok r b T' K' ∧ octroilaw10_does.f r b T K r b T K d t n = some (r, b, T', K', true, r, b, T', K') := by
  unfold octroilaw10_does.f
  by_cases h0 : d = 0
  · rw [if_pos h0, fill_ref h ht, Option.bind_some, level_ok h ht, Option.bind_some]
    exact ⟨_, _, h.fill ht, by dsimp only; rw [beq_selfI]⟩
  · rw [if_neg h0]
    by_cases h1 : d = 1
    · rw [if_pos h1, take_ok h ht hn, Option.bind_some, takeB_ok h ht hn, Option.bind_some]
      exact ⟨_, _, Go.Proofs.Ytdaiabgdlopfiaa.B.Ok.take h ht hn, by dsimp only; rw [beqB]⟩
    · rw [if_neg h1, when_ok h hn, Option.bind_some, when_ref h hn, Option.bind_some]
      dsimp only
      rw [if_pos rfl, beqB]
      exact ⟨_, _, h, rfl⟩

theorem u0 : U64 0 := ⟨by decide, by decide⟩
end Go.Proofs.Ytdaiabgdlopfiaa.K
