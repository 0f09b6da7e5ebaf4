/- The reference octroiref10.Take, Fill, When: what they answer; condition: the numbers are of 64 bits. -/
import Derived.Test.YtdaiabgdlopfiaaBq
namespace Go.Proofs.Ytdaiabgdlopfiaa.B
open Go.RowKit Go.Proofs.YtdaiabgdlopfiaaW.PrintWords Go.Proofs.YtdaiabgdlopfiaaW.PrintLast Go.Proofs.YtdaiabgdlopfiaaW.PrintMore
set_option linter.unusedVariables false
set_option linter.unusedSimpArgs false

theorem wu64 {x : Int} (h0 : 0 ≤ x) (h1 : x ≤ 18446744073709551615) : IntKind.u64.wrap x = x := by simp only [IntKind.wrap_u64]; omega

/-- A product, at most the greatest number. -/
theorem times_ref {a b : Int} (ha : U64 a) (hb : U64 b) : octroiref10_Times.f a b = some (if a * b > 18446744073709551615 then 18446744073709551615 else a * b) := by
  obtain ⟨a0, a1⟩ := ha
  obtain ⟨b0, b1⟩ := hb
  unfold octroiref10_Times.f octroiref10_most.f
  by_cases h : a > 0
  · rw [if_pos h, Option.bind_some, if_neg (by omega), Int.tdiv_eq_ediv_of_nonneg (by decide)]
    have q0 : 0 ≤ (18446744073709551615 : Int) / a := Int.ediv_nonneg (by decide) a0
    have q1 : (18446744073709551615 : Int) / a ≤ 18446744073709551615 := Int.ediv_le_self _ (by decide)
    rw [wu64 q0 q1]
    by_cases hg : b > 18446744073709551615 / a
    · have := (Int.ediv_lt_iff_lt_mul (show 0 < a by omega) (a := 18446744073709551615) (b := b)).1 (by omega)
      rw [Int.mul_comm] at this
      rw [if_pos hg, Option.bind_some, if_pos (by omega)]
    · have := (Int.le_ediv_iff_mul_le (show 0 < a by omega) (a := b) (b := 18446744073709551615)).1 (by omega)
      rw [Int.mul_comm] at this
      have hm : 0 ≤ a * b := Int.mul_nonneg a0 b0
      rw [if_neg hg, if_neg (by omega), wu64 hm this]
  · obtain rfl : a = 0 := by omega
    rw [if_neg h, Int.zero_mul]
    rfl
theorem plus_ref {a b : Int} (ha : U64 a) (hb : U64 b) : octroiref10_Plus.f a b = some (if a + b > 18446744073709551615 then 18446744073709551615 else a + b) := by
  obtain ⟨a0, a1⟩ := ha
  obtain ⟨b0, b1⟩ := hb
  unfold octroiref10_Plus.f octroiref10_most.f
  rw [Option.bind_some, wu64 (x := 18446744073709551615 - b) (by omega) (by omega)]
  by_cases h : a > 18446744073709551615 - b
  · rw [if_pos h, Option.bind_some, if_pos (by omega)]
  · rw [if_neg h, if_neg (by omega), wu64 (by omega) (by omega)]

theorem fill_ref {s0 s1 s2 s3 t : Int} (h : Ok s0 s1 s2 s3) (ht : U64 t) : octroiref10_Fill.f s0 s1 s2 s3 t = some (s0, s1, tickV s2 t, tokV s0 s1 s2 s3 t) := by
  obtain ⟨⟨r0, r1⟩, ⟨b0, b1⟩, ⟨t0, t1⟩, ⟨k0, k1⟩⟩ := h
  obtain ⟨u0, u1⟩ := ht
  unfold octroiref10_Fill.f tickV tokV
  by_cases hl : t ≤ s2
  · rw [if_pos hl, if_pos hl, if_pos hl]
  · rw [if_neg hl, if_neg hl, if_neg hl, wu64 (x := t - s2) (by omega) (by omega), times_ref ⟨r0, r1⟩ ⟨by omega, by omega⟩, Option.bind_some]
    have hm : 0 ≤ s0 * (t - s2) := Int.mul_nonneg r0 (by omega)
    generalize s0 * (t - s2) = m at *
    rw [plus_ref ⟨k0, k1⟩ (by unfold U64; split <;> omega), Option.bind_some]
    congr 4
    unfold mn
    split <;> split <;> split <;> (try split) <;> omega

theorem when_ref {s0 s1 s2 s3 n : Int} (k : Nat) (h : Ok s0 s1 s2 s3) (hn : U64 n) : octroiref10_When.f (k + 1) s0 s1 s2 s3 n = some (whenV s0 s1 s2 s3 n) := by
  obtain ⟨⟨r0, r1⟩, ⟨b0, b1⟩, ⟨t0, t1⟩, ⟨k0, k1⟩⟩ := h
  obtain ⟨n0, n1⟩ := hn
  unfold octroiref10_When.f whenV
  by_cases h : n ≤ s3
  · rw [if_pos (show s3 ≥ n from h), if_pos h]
  · rw [if_neg (show ¬ s3 ≥ n from h), if_neg h, octroiref10_When.j0]
    by_cases h1 : n > s1
    · rw [if_pos h1, if_pos rfl, if_pos (.inl h1)]
    · rw [if_neg h1, octroiref10_When.j0]
      by_cases hs : s0 = 0
      · rw [if_pos (by rw [hs]; rfl), if_pos (.inr hs)]
      · rw [if_neg (show ¬ ((s0 == 0) = true) by simpa using hs), if_neg hs, if_neg (show ¬ (n > s1 ∨ s0 = 0) from fun h => h.elim h1 hs), wu64 (x := n - s3) (by omega) (by omega), Int.tmod_eq_emod_of_nonneg (by omega), Int.tdiv_eq_ediv_of_nonneg (by omega)]
        have e := Int.mul_ediv_add_emod (n - s3) s0
        have m0 := Int.emod_nonneg (n - s3) hs
        have m1 := Int.emod_lt_of_pos (n - s3) (show 0 < s0 by omega)
        have q0 : 0 ≤ (n - s3) / s0 := Int.ediv_nonneg (by omega) r0
        have q1 : (n - s3) / s0 ≤ n - s3 := Int.ediv_le_self _ (by omega)
        by_cases hm : (n - s3) % s0 > 0
        · have eq : (n - s3 - 1) / s0 = (n - s3) / s0 := by
            have := (Int.ediv_emod_unique (show 0 < s0 by omega) (a := n - s3 - 1) (q := (n - s3) / s0) (r := (n - s3) % s0 - 1)).2 ⟨by omega, by omega, by omega⟩
            exact this.1
          rw [if_pos hm, eq]
          unfold octroiref10_most.f
          generalize (n - s3) / s0 = q at *
          have hq1 : 1 * q ≤ s0 * q := Int.mul_le_mul_of_nonneg_right (by omega) q0
          have hqs : q + 1 ≤ 18446744073709551615 := by omega
          rw [Option.bind_some, wu64 (x := q) (by omega) (by omega), wu64 (x := 18446744073709551615 - s2) (by omega) (by omega)]
          rw [wu64 (x := q + 1) (by omega) hqs]
          by_cases ho : q + 1 > 18446744073709551615 - s2
          · rw [if_pos ho, if_pos (by omega)]
          · rw [if_neg ho, if_neg (by omega), wu64 (by omega) (by omega)]
        · have eq : (n - s3 - 1) / s0 + 1 = (n - s3) / s0 := by
            have hq3 : s0 * ((n - s3) / s0 - 1) = s0 * ((n - s3) / s0) - s0 := by rw [Int.mul_sub, Int.mul_one]
            have := (Int.ediv_emod_unique (show 0 < s0 by omega) (a := n - s3 - 1) (q := (n - s3) / s0 - 1) (r := s0 - 1)).2 ⟨by omega, by omega, by omega⟩
            have := this.1
            omega
          rw [if_neg hm, eq]
          unfold octroiref10_most.f
          generalize (n - s3) / s0 = q at *
          rw [Option.bind_some, wu64 (x := q) (by omega) (by omega), wu64 (x := 18446744073709551615 - s2) (by omega) (by omega)]
          by_cases ho : q > 18446744073709551615 - s2
          · rw [if_pos ho, if_pos (by omega)]
          · rw [if_neg ho, if_neg (by omega), wu64 (by omega) (by omega)]

/-- Four stores into one block. -/
theorem put4 {w : World} {g t : Nat} {a b c d a' b' c' d' : Value} (h : w.heap[g]? = some (.cells #[a, b, c, d] t (0, 0))) :
    ((((w.setCell ⟨g, 0, none⟩ a').setCell ⟨g, 1, none⟩ b').setCell ⟨g, 2, none⟩ c').setCell ⟨g, 3, none⟩ d').heap[g]? = some (.cells #[a', b', c', d'] t (0, 0)) :=
  blk_put (blk_put (blk_put (blk_put h 0 a' rfl) 1 b' rfl) 2 c' rfl) 3 d' rfl
theorem far4 {w : World} {g g' t : Nat} {cs : Array Value} {a' b' c' d' : Value} (h : w.heap[g]? = some (.cells cs t (0, 0))) (hne : g ≠ g') :
    ((((w.setCell ⟨g', 0, none⟩ a').setCell ⟨g', 1, none⟩ b').setCell ⟨g', 2, none⟩ c').setCell ⟨g', 3, none⟩ d').heap[g]? = some (.cells cs t (0, 0)) :=
  blk_far (blk_far (blk_far (blk_far h hne a') hne b') hne c') hne d'
theorem below4 {w W : World} {g : Nat} {a' b' c' d' : Value} (hg : w.heap.size ≤ g) (h : Below w.heap.size w W) :
    Below w.heap.size w ((((W.setCell ⟨g, 0, none⟩ a').setCell ⟨g, 1, none⟩ b').setCell ⟨g, 2, none⟩ c').setCell ⟨g, 3, none⟩ d') :=
  below_set (below_set (below_set (below_set h hg) hg) hg) hg

/-- The cells of a bucket by value. -/
theorem cells4 {w : World} {g t : Nat} {a b c d : Int} (h : w.heap[g]? = some (.cells #[.int .u64 a, .int .u64 b, .int .u64 c, .int .u64 d] t (0, 0))) :
    (w.cell? ⟨g, 0, none⟩ = some (.int .u64 a) ∧ w.cell? ⟨g, 1, none⟩ = some (.int .u64 b) ∧ w.cell? ⟨g, 2, none⟩ = some (.int .u64 c) ∧ w.cell? ⟨g, 3, none⟩ = some (.int .u64 d)) ∧
    (w.frozen? ⟨g, 0, none⟩ = false ∧ w.frozen? ⟨g, 1, none⟩ = false ∧ w.frozen? ⟨g, 2, none⟩ = false ∧ w.frozen? ⟨g, 3, none⟩ = false) :=
  ⟨⟨(blk_cell h 0).trans rfl, (blk_cell h 1).trans rfl, (blk_cell h 2).trans rfl, (blk_cell h 3).trans rfl⟩, blk_frozen h 0, blk_frozen h 1, blk_frozen h 2, blk_frozen h 3⟩

set_option maxHeartbeats 1000000 in
theorem take_ref (s0 s1 s2 s3 t n : Int) (w : World) (ho : Ok s0 s1 s2 s3) (ht : U64 t) (hn : U64 n) :
    Calls Try.prog 19 #[.agg #[.int .u64 s0, .int .u64 s1, .int .u64 s2, .int .u64 s3], .int .u64 t, .int .u64 n] w fun e w' => e = .returned (.tuple #[.agg #[.int .u64 s0, .int .u64 s1, .int .u64 (tickV s2 t), .int .u64 (subV (tokV s0 s1 s2 s3 t) n)], .bool (decide (n ≤ tokV s0 s1 s2 s3 t))]) ∧ Below w.heap.size w w' := by
  have hu34 := Try.underlying34
  have HF := Aside0.mk (fill_ref ho ht)
  have ok2 := ho.fill ht
  clear ho ht
  generalize tokV s0 s1 s2 s3 t = K at *
  generalize tickV s2 t = T at *
  unfold subV
  by_cases hk : K < n
  · rw [if_pos hk, show decide (n ≤ K) = false from decide_eq_false (by omega)]
    have hkb : decide (K < n) = true := decide_eq_true hk
    clear hk ok2 hn
    go_enter Try.func19, Try.ntmps19
    go_wp2_with fail
    refine (octroiref10_Fill.calls _ _ _ _ _ _ _ _ _ _ HF.out).mono ?_
    rintro e w1 ⟨rfl, hb⟩
    have X1 := blk_below (blk_alloc (blk_new w (.cells #[.int .u64 s0, .int .u64 s1, .int .u64 s2, .int .u64 s3] 34)) (.cells #[.int .u64 0, .int .u64 0, .int .u64 0, .int .u64 0] 34)) hb
    have R1 := blk_below (blk_new (w.alloc (.cells #[.int .u64 s0, .int .u64 s1, .int .u64 s2, .int .u64 s3] 34)) (.cells #[.int .u64 0, .int .u64 0, .int .u64 0, .int .u64 0] 34)) hb
    rw [World.size_alloc] at R1
    have HB := Aside0.mk (below_step (below_alloc (below_alloc (Below.refl w.heap.size w) _) _) hb)
    obtain ⟨⟨c0, c1, c2, c3⟩, f0, f1, f2, f3⟩ := cells4 X1
    obtain ⟨⟨d0, d1, d2, d3⟩, e0, e1, e2, e3⟩ := cells4 R1
    have HX := Aside0.mk X1
    have HR := Aside0.mk R1
    clear X1 R1 hb
    go_wp2_with fail
    refine bodyPost_ret (results_ct rfl _ _ (w.heap.size + 1) 34 _ (0, 0) _ rfl (put4 (far4 HR.out (by omega))) hu34 rfl (by kernel_rfl)) rfl ⟨rfl, ?_⟩
    exact below4 (Nat.le_succ _) (below4 (Nat.le_refl _) HB.out)
  · rw [if_neg hk, show decide (n ≤ K) = true from decide_eq_true (by omega)]
    have hkb : decide (K < n) = false := decide_eq_false hk
    have hw : IntKind.u64.wrap (K - n) = K - n := by
      obtain ⟨-, -, -, ⟨k0, k1⟩⟩ := ok2
      obtain ⟨n0, n1⟩ := hn
      exact wu64 (by omega) (by omega)
    clear hk ok2 hn
    go_enter Try.func19, Try.ntmps19
    go_wp2_with fail
    refine (octroiref10_Fill.calls _ _ _ _ _ _ _ _ _ _ HF.out).mono ?_
    rintro e w1 ⟨rfl, hb⟩
    have X1 := blk_below (blk_alloc (blk_new w (.cells #[.int .u64 s0, .int .u64 s1, .int .u64 s2, .int .u64 s3] 34)) (.cells #[.int .u64 0, .int .u64 0, .int .u64 0, .int .u64 0] 34)) hb
    have R1 := blk_below (blk_new (w.alloc (.cells #[.int .u64 s0, .int .u64 s1, .int .u64 s2, .int .u64 s3] 34)) (.cells #[.int .u64 0, .int .u64 0, .int .u64 0, .int .u64 0] 34)) hb
    rw [World.size_alloc] at R1
    have HB := Aside0.mk (below_step (below_alloc (below_alloc (Below.refl w.heap.size w) _) _) hb)
    obtain ⟨⟨c0, c1, c2, c3⟩, f0, f1, f2, f3⟩ := cells4 X1
    obtain ⟨⟨d0, d1, d2, d3⟩, e0, e1, e2, e3⟩ := cells4 R1
    have HX := Aside0.mk X1
    have HR := Aside0.mk R1
    clear X1 R1 hb
    go_upto_region 5 with (fail)
    have X5 := blk_put (put4 (a' := .int .u64 s0) (b' := .int .u64 s1) (c' := .int .u64 T) (d' := .int .u64 K) HX.out) 3 (.int .u64 (K - n)) rfl
    have R5 := blk_far (far4 (g' := w.heap.size) (a' := .int .u64 s0) (b' := .int .u64 s1) (c' := .int .u64 T) (d' := .int .u64 K) HR.out (by omega)) (p := ⟨w.heap.size, 3, none⟩) (by show w.heap.size + 1 ≠ w.heap.size; omega) (.int .u64 (K - n))
    have B5 := below_set (j := 3) (v := .int .u64 (K - n)) (below4 (a' := .int .u64 s0) (b' := .int .u64 s1) (c' := .int .u64 T) (d' := .int .u64 K) (Nat.le_refl _) HB.out) (Nat.le_refl _)
    generalize (((((w1.setCell ⟨w.heap.size, 0, none⟩ (.int .u64 s0)).setCell ⟨w.heap.size, 1, none⟩ (.int .u64 s1)).setCell ⟨w.heap.size, 2, none⟩ (.int .u64 T)).setCell ⟨w.heap.size, 3, none⟩ (.int .u64 K)).setCell ⟨w.heap.size, 3, none⟩ (.int .u64 (K - n))) = W5 at *
    clear c0 c1 c2 c3 f0 f1 f2 f3 d0 d1 d2 d3 e0 e1 e2 e3 HX HR HB
    obtain ⟨⟨c0, c1, c2, c3⟩, f0, f1, f2, f3⟩ := cells4 X5
    obtain ⟨⟨d0, d1, d2, d3⟩, e0, e1, e2, e3⟩ := cells4 R5
    have HR := Aside0.mk R5
    have HB := Aside0.mk B5
    clear X5 R5 B5
    go_wp2_with fail
    refine bodyPost_ret (results_ct rfl _ _ (w.heap.size + 1) 34 _ (0, 0) _ rfl (put4 HR.out) hu34 rfl (by kernel_rfl)) rfl ⟨rfl, ?_⟩
    exact below4 (Nat.le_succ _) HB.out
end Go.Proofs.Ytdaiabgdlopfiaa.B
