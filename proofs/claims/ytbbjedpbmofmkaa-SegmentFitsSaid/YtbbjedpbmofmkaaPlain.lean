/- segment.Ring and the reference: right rings, blocks, places: the same answers, in plain Lean; conditions: as each lemma says. -/
import Derived.Test.YtbbjedpbmofmkaaEx
namespace Go.Proofs.Ytbbjedpbmofmkaa.E
open Go.RowKit Go.Proofs.YtbbjedpbmofmkaaW.PrintWords Go.Proofs.YtbbjedpbmofmkaaW.PrintLast Go.Proofs.YtbbjedpbmofmkaaW.PrintMore
set_option linter.unusedVariables false
set_option linter.unusedSimpArgs false

/-- A ring that is right. -/
structure RightP (a b c : Int) : Prop where
  a0 : 0 ≤ a
  a1 : a ≤ 1024
  b0 : 2 ≤ b
  b1 : b ≤ 64
  c0 : 1 ≤ c
  c1 : c ≤ 1024
  s : a + b * c ≤ 1024

theorem mul_bd {b c : Int} (b0 : 2 ≤ b) (b1 : b ≤ 64) (c0 : 1 ≤ c) (c1 : c ≤ 1024) : 2 ≤ b * c ∧ b * c ≤ 65536 := by
  have h1 : 2 * c ≤ b * c := Int.mul_le_mul_of_nonneg_right b0 (by omega)
  have h2 : b * c ≤ 64 * c := Int.mul_le_mul_of_nonneg_right b1 (by omega)
  omega

theorem w64 {x : Int} (h0 : -9223372036854775808 ≤ x) (h1 : x ≤ 9223372036854775807) : wrap64 x = x := by unfold wrap64; omega
theorem wu64 {x : Int} (h0 : 0 ≤ x) (h1 : x ≤ 18446744073709551615) : IntKind.u64.wrap x = x := by
  simp only [IntKind.wrap_u64]; omega

instance (a b c : Int) : Decidable (RightP a b c) :=
  if h : 0 ≤ a ∧ a ≤ 1024 ∧ 2 ≤ b ∧ b ≤ 64 ∧ 1 ≤ c ∧ c ≤ 1024 ∧ a + b * c ≤ 1024 then .isTrue ⟨h.1, h.2.1, h.2.2.1, h.2.2.2.1, h.2.2.2.2.1, h.2.2.2.2.2.1, h.2.2.2.2.2.2⟩
  else .isFalse fun k => h ⟨k.a0, k.a1, k.b0, k.b1, k.c0, k.c1, k.s⟩
def rightB (a b c : Int) : Bool := decide (RightP a b c)

theorem right_ref (a b c : Int) : octroiref16_Right.f a b c = some (rightB a b c) := by
  unfold octroiref16_Right.f rightB
  by_cases a0 : 0 ≤ a
  · by_cases a1 : a ≤ 1024
    · by_cases b0 : 2 ≤ b
      · by_cases b1 : b ≤ 64
        · by_cases c0 : 1 ≤ c
          · by_cases c1 : c ≤ 1024
            · rw [if_pos a0, if_pos a1, if_pos b0, if_pos b1, if_pos c0, if_pos c1]
              obtain ⟨m0, m1⟩ := mul_bd b0 b1 c0 c1
              rw [w64 (x := b * c) (by omega) (by omega), w64 (by omega) (by omega)]
              congr 1
              by_cases s : a + b * c ≤ 1024
              · rw [decide_eq_true s, decide_eq_true]; exact ⟨a0, a1, b0, b1, c0, c1, s⟩
              · rw [decide_eq_false s, decide_eq_false]; exact fun h => s h.s
            · rw [if_pos a0, if_pos a1, if_pos b0, if_pos b1, if_pos c0, if_neg c1, decide_eq_false]; exact fun h => c1 h.c1
          · rw [if_pos a0, if_pos a1, if_pos b0, if_pos b1, if_neg c0, decide_eq_false]; exact fun h => c0 h.c0
        · rw [if_pos a0, if_pos a1, if_pos b0, if_neg b1, decide_eq_false]; exact fun h => b1 h.b1
      · rw [if_pos a0, if_pos a1, if_neg b0, decide_eq_false]; exact fun h => b0 h.b0
    · rw [if_pos a0, if_neg a1, decide_eq_false]; exact fun h => a1 h.a1
  · rw [if_neg a0, decide_eq_false]; exact fun h => a0 h.a0

theorem right_seg (a b c : Int) : segment_Ring_Right.f a b c = some (rightB a b c) := by
  rw [← right_ref]
  unfold segment_Ring_Right.f octroiref16_Right.f
  by_cases a0 : 0 ≤ a
  · rw [if_neg (show ¬ a < 0 by omega), if_pos (show a ≥ 0 from a0)]
    by_cases a1 : a ≤ 1024
    · rw [if_neg (show ¬ a > 1024 by omega), if_pos a1]
      by_cases b0 : 2 ≤ b
      · rw [if_neg (show ¬ b < 2 by omega), if_pos (show b ≥ 2 from b0)]
        by_cases b1 : b ≤ 64
        · rw [if_neg (show ¬ b > 64 by omega), if_pos b1]
          by_cases c0 : 1 ≤ c
          · rw [if_neg (show ¬ c < 1 by omega), if_pos (show c ≥ 1 from c0)]
            by_cases c1 : c ≤ 1024
            · rw [if_neg (show ¬ c > 1024 by omega), if_pos c1]
            · rw [if_pos (show c > 1024 by omega), if_neg c1]
          · rw [if_pos (show c < 1 by omega), if_neg (show ¬ c ≥ 1 from c0)]
        · rw [if_pos (show b > 64 by omega), if_neg b1]
      · rw [if_pos (show b < 2 by omega), if_neg (show ¬ b ≥ 2 from b0)]
    · rw [if_pos (show a > 1024 by omega), if_neg a1]
  · rw [if_pos (show a < 0 by omega), if_neg (show ¬ a ≥ 0 from a0)]

theorem rightB_true {a b c : Int} (h : RightP a b c) : rightB a b c = true := decide_eq_true h
theorem rightB_false {a b c : Int} (h : ¬ RightP a b c) : rightB a b c = false := decide_eq_false h

/-- Is a position one that may be? -/
def mayB (a b c p : Int) : Bool := rightB a b c && decide (p < 4611686018427387904)

theorem may0 (k : Nat) (a b c : Int) : segment_Ring_may.f (k + 3) a b c [] = some (rightB a b c) := by
  unfold segment_Ring_may.f segment_Ring_may.l0
  simp [right_seg]

theorem may1 (k : Nat) (a b c p : Int) : segment_Ring_may.f (k + 3) a b c [p] = some (mayB a b c p) := by
  unfold segment_Ring_may.f mayB
  simp only [segment_Ring_may.l0, show (([p] : List Int).length : Int) = 1 from rfl]
  by_cases h : p < 4611686018427387904
  · rw [if_pos (by decide), if_pos (by decide), if_pos (by decide), if_neg (by show ¬ p ≥ _; omega)]
    have e : wrap64 (0 + 1) = 1 := w64 (by decide) (by decide)
    rw [e, if_neg (by decide), right_seg]
    simp [h]
  · rw [if_pos (by decide), if_pos (by decide), if_pos (by decide), if_pos (by show p ≥ _; omega)]
    simp [h]

theorem may2 (k : Nat) (a b c p q : Int) : segment_Ring_may.f (k + 3) a b c [p, q] = some (mayB a b c p && mayB a b c q) := by
  unfold segment_Ring_may.f mayB
  simp only [segment_Ring_may.l0, show (([p, q] : List Int).length : Int) = 2 from rfl]
  have e : wrap64 (0 + 1) = 1 := w64 (by decide) (by decide)
  have e2 : wrap64 (1 + 1) = 2 := w64 (by decide) (by decide)
  by_cases h : p < 4611686018427387904
  · rw [if_pos (by decide), if_pos (by decide), if_pos (by decide), if_neg (by show ¬ p ≥ _; omega), e]
    by_cases h2 : q < 4611686018427387904
    · rw [if_pos (by decide), if_pos (by decide), if_pos (by decide), if_neg (by show ¬ q ≥ _; omega), e2, if_neg (by decide), right_seg]
      simp [h, h2]
    · rw [if_pos (by decide), if_pos (by decide), if_pos (by decide), if_pos (by show q ≥ _; omega)]
      simp [h2]
  · rw [if_pos (by decide), if_pos (by decide), if_pos (by decide), if_pos (by show p ≥ _; omega)]
    simp [h]

theorem may_ref (a b c p : Int) : octroiref16_may.f a b c p = some (mayB a b c p) := by
  unfold octroiref16_may.f mayB
  rw [right_ref]
  cases rightB a b c <;> simp

theorem blocks_seg (k : Nat) (a b c : Int) (h : RightP a b c) : segment_Ring_Blocks.f (k + 3) a b c = some (b * c) := by
  unfold segment_Ring_Blocks.f
  obtain ⟨m0, m1⟩ := mul_bd h.b0 h.b1 h.c0 h.c1
  rw [may0, rightB_true h, Option.bind_some, if_pos rfl, wu64 (x := b) (by have := h.b0; omega) (by have := h.b1; omega), wu64 (x := c) (by have := h.c0; omega) (by have := h.c1; omega), wu64 (by omega) (by omega)]
theorem blocks_seg_no (k : Nat) (a b c : Int) (h : ¬ RightP a b c) : segment_Ring_Blocks.f (k + 3) a b c = some 0 := by
  unfold segment_Ring_Blocks.f
  rw [may0, rightB_false h, Option.bind_some, if_neg (by decide)]
theorem blocks_ref (a b c : Int) (h : RightP a b c) : octroiref16_Blocks.f a b c = some (b * c) := by
  unfold octroiref16_Blocks.f
  obtain ⟨m0, m1⟩ := mul_bd h.b0 h.b1 h.c0 h.c1
  rw [right_ref, rightB_true h, Option.bind_some, if_pos rfl, w64 (by omega) (by omega), wu64 (by omega) (by omega)]
theorem blocks_ref_no (a b c : Int) (h : ¬ RightP a b c) : octroiref16_Blocks.f a b c = some 0 := by
  unfold octroiref16_Blocks.f
  rw [right_ref, rightB_false h, Option.bind_some, if_neg (by decide)]
theorem blocks_eq (k : Nat) (a b c : Int) : segment_Ring_Blocks.f (k + 3) a b c = octroiref16_Blocks.f a b c := by
  by_cases h : RightP a b c
  · rw [blocks_seg k a b c h, blocks_ref a b c h]
  · rw [blocks_seg_no k a b c h, blocks_ref_no a b c h]

theorem may_right {a b c p : Int} (h : mayB a b c p = true) : RightP a b c ∧ p < 4611686018427387904 := by
  unfold mayB rightB at h
  simpa using h

/-- A position's place in its segment, and that segment. -/
theorem segment_ref (a b c p : Int) (h : mayB a b c p = true) (h0 : 0 ≤ p) : octroiref16_Segment.f a b c p = some (p % (b * c) / c, p % (b * c) % c) := by
  obtain ⟨hr, hp⟩ := may_right h
  obtain ⟨m0, m1⟩ := mul_bd hr.b0 hr.b1 hr.c0 hr.c1
  have hc0 := hr.c0
  unfold octroiref16_Segment.f
  have q0 := Int.emod_nonneg p (show b * c ≠ 0 by omega)
  have q1 := Int.emod_lt_of_pos p (show 0 < b * c by omega)
  have d0 : 0 ≤ p % (b * c) / c := Int.ediv_nonneg q0 (by omega)
  have d1 : p % (b * c) / c ≤ p % (b * c) := Int.ediv_le_self _ q0
  rw [may_ref, h, Option.bind_some, if_pos rfl, blocks_ref a b c hr, Option.bind_some, if_neg (by omega), if_neg (by omega), Int.tmod_eq_emod_of_nonneg h0, w64 (x := p % (b * c)) (by omega) (by omega),
    Int.tdiv_eq_ediv_of_nonneg q0, Int.tmod_eq_emod_of_nonneg q0, w64 (by omega) (by omega)]
theorem segment_ref_no (a b c p : Int) (h : mayB a b c p = false) : octroiref16_Segment.f a b c p = some (0, 0) := by
  unfold octroiref16_Segment.f
  rw [may_ref, h, Option.bind_some, if_neg (by decide)]
theorem segment_eq (k : Nat) (a b c p : Int) : segment_Ring_Segment.f (k + 3) a b c p = octroiref16_Segment.f a b c p := by
  unfold segment_Ring_Segment.f octroiref16_Segment.f
  rw [may1, may_ref, blocks_eq]

theorem place_ref (a b c p : Int) (h : mayB a b c p = true) (h0 : 0 ≤ p) : octroiref16_Place.f a b c p = some (a + p % (b * c)) := by
  obtain ⟨hr, hp⟩ := may_right h
  obtain ⟨m0, m1⟩ := mul_bd hr.b0 hr.b1 hr.c0 hr.c1
  have q0 := Int.emod_nonneg p (show b * c ≠ 0 by omega)
  have q1 := Int.emod_lt_of_pos p (show 0 < b * c by omega)
  have a0 := hr.a0
  have a1 := hr.a1
  unfold octroiref16_Place.f
  rw [may_ref, h, Option.bind_some, if_pos rfl, blocks_ref a b c hr, Option.bind_some, if_neg (by omega), Int.tmod_eq_emod_of_nonneg h0, w64 (x := p % (b * c)) (by omega) (by omega), w64 (by omega) (by omega)]
theorem place_ref_no (a b c p : Int) (h : mayB a b c p = false) : octroiref16_Place.f a b c p = some 0 := by
  unfold octroiref16_Place.f
  rw [may_ref, h, Option.bind_some, if_neg (by decide)]
theorem place_eq (k : Nat) (a b c p : Int) : segment_Ring_Place.f (k + 3) a b c p = octroiref16_Place.f a b c p := by
  unfold segment_Ring_Place.f octroiref16_Place.f
  rw [may1, may_ref, blocks_eq]
end Go.Proofs.Ytbbjedpbmofmkaa.E
