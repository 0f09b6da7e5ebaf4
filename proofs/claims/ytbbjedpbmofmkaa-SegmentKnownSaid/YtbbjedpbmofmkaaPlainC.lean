/- SegmentTells and SegmentFits answer true, in plain Lean; condition: positions are not negative. -/
import Derived.Test.YtbbjedpbmofmkaaPlainB
namespace Go.Proofs.Ytbbjedpbmofmkaa.E
open Go.RowKit Go.Proofs.YtbbjedpbmofmkaaW.PrintWords Go.Proofs.YtbbjedpbmofmkaaW.PrintLast Go.Proofs.YtbbjedpbmofmkaaW.PrintMore
set_option linter.unusedVariables false
set_option linter.unusedSimpArgs false

theorem beq_self' (x : Bool) : (x == x) = true := by cases x <;> rfl

/-- SegmentFits answers true: at the numbers of a position. -/
theorem fits_law (k : Nat) (a b c h t n : Int) (h0 : 0 ≤ h) (t0 : 0 ≤ t) : octroilaw16_SegmentFits.f (k + 4) a b c h t n = some true := by
  unfold octroilaw16_SegmentFits.f octroilaw16_ref.f octroilaw16_works.f
  simp only [Option.bind_some]
  rw [fits_seg k a b c h t n h0 t0, fits_ref (k + 3) a b c h t n h0 t0, Option.bind_some, Option.bind_some, if_pos rfl, if_pos (beq_self' _), room_seg (k + 1) a b c h t h0 t0, room_ref a b c h t h0 t0, Option.bind_some, Option.bind_some, if_pos rfl]

theorem tells_l1 (p x8 x9 x10 x11 x12 : Int) (x13 : Bool) (x14 : Int) (x15 : Bool) (x16 a b c a' b' c' : Int) (d : Nat) : ∀ (k : Nat) (l : List Int) (i : Int), l.length ≤ 2 → 0 ≤ i → i ≤ l.length → (l.length : Int) - i = d →
    octroilaw16_SegmentTells.l0 k p x8 x9 x10 x11 x12 x13 x14 x15 (wrap64 (x16 + 1)) a b c a' b' c' = some true →
    octroilaw16_SegmentTells.l1 (k + 1 + d) p x8 x9 x10 x11 x12 x13 x14 x15 x16 l i a b c a' b' c' = some true := by
  induction d with
  | zero =>
    intro k l i hl h0 h1 hd H
    simp only [octroilaw16_SegmentTells.l1]
    rw [if_neg (by omega)]
    exact H
  | succ d ih =>
    intro k l i hl h0 h1 hd H
    simp only [octroilaw16_SegmentTells.l1]
    rw [if_pos (by omega), if_pos h0, w64 (by omega) (by omega)]
    exact ih k (l.set i.toNat 77) (i + 1) (by simpa using hl) (by omega) (by simp; omega) (by simp; omega) H

theorem tells_end (k : Nat) (p x8 x9 x12 : Int) (x13 : Bool) (i a b c : Int) (hi : 2 ≤ i) : octroilaw16_SegmentTells.l0 (k + 4) p x8 x9 x8 x9 x12 x13 x12 x13 i a b c a b c = some true := by
  simp only [octroilaw16_SegmentTells.l0]
  rw [if_neg (by omega), right_seg, right_ref, Option.bind_some, Option.bind_some, if_pos (beq_self' _), blocks_eq]
  by_cases hr : RightP a b c
  · rw [blocks_ref a b c hr]
    simp only [Option.bind_some]
    rw [if_pos trivial, place_eq]
    cases hm : octroiref16_Place.f a b c p with
    | none =>
      exfalso
      revert hm
      unfold octroiref16_Place.f
      rw [may_ref, Option.bind_some]
      split
      · rw [blocks_ref a b c hr, Option.bind_some]
        obtain ⟨m0, m1⟩ := mul_bd hr.b0 hr.b1 hr.c0 hr.c1
        rw [if_neg (by omega)]; simp
      · simp
    | some q =>
      simp only [Option.bind_some]
      rw [if_pos trivial, if_pos trivial, if_pos trivial, if_pos trivial, if_pos (beq_self' _)]
      rfl
  · rw [blocks_ref_no a b c hr]
    simp only [Option.bind_some]
    rw [if_pos trivial, place_eq]
    cases hm : octroiref16_Place.f a b c p with
    | none =>
      exfalso
      revert hm
      unfold octroiref16_Place.f
      rw [may_ref, Option.bind_some, mayB, rightB_false hr]
      simp
    | some q =>
      simp only [Option.bind_some]
      rw [if_pos trivial, if_pos trivial, if_pos trivial, if_pos trivial, if_pos (beq_self' _)]
      rfl

theorem tells_l0 (d : Nat) : ∀ (k : Nat) (p x8 x9 x12 : Int) (x13 : Bool) (i a b c : Int), 0 ≤ p → 0 ≤ i → i + d = 2 → 4 + 4 * d ≤ k → octroilaw16_SegmentTells.l0 k p x8 x9 x8 x9 x12 x13 x12 x13 i a b c a b c = some true := by
  induction d with
  | zero =>
    intro k p x8 x9 x12 x13 i a b c h0 hi hd hk
    obtain ⟨k, rfl⟩ : ∃ m, k = m + 4 := ⟨k - 4, by omega⟩
    exact tells_end k p x8 x9 x12 x13 i a b c (by omega)
  | succ d ih =>
    intro k p x8 x9 x12 x13 i a b c h0 hi hd hk
    obtain ⟨k, rfl⟩ : ∃ m, k = m + 4 := ⟨k - 4, by omega⟩
    have hs := starts_len a b c p
    have hnext := ih (k + 3 - 1 - (startsV a b c p).length) p x8 x9 x12 x13 (i + 1) a b c h0 (by omega) (by omega) (by omega)
    simp only [octroilaw16_SegmentTells.l0]
    rw [if_pos (by omega), starts_seg k a b c p h0, starts_ref a b c p h0, Option.bind_some, Option.bind_some, same_eq k _ hs, Option.bind_some, if_pos rfl]
    rw [show k + 3 = (k + 3 - 1 - (startsV a b c p).length) + 1 + (startsV a b c p).length from by omega]
    exact tells_l1 p x8 x9 x8 x9 x12 x13 x12 x13 i a b c a b c _ _ _ 0 hs (by omega) (by omega) (by omega) (by rw [w64 (by omega) (by omega)]; exact hnext)

theorem tells_law (k : Nat) (a b c p n : Int) (h0 : 0 ≤ p) : octroilaw16_SegmentTells.f (k + 12) a b c p n = some true := by
  unfold octroilaw16_SegmentTells.f octroilaw16_ref.f
  simp only [Option.bind_some]
  rw [segment_eq (k + 9), start_seg (k + 8) a b c p n h0, start_ref (k + 11) a b c p n h0]
  have hq : ∃ q, octroiref16_Segment.f a b c p = some q := by
    cases hm : mayB a b c p with
    | true => exact ⟨_, segment_ref a b c p hm h0⟩
    | false => exact ⟨_, segment_ref_no a b c p hm⟩
  obtain ⟨q, hq⟩ := hq
  rw [hq]
  simp only [Option.bind_some]
  exact tells_l0 2 (k + 12) p q.1 q.2 _ _ 0 a b c h0 (by omega) (by omega) (by omega)
end Go.Proofs.Ytbbjedpbmofmkaa.E
