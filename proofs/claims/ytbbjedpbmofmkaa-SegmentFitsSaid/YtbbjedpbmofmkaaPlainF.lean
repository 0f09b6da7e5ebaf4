/- The loops of SegmentKnown answer true, in plain Lean; no condition. -/
import Derived.Test.YtbbjedpbmofmkaaPlainE
namespace Go.Proofs.Ytbbjedpbmofmkaa.E
open Go.RowKit Go.Proofs.YtbbjedpbmofmkaaW.PrintWords Go.Proofs.YtbbjedpbmofmkaaW.PrintLast Go.Proofs.YtbbjedpbmofmkaaW.PrintMore
set_option linter.unusedVariables false
set_option linter.unusedSimpArgs false

theorem wu_nonneg (x : Int) : 0 ≤ IntKind.u64.wrap x := by simp only [IntKind.wrap_u64]; omega

theorem known_l4 (l : List S23) (hl : l.length ≤ 100) (d : Nat) : ∀ (k : Nat) (i : Int), 0 ≤ i → i + d = l.length → 20 + d ≤ k → octroilaw16_SegmentKnown.l4 k l i = some true := by
  induction d with
  | zero =>
    intro k i h0 hd hk
    obtain ⟨k, rfl⟩ : ∃ m, k = m + 1 := ⟨k - 1, by omega⟩
    rw [octroilaw16_SegmentKnown.l4, if_neg (by omega)]; rfl
  | succ d ih =>
    intro k i h0 hd hk
    obtain ⟨k, rfl⟩ : ∃ m, k = m + 12 + 1 := ⟨k - 13, by omega⟩
    have T : ∀ p n, 0 ≤ p → octroilaw16_SegmentTells.f (k + 12) (rd_T23 l i).f0 (rd_T23 l i).f1 (rd_T23 l i).f2 p n = some true := fun p n h => tells_law k _ _ _ p n h
    have F : ∀ h t n, 0 ≤ h → 0 ≤ t → octroilaw16_SegmentFits.f (k + 12) (rd_T23 l i).f0 (rd_T23 l i).f1 (rd_T23 l i).f2 h t n = some true := fun h t n h0 t0 => fits_law (k + 8) _ _ _ h t n h0 t0
    rw [octroilaw16_SegmentKnown.l4, if_pos (by omega), if_pos h0, T 5 1 (by decide), Option.bind_some, if_pos rfl, T 4611686018427387903 2 (by decide), Option.bind_some, if_pos rfl, T 4611686018427387904 2 (by decide), Option.bind_some, if_pos rfl,
      F 9 8 1 (by decide) (by decide), Option.bind_some, if_pos rfl, F 4611686018427387903 4611686018427387904 1 (by decide) (by decide), Option.bind_some, if_pos rfl, F 0 1024 1 (by decide) (by decide), Option.bind_some, if_pos rfl, F 0 1025 1 (by decide) (by decide), Option.bind_some, if_pos rfl,
      w64 (by omega) (by omega)]
    exact ih (k + 12) (i + 1) (by omega) (by omega) (by omega)

theorem known_l3 (x1 x2 : Int) (x4 : List S52) (x5 a b c : Int) (h4 : x4.length ≤ 1000) (h2 : 0 < x2 ∧ x2 < 10) (K : Nat)
    (next : ∀ (f : Nat) (x4' : List S52), x4'.length = x4.length + 1 → K ≤ f → octroilaw16_SegmentKnown.l2 f x1 x2 x4' (wrap64 (x5 + 1)) a b c = some true) (d : Nat) :
    ∀ (k : Nat) (i : Int), -1 ≤ i → i + d = 7 → K + 20 + d ≤ k → octroilaw16_SegmentKnown.l3 k x1 x2 x4 x5 i a b c = some true := by
  induction d with
  | zero =>
    intro k i h0 hd hk
    obtain ⟨k, rfl⟩ : ∃ m, k = m + 1 := ⟨k - 1, by omega⟩
    rw [octroilaw16_SegmentKnown.l3, if_neg (by omega), w64 (x := x2 + 2) (by omega) (by omega), if_neg (by omega), if_pos (by omega)]
    exact next k _ (by simp) (by omega)
  | succ d ih =>
    intro k i h0 hd hk
    obtain ⟨k, rfl⟩ : ∃ m, k = m + 12 + 1 := ⟨k - 13, by omega⟩
    rw [octroilaw16_SegmentKnown.l3, if_pos (by omega), tells_law k a b c _ i (wu_nonneg _), Option.bind_some, if_pos rfl, fits_law (k + 8) a b c _ _ i (wu_nonneg _) (wu_nonneg _), Option.bind_some, if_pos rfl, w64 (by omega) (by omega)]
    exact ih (k + 12) (i + 1) (by omega) (by omega) (by omega)

theorem known_l2 (x1 x2 a b c : Int) (h1 : 0 < x1 ∧ x1 < 10) (h2 : 0 < x2 ∧ x2 < 10) (m : Int) (hm : wrap64 (wrap64 (wrap64 (2 * x1) * x2) + 1) = m) (hb : m ≤ 400) (K : Nat) (hK : 67000 ≤ K)
    (next : ∀ f, K ≤ f → octroilaw16_SegmentKnown.l1 f x1 (x2 + 1) = some true) (d : Nat) :
    ∀ (k : Nat) (x4 : List S52) (i : Int), 0 ≤ i → i + d = m → (x4.length : Int) ≤ i → K + 50 + 50 * d ≤ k → octroilaw16_SegmentKnown.l2 k x1 x2 x4 i a b c = some true := by
  induction d with
  | zero =>
    intro k x4 i h0 hd h4 hk
    obtain ⟨k, rfl⟩ : ∃ m, k = m + 67000 + 1 := ⟨k - 67001, by omega⟩
    rw [octroilaw16_SegmentKnown.l2, hm, if_neg (by omega), ring_law k a b c _ x4 (wu_nonneg _), Option.bind_some, if_pos rfl, ring_law k a b c _ x4 (by decide), Option.bind_some, if_pos rfl, w64 (by omega) (by omega)]
    exact next _ (by omega)
  | succ d ih =>
    intro k x4 i h0 hd h4 hk
    obtain ⟨k, rfl⟩ : ∃ m, k = m + 1 := ⟨k - 1, by omega⟩
    rw [octroilaw16_SegmentKnown.l2, hm, if_pos (by omega)]
    refine known_l3 x1 x2 x4 i a b c (by omega) h2 (K + 50 + 50 * d) ?_ 8 k (-1) (by omega) (by omega) (by omega)
    intro f x4' hl hf
    rw [w64 (by omega) (by omega)]
    exact ih f x4' (i + 1) (by omega) (by omega) (by omega) (by omega)

theorem known_l1 (x1 : Int) (h1 : 0 < x1 ∧ x1 < 5) (K : Nat) (hK : 67000 ≤ K) (next : ∀ f, K ≤ f → octroilaw16_SegmentKnown.l0 f (x1 + 1) = some true) (d : Nat) :
    ∀ (k : Nat) (x2 : Int), 1 ≤ x2 → x2 + d = 6 → K + (d + 1) * 30000 ≤ k → octroilaw16_SegmentKnown.l1 k x1 x2 = some true := by
  induction d with
  | zero =>
    intro k x2 h0 hd hk
    obtain ⟨k, rfl⟩ : ∃ m, k = m + 1 := ⟨k - 1, by omega⟩
    rw [octroilaw16_SegmentKnown.l1, if_neg (by omega), w64 (by omega) (by omega)]
    exact next k (by omega)
  | succ d ih =>
    intro k x2 h0 hd hk
    obtain ⟨k, rfl⟩ : ∃ m, k = m + 1 := ⟨k - 1, by omega⟩
    rw [octroilaw16_SegmentKnown.l1, if_pos (by omega)]
    have hp : 0 ≤ 2 * x1 * x2 ∧ 2 * x1 * x2 ≤ 80 := by
      have a1 : 0 ≤ 2 * x1 * x2 := Int.mul_nonneg (by omega) (by omega)
      have a2 : 2 * x1 * x2 ≤ 10 * x2 := Int.mul_le_mul_of_nonneg_right (by omega) (by omega)
      omega
    obtain ⟨K', hK'⟩ : ∃ K', K' = K + (d + 1) * 30000 := ⟨_, rfl⟩
    have q0 : 67000 ≤ K' := by omega
    have q1 : K' + 50 + 50 * (2 * x1 * x2 + 1).toNat ≤ k := by omega
    refine known_l2 x1 x2 _ x1 x2 ⟨by omega, by omega⟩ ⟨by omega, by omega⟩ (2 * x1 * x2 + 1) ?_ (by omega) K' q0 ?_ (2 * x1 * x2 + 1).toNat k [] 0 (Int.le_refl _) (by omega) (Int.le_refl _) q1
    · rw [w64 (x := 2 * x1) (by omega) (by omega), w64 (x := 2 * x1 * x2) (by omega) (by omega), w64 (by omega) (by omega)]
    · intro f hf
      exact ih f (x2 + 1) (by omega) (by omega) (hK' ▸ hf)

theorem known_l0 (d : Nat) : ∀ (k : Nat) (x1 : Int), 2 ≤ x1 → x1 + d = 5 → 68000 + d * 200000 ≤ k → octroilaw16_SegmentKnown.l0 k x1 = some true := by
  induction d with
  | zero =>
    intro k x1 h0 hd hk
    obtain ⟨k, rfl⟩ : ∃ m, k = m + 1 := ⟨k - 1, by omega⟩
    rw [octroilaw16_SegmentKnown.l0, if_neg (by omega)]
    exact known_l4 _ (by decide) 12 k 0 (by decide) (by rfl) (by omega)
  | succ d ih =>
    intro k x1 h0 hd hk
    obtain ⟨k, rfl⟩ : ∃ m, k = m + 1 := ⟨k - 1, by omega⟩
    rw [octroilaw16_SegmentKnown.l0, if_pos (by omega)]
    obtain ⟨K', hK'⟩ : ∃ K', K' = 68000 + d * 200000 := ⟨_, rfl⟩
    have q0 : 67000 ≤ K' := by omega
    have q1 : K' + (5 + 1) * 30000 ≤ k := by omega
    refine known_l1 x1 ⟨by omega, by omega⟩ K' q0 ?_ 5 k 1 (Int.le_refl _) rfl q1
    intro f hf
    exact ih f (x1 + 1) (by omega) (by omega) (hK' ▸ hf)
end Go.Proofs.Ytbbjedpbmofmkaa.E
