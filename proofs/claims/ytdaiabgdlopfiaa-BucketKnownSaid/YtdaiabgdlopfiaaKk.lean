/- BucketKnown answers true, in plain Lean; no condition. -/
import Derived.Test.YtdaiabgdlopfiaaKv
import Derived.Test.YtdaiabgdlopfiaaKx4
namespace Go.Proofs.Ytdaiabgdlopfiaa.K
open Go.RowKit Go.Proofs.YtdaiabgdlopfiaaW.PrintWords Go.Proofs.YtdaiabgdlopfiaaW.PrintLast Go.Proofs.YtdaiabgdlopfiaaW.PrintMore
open Go.Proofs.Ytdaiabgdlopfiaa.B (U64 u64B u64B_iff)
set_option linter.unusedVariables false
set_option linter.unusedSimpArgs false

/-- The numbers about the bounds. -/
def nums : List Int := [0, 1, 2, 3, 10, 4294967296, 9223372036854775808, 18446744073709551614, 18446744073709551615]
theorem nums_len : (nums.length : Int) = 9 := rfl
theorem nums_u (i : Int) : U64 (rd nums i) := by
  unfold rd
  have h : ∀ x ∈ nums, U64 x := by
    intro x hx
    simp only [nums, List.mem_cons, List.not_mem_nil, or_false] at hx
    rcases hx with rfl | rfl | rfl | rfl | rfl | rfl | rfl | rfl | rfl <;> exact ⟨by decide, by decide⟩
  rw [List.getD_eq_getElem?_getD]
  by_cases hi : i.toNat < nums.length
  · rw [List.getElem?_eq_getElem hi]; exact h _ (List.getElem_mem _)
  · rw [List.getElem?_eq_none (by omega)]; exact ⟨by decide, by decide⟩
theorem lt_len {x : Int} (h : x < 9) : x < (nums.length : Int) := by rw [nums_len]; exact h
theorem k64 {x : Int} (h0 : -9223372036854775808 ≤ x) (h1 : x < 9223372036854775808) : wrap64 x = x := by unfold wrap64; omega
theorem div_mod {x d : Int} (h0 : 0 ≤ x) (h1 : x ≤ 100003) (hd : 0 < d) : 0 ≤ Int.tmod (wrap64 (Int.tdiv x d)) 9 ∧ Int.tmod (wrap64 (Int.tdiv x d)) 9 < 9 := by
  rw [Int.tdiv_eq_ediv_of_nonneg h0]
  have q0 : 0 ≤ x / d := Int.ediv_nonneg h0 (by omega)
  have q1 : x / d ≤ x := Int.ediv_le_self _ h0
  rw [k64 (by omega) (by omega), Int.tmod_eq_emod_of_nonneg q0]
  omega
theorem mod9 {x : Int} (h0 : 0 ≤ x) : 0 ≤ Int.tmod x 9 ∧ Int.tmod x 9 < 9 := by
  rw [Int.tmod_eq_emod_of_nonneg h0]; omega
theorem step_k {x n : Int} (h0 : 0 ≤ x) (h1 : x ≤ 100003) (hn : 0 ≤ n) (hn1 : n ≤ 12) : 0 ≤ Int.tmod (wrap64 ((wrap64 ((wrap64 (x * 31)) + (wrap64 (7 * n)))) + 11)) 100003 ∧ Int.tmod (wrap64 ((wrap64 ((wrap64 (x * 31)) + (wrap64 (7 * n)))) + 11)) 100003 ≤ 100003 := by
  rw [k64 (x := x * 31) (by omega) (by omega), k64 (x := 7 * n) (by omega) (by omega), k64 (x := x * 31 + 7 * n) (by omega) (by omega), k64 (by omega) (by omega), Int.tmod_eq_emod_of_nonneg (by omega)]
  omega
theorem u16B (x : Int) : 0 ≤ IntKind.u16.wrap x ∧ IntKind.u16.wrap x ≤ 65535 := by
  simp only [IntKind.wrap_u16]; omega

/-- One bucket's acts: twelve of them; then all three laws hold, and the next one begins. -/
theorem acts_loop (x3 x4 : Int) (h30 : 0 ≤ x3) (h31 : x3 < 9) (h40 : 0 ≤ x4) (h41 : x4 < 9) : ∀ (d : Nat) (x2 : Int) (l : List S40) (x6 : Int) (k : Nat), 0 ≤ x2 → x2 ≤ 100003 → l.length = x6.toNat → 0 ≤ x6 → (12 - x6) = d → (∀ x ∈ l, U64 x.f1 ∧ U64 x.f2) →
    (∀ y2, 0 ≤ y2 → y2 ≤ 100003 → octroilaw10_BucketKnown.l1 (k + 121) nums y2 x3 (x4 + 1) = some true) →
    octroilaw10_BucketKnown.l2 (k + 121 + 2 + d) nums x2 x3 x4 l x6 = some true := by
  intro d
  induction d with
  | zero =>
    intro x2 l x6 k h20 h21 hl h60 hd hu H
    have m0 := mod9 h20
    have m1 := div_mod (d := 9) h20 h21 (by decide)
    have m2 := div_mod (d := 81) h20 h21 (by decide)
    have m3 := div_mod (d := 729) h20 h21 (by decide)
    have hb : boundsB (IntKind.u16.wrap (wrap64 (x3 * x4))) (IntKind.u16.wrap (wrap64 (x4 * 5))) [0, 1, rd nums x3, 3, rd nums x4, 0, 2] [5, 1, IntKind.u16.wrap x2, 9, 3, 4, 1] = true := by
      have a := u16B (wrap64 (x3 * x4))
      have b := u16B (wrap64 (x4 * 5))
      have c := u16B x2
      have e := u64B_iff.2 (nums_u x3)
      have f := u64B_iff.2 (nums_u x4)
      unfold boundsB
      rw [decide_eq_true a.1, decide_eq_true a.2, decide_eq_true b.1, decide_eq_true b.2]
      simp only [List.all_cons, List.all_nil, e, f, decide_eq_true c.1, decide_eq_true c.2]
      rfl
    generalize hq : k + 121 = q at *
    show octroilaw10_BucketKnown.l2 (q + 1 + 1) nums x2 x3 x4 l x6 = some true
    rw [octroilaw10_BucketKnown.l2, if_neg (by omega)]
    rw [if_pos h30, if_pos (lt_len h31), if_pos h40, if_pos (lt_len h41), if_pos m0.1, if_pos (lt_len m0.2), plays_law (nums_u _) (nums_u _) (nums_u _) l hu (q + 1) (by omega), Option.bind_some, if_pos rfl, if_pos m1.1, if_pos (lt_len m1.2), if_pos m2.1, if_pos (lt_len m2.2), if_pos m3.1, if_pos (lt_len m3.2)]
    unfold octroilaw10_BucketWaits.f
    rw [if_pos ⟨u64B_iff.2 (nums_u _), u64B_iff.2 (nums_u _), u64B_iff.2 (nums_u _), u64B_iff.2 (nums_u _), u64B_iff.2 (nums_u _), u64B_iff.2 (nums_u _)⟩, Option.bind_some, octroilaw10_BucketKnown.j3, if_neg (by decide)]
    rw [if_pos h30, if_pos (lt_len h31), if_pos h40, if_pos (lt_len h41)]
    unfold octroilaw10_BucketBounds.f
    rw [if_pos hb, Option.bind_some, if_pos rfl, k64 (by omega) (by omega)]
    exact H _ h20 h21
  | succ d ih =>
    intro x2 l x6 k h20 h21 hl h60 hd hu H
    have m1 := div_mod (d := 3) h20 h21 (by decide)
    have m2 := div_mod (d := 27) h20 h21 (by decide)
    have s := step_k (n := x6) h20 h21 h60 (by omega)
    show octroilaw10_BucketKnown.l2 ((k + 121 + 2 + d) + 1) nums x2 x3 x4 l x6 = some true
    have IH := ih _ (l ++ [(⟨Int.tmod x2 3, rd nums (Int.tmod (wrap64 (Int.tdiv x2 3)) 9), rd nums (Int.tmod (wrap64 (Int.tdiv x2 27)) 9)⟩ : S40)]) (x6 + 1) k s.1 s.2 (by rw [List.length_append, hl, List.length_singleton]; omega) (by omega) (by omega)
      (by intro x hx; rw [List.mem_append, List.mem_singleton] at hx; rcases hx with hx | rfl; · exact hu x hx
          · exact ⟨nums_u _, nums_u _⟩) H
    generalize k + 121 + 2 + d = q at *
    rw [octroilaw10_BucketKnown.l2, if_pos (by omega)]
    rw [if_pos m1.1, if_pos (lt_len m1.2), if_pos m2.1, if_pos (lt_len m2.2), if_pos (by omega), k64 (x := x6 + 1) (by omega) (by omega)]
    exact IH

theorem row_loop (x3 : Int) (h30 : 0 ≤ x3) (h31 : x3 < 9) : ∀ (d : Nat) (x2 x4 : Int) (k : Nat), 0 ≤ x2 → x2 ≤ 100003 → 0 ≤ x4 → 9 - x4 = d → (∀ y2, 0 ≤ y2 → y2 ≤ 100003 → octroilaw10_BucketKnown.l0 (k + 121) nums y2 (x3 + 1) = some true) →
    octroilaw10_BucketKnown.l1 (k + 15 * d + 1 + 121) nums x2 x3 x4 = some true := by
  intro d
  induction d with
  | zero =>
    intro x2 x4 k h20 h21 h40 hd H
    show octroilaw10_BucketKnown.l1 ((k + 121) + 1) nums x2 x3 x4 = some true
    rw [octroilaw10_BucketKnown.l1, if_neg (by rw [nums_len]; omega), k64 (by omega) (by omega)]
    exact H _ h20 h21
  | succ d ih =>
    intro x2 x4 k h20 h21 h40 hd H
    have A := acts_loop x3 x4 h30 h31 h40 (by omega) 12 x2 [] 0 (k + 15 * d + 1) h20 h21 rfl (by decide) (by decide) (fun x hx => absurd hx (by simp)) (fun y2 a b => ih y2 (x4 + 1) k a b (by omega) (by omega) H)
    rw [show k + 15 * (d + 1) + 1 + 121 = (k + 15 * d + 1 + 121 + 2 + 12) + 1 by omega]
    generalize k + 15 * d + 1 + 121 + 2 + 12 = q at *
    rw [octroilaw10_BucketKnown.l1, if_pos (by rw [nums_len]; omega)]
    exact A

theorem all_loop : ∀ (d : Nat) (x2 x3 : Int) (k : Nat), 0 ≤ x2 → x2 ≤ 100003 → 0 ≤ x3 → 9 - x3 = d → octroilaw10_BucketKnown.l0 (k + 137 * d + 2 + 121) nums x2 x3 = some true := by
  intro d
  induction d with
  | zero =>
    intro x2 x3 k h20 h21 h30 hd
    show octroilaw10_BucketKnown.l0 ((k + 1 + 121) + 1) nums x2 x3 = some true
    rw [octroilaw10_BucketKnown.l0, if_neg (by rw [nums_len]; omega)]
    unfold octroilaw10_BucketNone.f octroilaw10_works.f
    rw [Option.bind_some, if_pos rfl, plays_law ⟨by decide, by decide⟩ ⟨by decide, by decide⟩ ⟨by decide, by decide⟩ [] (fun x hx => absurd hx (by simp)) (k + 1 + 121) (by omega), Option.bind_some, if_pos rfl]
    rfl
  | succ d ih =>
    intro x2 x3 k h20 h21 h30 hd
    have R := row_loop x3 h30 (by omega) 9 x2 0 (k + 137 * d + 2) h20 h21 (by decide) (by decide) (fun y2 a b => ih y2 (x3 + 1) k a b (by omega) (by omega))
    rw [show k + 137 * (d + 1) + 2 + 121 = (k + 137 * d + 2 + 15 * 9 + 1 + 121) + 1 by omega]
    generalize k + 137 * d + 2 + 15 * 9 + 1 + 121 = q at *
    rw [octroilaw10_BucketKnown.l0, if_pos (by rw [nums_len]; omega)]
    exact R

theorem known_law : ∃ k, octroilaw10_BucketKnown.f k = some true := ⟨_, all_loop 9 1 0 0 (by decide) (by decide) (by decide) (by decide)⟩
end Go.Proofs.Ytdaiabgdlopfiaa.K
