/- The Go functions that a law reaches, each with a Lean function of the same answers and its contract; no condition but that this function answers. Written by this session's program (over the kit's printer); Lean checks it. -/
import Derived.Test.YtbbjedpbmofmkaaEx0
import Derived.Test.YtbbjedpbmofmkaaEx3
import Derived.Test.YtbbjedpbmofmkaaEx4
import Derived.Test.YtbbjedpbmofmkaaEx5
import Derived.Test.YtbbjedpbmofmkaaEx7
namespace Go.Proofs.Ytbbjedpbmofmkaa.E
open Go.RowKit Go.Proofs.YtbbjedpbmofmkaaW.PrintWords Go.Proofs.YtbbjedpbmofmkaaW.PrintLast Go.Proofs.YtbbjedpbmofmkaaW.PrintMore
attribute [local go_sem] max2_int min2_int max_two min_two max_three min_three max_four min_four   -- for this text's walks alone
set_option linter.unusedVariables false
set_option linter.unusedSimpArgs false

/-! ### octroilaw16_SegmentKnown: function 6 -/
mutual
def octroilaw16_SegmentKnown.l0 : Nat → Int → Option (Bool)
  | 0, _ => none
  | k + 1, x1 => if x1 < 5 then (octroilaw16_SegmentKnown.l1 k x1 1) else (octroilaw16_SegmentKnown.l4 k (([(⟨0, 0, 0⟩ : S23), (⟨(-1), 2, 2⟩ : S23), (⟨0, 1, 2⟩ : S23), (⟨0, 65, 2⟩ : S23), (⟨0, 2, 0⟩ : S23), (⟨0, 2, 1025⟩ : S23), (⟨1020, 2, 2⟩ : S23), (⟨1021, 2, 2⟩ : S23), (⟨0, 64, 16⟩ : S23), (⟨1, 64, 16⟩ : S23), (⟨9223372036854775807, 9223372036854775807, 9223372036854775807⟩ : S23), (⟨4, 4294967296, 4294967296⟩ : S23)] : List (S23))) 0)
def octroilaw16_SegmentKnown.l1 : Nat → Int → Int → Option (Bool)
  | 0, _, _ => none
  | k + 1, x1, x2 => if x2 < 6 then (octroilaw16_SegmentKnown.l2 k x1 x2 ([] : List (S52)) 0 (wrap64 (x1 + x2)) x1 x2) else (octroilaw16_SegmentKnown.l0 k (wrap64 (x1 + 1)))
def octroilaw16_SegmentKnown.l2 : Nat → Int → Int → List (S52) → Int → Int → Int → Int → Option (Bool)
  | 0, _, _, _, _, _, _, _ => none
  | k + 1, x1, x2, x4, x5, x271000, x271001, x271002 => if x5 < (wrap64 ((wrap64 ((wrap64 (2 * x1)) * x2)) + 1)) then (octroilaw16_SegmentKnown.l3 k x1 x2 x4 x5 (-1) x271000 x271001 x271002) else ((octroilaw16_SegmentRing.f k x271000 x271001 x271002 (IntKind.u64.wrap (wrap64 (x1 * x2))) x4).bind fun t276 => (if t276 = true then ((octroilaw16_SegmentRing.f k x271000 x271001 x271002 1152921504606846973 x4).bind fun t277 => (if t277 = true then (octroilaw16_SegmentKnown.l1 k x1 (wrap64 (x2 + 1))) else (none))) else (none)))
def octroilaw16_SegmentKnown.l3 : Nat → Int → Int → List (S52) → Int → Int → Int → Int → Int → Option (Bool)
  | 0, _, _, _, _, _, _, _, _ => none
  | k + 1, x1, x2, x4, x5, x6, x271000, x271001, x271002 => if x6 < 7 then ((octroilaw16_SegmentTells.f k x271000 x271001 x271002 (IntKind.u64.wrap (x5)) x6).bind fun t274 => (if t274 = true then ((octroilaw16_SegmentFits.f k x271000 x271001 x271002 (IntKind.u64.wrap (wrap64 (Int.tdiv x5 2))) (IntKind.u64.wrap (x5)) x6).bind fun t275 => (if t275 = true then (octroilaw16_SegmentKnown.l3 k x1 x2 x4 x5 (wrap64 (x6 + 1)) x271000 x271001 x271002) else (none))) else (none))) else (if (wrap64 (x2 + 2)) = 0 then (none) else (if x4.length < 17592186044416 then (octroilaw16_SegmentKnown.l2 k x1 x2 (x4 ++ [(⟨Int.tmod (Int.tmod (wrap64 ((wrap64 (x5 * 7)) + x1)) 6) (wrap64 (x2 + 2))⟩ : S52)]) (wrap64 (x5 + 1)) x271000 x271001 x271002) else (none)))
def octroilaw16_SegmentKnown.l4 : Nat → List (S23) → Int → Option (Bool)
  | 0, _, _ => none
  | k + 1, x7, x8 => if x8 < (x7.length : Int) then (if 0 ≤ x8 then ((octroilaw16_SegmentTells.f k ((rd_T23 x7 x8).f0) ((rd_T23 x7 x8).f1) ((rd_T23 x7 x8).f2) 5 1).bind fun t283 => (if t283 = true then ((octroilaw16_SegmentTells.f k ((rd_T23 x7 x8).f0) ((rd_T23 x7 x8).f1) ((rd_T23 x7 x8).f2) 4611686018427387903 2).bind fun t285 => (if t285 = true then ((octroilaw16_SegmentTells.f k ((rd_T23 x7 x8).f0) ((rd_T23 x7 x8).f1) ((rd_T23 x7 x8).f2) 4611686018427387904 2).bind fun t287 => (if t287 = true then ((octroilaw16_SegmentFits.f k ((rd_T23 x7 x8).f0) ((rd_T23 x7 x8).f1) ((rd_T23 x7 x8).f2) 9 8 1).bind fun t289 => (if t289 = true then ((octroilaw16_SegmentFits.f k ((rd_T23 x7 x8).f0) ((rd_T23 x7 x8).f1) ((rd_T23 x7 x8).f2) 4611686018427387903 4611686018427387904 1).bind fun t291 => (if t291 = true then ((octroilaw16_SegmentFits.f k ((rd_T23 x7 x8).f0) ((rd_T23 x7 x8).f1) ((rd_T23 x7 x8).f2) 0 1024 1).bind fun t293 => (if t293 = true then ((octroilaw16_SegmentFits.f k ((rd_T23 x7 x8).f0) ((rd_T23 x7 x8).f1) ((rd_T23 x7 x8).f2) 0 1025 1).bind fun t295 => (if t295 = true then (octroilaw16_SegmentKnown.l4 k x7 (wrap64 (x8 + 1))) else (none))) else (none))) else (none))) else (none))) else (none))) else (none))) else (none))) else (none)) else ((octroilaw16_works.f).bind fun t281 => (some t281))
end
def octroilaw16_SegmentKnown.f (k : Nat)  : Option (Bool) := octroilaw16_SegmentKnown.l0 k 2
theorem octroilaw16_SegmentKnown.mono_l : ∀ k, (∀ y0, LeO (octroilaw16_SegmentKnown.l0 k y0) (octroilaw16_SegmentKnown.l0 (k + 1) y0)) ∧ (∀ y0 y1, LeO (octroilaw16_SegmentKnown.l1 k y0 y1) (octroilaw16_SegmentKnown.l1 (k + 1) y0 y1)) ∧ (∀ y0 y1 y2 y3 y4 y5 y6, LeO (octroilaw16_SegmentKnown.l2 k y0 y1 y2 y3 y4 y5 y6) (octroilaw16_SegmentKnown.l2 (k + 1) y0 y1 y2 y3 y4 y5 y6)) ∧ (∀ y0 y1 y2 y3 y4 y5 y6 y7, LeO (octroilaw16_SegmentKnown.l3 k y0 y1 y2 y3 y4 y5 y6 y7) (octroilaw16_SegmentKnown.l3 (k + 1) y0 y1 y2 y3 y4 y5 y6 y7)) ∧ (∀ y0 y1, LeO (octroilaw16_SegmentKnown.l4 k y0 y1) (octroilaw16_SegmentKnown.l4 (k + 1) y0 y1))
  | 0 => ⟨fun _ r h => by simp [octroilaw16_SegmentKnown.l0] at h, fun _ _ r h => by simp [octroilaw16_SegmentKnown.l1] at h, fun _ _ _ _ _ _ _ r h => by simp [octroilaw16_SegmentKnown.l2] at h, fun _ _ _ _ _ _ _ _ r h => by simp [octroilaw16_SegmentKnown.l3] at h, fun _ _ r h => by simp [octroilaw16_SegmentKnown.l4] at h⟩
  | k + 1 => by
    obtain ⟨ih0, ih1, ih2, ih3, ih4⟩ := octroilaw16_SegmentKnown.mono_l k
    refine ⟨?_, ?_, ?_, ?_, ?_⟩
    · intro y0
      unfold octroilaw16_SegmentKnown.l0
      repeat' first
      | (with_reducible exact ih0 _)
      | (with_reducible exact ih1 _ _)
      | (with_reducible exact ih2 _ _ _ _ _ _ _)
      | (with_reducible exact ih3 _ _ _ _ _ _ _ _)
      | (with_reducible exact ih4 _ _)
      | (with_reducible exact octroilaw16_SegmentFits.mono _ _ _ _ _ _ _)
      | (with_reducible exact octroilaw16_SegmentRing.mono _ _ _ _ _ _)
      | (with_reducible exact octroilaw16_SegmentTells.mono _ _ _ _ _ _)
      | (with_reducible exact LeO.refl _)
      | (with_reducible exact LeO.none _)
      | (with_reducible refine LeO.ite ?_ ?_)
      | (with_reducible refine LeO.bind ?_ (fun _ => ?_))
      | exact ih0 _
      | exact ih1 _ _
      | exact ih2 _ _ _ _ _ _ _
      | exact ih3 _ _ _ _ _ _ _ _
      | exact ih4 _ _
      | exact octroilaw16_SegmentFits.mono _ _ _ _ _ _ _
      | exact octroilaw16_SegmentRing.mono _ _ _ _ _ _
      | exact octroilaw16_SegmentTells.mono _ _ _ _ _ _
      | exact LeO.none _
      | refine LeO.ite ?_ ?_
      | refine LeO.bind ?_ (fun _ => ?_)
    · intro y0 y1
      unfold octroilaw16_SegmentKnown.l1
      repeat' first
      | (with_reducible exact ih0 _)
      | (with_reducible exact ih1 _ _)
      | (with_reducible exact ih2 _ _ _ _ _ _ _)
      | (with_reducible exact ih3 _ _ _ _ _ _ _ _)
      | (with_reducible exact ih4 _ _)
      | (with_reducible exact octroilaw16_SegmentFits.mono _ _ _ _ _ _ _)
      | (with_reducible exact octroilaw16_SegmentRing.mono _ _ _ _ _ _)
      | (with_reducible exact octroilaw16_SegmentTells.mono _ _ _ _ _ _)
      | (with_reducible exact LeO.refl _)
      | (with_reducible exact LeO.none _)
      | (with_reducible refine LeO.ite ?_ ?_)
      | (with_reducible refine LeO.bind ?_ (fun _ => ?_))
      | exact ih0 _
      | exact ih1 _ _
      | exact ih2 _ _ _ _ _ _ _
      | exact ih3 _ _ _ _ _ _ _ _
      | exact ih4 _ _
      | exact octroilaw16_SegmentFits.mono _ _ _ _ _ _ _
      | exact octroilaw16_SegmentRing.mono _ _ _ _ _ _
      | exact octroilaw16_SegmentTells.mono _ _ _ _ _ _
      | exact LeO.none _
      | refine LeO.ite ?_ ?_
      | refine LeO.bind ?_ (fun _ => ?_)
    · intro y0 y1 y2 y3 y4 y5 y6
      unfold octroilaw16_SegmentKnown.l2
      repeat' first
      | (with_reducible exact ih0 _)
      | (with_reducible exact ih1 _ _)
      | (with_reducible exact ih2 _ _ _ _ _ _ _)
      | (with_reducible exact ih3 _ _ _ _ _ _ _ _)
      | (with_reducible exact ih4 _ _)
      | (with_reducible exact octroilaw16_SegmentFits.mono _ _ _ _ _ _ _)
      | (with_reducible exact octroilaw16_SegmentRing.mono _ _ _ _ _ _)
      | (with_reducible exact octroilaw16_SegmentTells.mono _ _ _ _ _ _)
      | (with_reducible exact LeO.refl _)
      | (with_reducible exact LeO.none _)
      | (with_reducible refine LeO.ite ?_ ?_)
      | (with_reducible refine LeO.bind ?_ (fun _ => ?_))
      | exact ih0 _
      | exact ih1 _ _
      | exact ih2 _ _ _ _ _ _ _
      | exact ih3 _ _ _ _ _ _ _ _
      | exact ih4 _ _
      | exact octroilaw16_SegmentFits.mono _ _ _ _ _ _ _
      | exact octroilaw16_SegmentRing.mono _ _ _ _ _ _
      | exact octroilaw16_SegmentTells.mono _ _ _ _ _ _
      | exact LeO.none _
      | refine LeO.ite ?_ ?_
      | refine LeO.bind ?_ (fun _ => ?_)
    · intro y0 y1 y2 y3 y4 y5 y6 y7
      unfold octroilaw16_SegmentKnown.l3
      repeat' first
      | (with_reducible exact ih0 _)
      | (with_reducible exact ih1 _ _)
      | (with_reducible exact ih2 _ _ _ _ _ _ _)
      | (with_reducible exact ih3 _ _ _ _ _ _ _ _)
      | (with_reducible exact ih4 _ _)
      | (with_reducible exact octroilaw16_SegmentFits.mono _ _ _ _ _ _ _)
      | (with_reducible exact octroilaw16_SegmentRing.mono _ _ _ _ _ _)
      | (with_reducible exact octroilaw16_SegmentTells.mono _ _ _ _ _ _)
      | (with_reducible exact LeO.refl _)
      | (with_reducible exact LeO.none _)
      | (with_reducible refine LeO.ite ?_ ?_)
      | (with_reducible refine LeO.bind ?_ (fun _ => ?_))
      | exact ih0 _
      | exact ih1 _ _
      | exact ih2 _ _ _ _ _ _ _
      | exact ih3 _ _ _ _ _ _ _ _
      | exact ih4 _ _
      | exact octroilaw16_SegmentFits.mono _ _ _ _ _ _ _
      | exact octroilaw16_SegmentRing.mono _ _ _ _ _ _
      | exact octroilaw16_SegmentTells.mono _ _ _ _ _ _
      | exact LeO.none _
      | refine LeO.ite ?_ ?_
      | refine LeO.bind ?_ (fun _ => ?_)
    · intro y0 y1
      unfold octroilaw16_SegmentKnown.l4
      repeat' first
      | (with_reducible exact ih0 _)
      | (with_reducible exact ih1 _ _)
      | (with_reducible exact ih2 _ _ _ _ _ _ _)
      | (with_reducible exact ih3 _ _ _ _ _ _ _ _)
      | (with_reducible exact ih4 _ _)
      | (with_reducible exact octroilaw16_SegmentFits.mono _ _ _ _ _ _ _)
      | (with_reducible exact octroilaw16_SegmentRing.mono _ _ _ _ _ _)
      | (with_reducible exact octroilaw16_SegmentTells.mono _ _ _ _ _ _)
      | (with_reducible exact LeO.refl _)
      | (with_reducible exact LeO.none _)
      | (with_reducible refine LeO.ite ?_ ?_)
      | (with_reducible refine LeO.bind ?_ (fun _ => ?_))
      | exact ih0 _
      | exact ih1 _ _
      | exact ih2 _ _ _ _ _ _ _
      | exact ih3 _ _ _ _ _ _ _ _
      | exact ih4 _ _
      | exact octroilaw16_SegmentFits.mono _ _ _ _ _ _ _
      | exact octroilaw16_SegmentRing.mono _ _ _ _ _ _
      | exact octroilaw16_SegmentTells.mono _ _ _ _ _ _
      | exact LeO.none _
      | refine LeO.ite ?_ ?_
      | refine LeO.bind ?_ (fun _ => ?_)
theorem octroilaw16_SegmentKnown.mono : ∀ k, LeO (octroilaw16_SegmentKnown.f k ) (octroilaw16_SegmentKnown.f (k + 1) ) := by
  intro  k
  obtain ⟨ih0, ih1, ih2, ih3, ih4⟩ := octroilaw16_SegmentKnown.mono_l k
  unfold octroilaw16_SegmentKnown.f
  repeat' first
      | (with_reducible exact ih0 _)
      | (with_reducible exact ih1 _ _)
      | (with_reducible exact ih2 _ _ _ _ _ _ _)
      | (with_reducible exact ih3 _ _ _ _ _ _ _ _)
      | (with_reducible exact ih4 _ _)
      | (with_reducible exact octroilaw16_SegmentFits.mono _ _ _ _ _ _ _)
      | (with_reducible exact octroilaw16_SegmentRing.mono _ _ _ _ _ _)
      | (with_reducible exact octroilaw16_SegmentTells.mono _ _ _ _ _ _)
      | (with_reducible exact LeO.refl _)
      | (with_reducible exact LeO.none _)
      | (with_reducible refine LeO.ite ?_ ?_)
      | (with_reducible refine LeO.bind ?_ (fun _ => ?_))
      | exact ih0 _
      | exact ih1 _ _
      | exact ih2 _ _ _ _ _ _ _
      | exact ih3 _ _ _ _ _ _ _ _
      | exact ih4 _ _
      | exact octroilaw16_SegmentFits.mono _ _ _ _ _ _ _
      | exact octroilaw16_SegmentRing.mono _ _ _ _ _ _
      | exact octroilaw16_SegmentTells.mono _ _ _ _ _ _
      | exact LeO.none _
      | refine LeO.ite ?_ ?_
      | refine LeO.bind ?_ (fun _ => ?_)
set_option maxHeartbeats 8000000 in
set_option maxRecDepth 100000 in
theorem octroilaw16_SegmentKnown.calls (k : Nat)  (r : Bool) (w : World) (h : octroilaw16_SegmentKnown.f k  = some r) :
    Calls Try.prog 6 #[] w fun e w' => e = .returned (.bool r) ∧ Below w.heap.size w w' := by
  have hu23 := Try.underlying23
  have hu52 := Try.underlying52
  have HB := Aside0.mk (Below.refl w.heap.size w)
  have H : (octroilaw16_SegmentKnown.l0 k 2) = some r := h
  clear h
  have H' := Aside0.mk H
  clear H
  go_enter Try.func6, Try.ntmps6
  go_wp2
  go_loopg [1] k (fun kq v1 w' => ∃ (x1_1 : Int), v1 = .int .i64 x1_1 ∧ Aside0 (octroilaw16_SegmentKnown.l0 kq x1_1 = some r) ∧ Aside0 (kq ≤ k) ∧ Aside0 (Below w.heap.size w w'))
  case atStart => exact ⟨(2), (by first | rfl | (simp; done) | (simp [*]; done)), H', ⟨Nat.le_refl _⟩, ⟨by repeat (first | (with_reducible first | exact HB.out | apply below_alloc | apply pw_below_drewN | apply below_drew1) | exact HB.out)⟩⟩
  case round =>
    clear H'
    obtain ⟨x1_1, rfl, HA, HK1, HB⟩ := hrel
    cases gk with
    | zero => exact absurd HA.out (by simp [octroilaw16_SegmentKnown.l0])
    | succ k1 =>
      have H := HA.out
      clear HA
      simp only [octroilaw16_SegmentKnown.l0] at H
      by_cases c1 : x1_1 < 5
      · rw [if_pos c1] at H
        have c1b0 : decide (x1_1 < 5) = true := decide_eq_true c1
        clear c1
        have H' := Aside0.mk H
        clear H
        go_wp2
        go_loopg [2] k1 (fun kq v2 w' => ∃ (x2_2 : Int), v2 = .int .i64 x2_2 ∧ Aside0 (octroilaw16_SegmentKnown.l1 kq x1_1 x2_2 = some r) ∧ Aside0 (kq ≤ k1) ∧ Aside0 (Below w.heap.size w w'))
        case atStart => exact ⟨(1), (by first | rfl | (simp; done) | (simp [*]; done)), H', ⟨Nat.le_refl _⟩, ⟨by repeat (first | (with_reducible first | exact HB.out | apply below_alloc | apply pw_below_drewN | apply below_drew1) | exact HB.out)⟩⟩
        case round =>
          clear H'
          try clear c1
          try clear c1b0
          obtain ⟨x2_2, rfl, HA, HK2, HB⟩ := hrel
          cases gk with
          | zero => exact absurd HA.out (by simp [octroilaw16_SegmentKnown.l1])
          | succ k2 =>
            have H := HA.out
            clear HA
            simp only [octroilaw16_SegmentKnown.l1] at H
            by_cases c2 : x2_2 < 6
            · rw [if_pos c2] at H
              have c2b0 : decide (x2_2 < 6) = true := decide_eq_true c2
              clear c2
              have H' := Aside0.mk H
              clear H
              go_wp2_with (first | ((with_reducible refine gate_dst (N := 3) rfl ?_); refine box_event ?hg (N := 3) ?hd (cs := #[.int .i64 0, .int .i64 0, .int .i64 0]) (t := 23) ?hr ?_; (case hd => rfl); (case hg => rfl); (case hr => first | (go_simp; done) | (go_simp; rfl)); intro gb270 hg w3 hbox hb; have n0_ := Aside0.mk (below_step (by repeat (first | (with_reducible first | exact HB.out | apply below_alloc | apply pw_below_drewN | apply below_drew1) | exact HB.out)) hb); have n1_ := Aside0.mk (hbox); have n2_ := Aside0.mk ((by rw [hg]; exact (below_size (by repeat (first | (with_reducible first | exact HB.out | apply below_alloc | apply pw_below_drewN | apply below_drew1) | exact HB.out))) : w.heap.size ≤ gb270)); have n3_ := Aside0.mk ((by rw [hg]; exact (below_size (by repeat (first | (with_reducible first | exact HB.out | apply below_alloc | apply pw_below_drewN | apply below_drew1) | exact HB.out))) : w.heap.size ≤ gb270)); clear HB; have HB := n0_; have BK270 := n1_; have GW270 := n2_; have GE270 := n3_; clear n0_ n1_ n2_ n3_; clear hb hbox hg; have hcz4_0 : w3.cell? ⟨gb270, 0, none⟩ = some (.int .i64 0) := (blk_cell BK270.out 0).trans rfl; have hcz4_1 : w3.cell? ⟨gb270, 1, none⟩ = some (.int .i64 0) := (blk_cell BK270.out 1).trans rfl; have hcz4_2 : w3.cell? ⟨gb270, 2, none⟩ = some (.int .i64 0) := (blk_cell BK270.out 2).trans rfl; have hfz4_0 := blk_frozen BK270.out 0; have hfz4_1 := blk_frozen BK270.out 1; have hfz4_2 := blk_frozen BK270.out 2))
              go_loopg [4, 5] k2 (fun kq v4 v5 w' => ∃ (x4_3 : List (S52)) (x5_3 : Int), v5 = .int .i64 x5_3 ∧ Aside0 (octroilaw16_SegmentKnown.l2 kq x1_1 x2_2 x4_3 x5_3 (wrap64 (x1_1 + x2_2)) x1_1 x2_2 = some r) ∧ Aside0 (kq ≤ k2) ∧ Aside0 (Kd.R k52 52 w' w.heap.size (fun _ => True) v4 x4_3) ∧ Aside0 (w'.heap[gb270]? = some (.cells #[.int .i64 (wrap64 (x1_1 + x2_2)), .int .i64 x1_1, .int .i64 x2_2] 23 (0, 0))) ∧ Aside0 (Below w.heap.size w w'))
              case atStart => exact ⟨(([] : List (S52))), (0), (by first | rfl | (simp; done) | (simp [*]; done)), H', ⟨Nat.le_refl _⟩, ⟨by first | exact Kd.R_nil _ _ _ _ _ | exact Kd.N_nil _ _ _ _ _ | exact Kd.V_nil _ _ _ _ _ | exact Kd.Q_nil _ _ _ _ _ | exact Kd.S_nil _ _ _ _ _⟩, ⟨by (with_reducible repeat (first | refine blk_drewN ?_ _ | refine blk_drew ?_ | refine blk_alloc ?_ _)); refine blk_put (cs := #[.int .i64 (wrap64 (x1_1 + x2_2)), .int .i64 x1_1, .int .i64 0]) ?_ 2 _ rfl; (with_reducible repeat (first | refine blk_drewN ?_ _ | refine blk_drew ?_ | refine blk_alloc ?_ _)); refine blk_put (cs := #[.int .i64 (wrap64 (x1_1 + x2_2)), .int .i64 0, .int .i64 0]) ?_ 1 _ rfl; (with_reducible repeat (first | refine blk_drewN ?_ _ | refine blk_drew ?_ | refine blk_alloc ?_ _)); refine blk_put (cs := #[.int .i64 0, .int .i64 0, .int .i64 0]) ?_ 0 _ rfl; (with_reducible repeat (first | refine blk_drewN ?_ _ | refine blk_drew ?_ | refine blk_alloc ?_ _)); exact BK270.out⟩, ⟨by repeat (first | (with_reducible first | exact HB.out | apply below_alloc | apply pw_below_drewN | apply below_drew1 | refine below_set ?_ GE270.out) | exact HB.out)⟩⟩
              case round =>
                clear H'
                try clear c1
                try clear c1b0
                try clear c2
                try clear c2b0
                try clear p2
                try clear hcz4_0
                try clear hcz4_1
                try clear hcz4_2
                try clear hfz4_0
                try clear hfz4_1
                try clear hfz4_2
                obtain ⟨x4_3, x5_3, rfl, HA, HK3, HO_4, BK270, HB⟩ := hrel
                cases gk with
                | zero => exact absurd HA.out (by simp [octroilaw16_SegmentKnown.l2])
                | succ k3 =>
                  have H := HA.out
                  clear HA
                  simp only [octroilaw16_SegmentKnown.l2] at H
                  by_cases c5 : x5_3 < (wrap64 ((wrap64 ((wrap64 (2 * x1_1)) * x2_2)) + 1))
                  · rw [if_pos c5] at H
                    have c5b0 : decide (x5_3 < (wrap64 ((wrap64 ((wrap64 (2 * x1_1)) * x2_2)) + 1))) = true := decide_eq_true c5
                    clear c5
                    have H' := Aside0.mk H
                    clear H
                    go_wp2
                    go_loopg [6] k3 (fun kq v6 w' => ∃ (x6_4 : Int), v6 = .int .i64 x6_4 ∧ Aside0 (octroilaw16_SegmentKnown.l3 kq x1_1 x2_2 x4_3 x5_3 x6_4 (wrap64 (x1_1 + x2_2)) x1_1 x2_2 = some r) ∧ Aside0 (kq ≤ k3) ∧ Aside0 (Kd.R k52 52 w' w.heap.size (fun _ => True) u4 x4_3) ∧ Aside0 (w'.heap[gb270]? = some (.cells #[.int .i64 (wrap64 (x1_1 + x2_2)), .int .i64 x1_1, .int .i64 x2_2] 23 (0, 0))) ∧ Aside0 (Below w.heap.size w w'))
                    case atStart => exact ⟨((-1)), (by first | rfl | (simp; done) | (simp [*]; done)), H', ⟨Nat.le_refl _⟩, ⟨by (with_reducible repeat (first | apply Kd.R_alloc | apply Kd.R_drewN | apply Kd.R_drew)); exact HO_4.out⟩, ⟨by (with_reducible repeat (first | refine blk_drewN ?_ _ | refine blk_drew ?_ | refine blk_alloc ?_ _)); exact BK270.out⟩, ⟨by repeat (first | (with_reducible first | exact HB.out | apply below_alloc | apply pw_below_drewN | apply below_drew1 | refine below_set ?_ GE270.out) | exact HB.out)⟩⟩
                    case round =>
                      clear H'
                      try clear c1
                      try clear c1b0
                      try clear c2
                      try clear c2b0
                      try clear p2
                      try clear c5
                      try clear c5b0
                      try clear hcz4_0
                      try clear hcz4_1
                      try clear hcz4_2
                      try clear hfz4_0
                      try clear hfz4_1
                      try clear hfz4_2
                      try clear p2
                      obtain ⟨x6_4, rfl, HA, HK4, HO_4, BK270, HB⟩ := hrel
                      cases gk with
                      | zero => exact absurd HA.out (by simp [octroilaw16_SegmentKnown.l3])
                      | succ k4 =>
                        have H := HA.out
                        clear HA
                        simp only [octroilaw16_SegmentKnown.l3] at H
                        by_cases c6 : x6_4 < 7
                        · rw [if_pos c6] at H
                          have c6b0 : decide (x6_4 < 7) = true := decide_eq_true c6
                          clear c6
                          replace H := Option.bind_eq_some_iff.mp H
                          obtain ⟨t274, A70, H⟩ := H
                          replace H : (if t274 = true then ((octroilaw16_SegmentFits.f k4 (wrap64 (x1_1 + x2_2)) x1_1 x2_2 (IntKind.u64.wrap (wrap64 (Int.tdiv x5_3 2))) (IntKind.u64.wrap (x5_3)) x6_4).bind fun t275 => (if t275 = true then (octroilaw16_SegmentKnown.l3 k4 x1_1 x2_2 x4_3 x5_3 (wrap64 (x6_4 + 1)) (wrap64 (x1_1 + x2_2)) x1_1 x2_2) else (none))) else (none)) = some r := H
                          have A7 := Aside0.mk A70
                          clear A70
                          by_cases c8 : t274 = true
                          · subst c8
                            have H1 : ((octroilaw16_SegmentFits.f k4 (wrap64 (x1_1 + x2_2)) x1_1 x2_2 (IntKind.u64.wrap (wrap64 (Int.tdiv x5_3 2))) (IntKind.u64.wrap (x5_3)) x6_4).bind fun t275 => (if t275 = true then (octroilaw16_SegmentKnown.l3 k4 x1_1 x2_2 x4_3 x5_3 (wrap64 (x6_4 + 1)) (wrap64 (x1_1 + x2_2)) x1_1 x2_2) else (none))) = some r := by rw [if_pos rfl] at H; exact H
                            clear H
                            have H := H1
                            clear H1
                            replace H := Option.bind_eq_some_iff.mp H
                            obtain ⟨t275, A90, H⟩ := H
                            replace H : (if t275 = true then (octroilaw16_SegmentKnown.l3 k4 x1_1 x2_2 x4_3 x5_3 (wrap64 (x6_4 + 1)) (wrap64 (x1_1 + x2_2)) x1_1 x2_2) else (none)) = some r := H
                            have A9 := Aside0.mk A90
                            clear A90
                            by_cases c10 : t275 = true
                            · subst c10
                              have H1 : (octroilaw16_SegmentKnown.l3 k4 x1_1 x2_2 x4_3 x5_3 (wrap64 (x6_4 + 1)) (wrap64 (x1_1 + x2_2)) x1_1 x2_2) = some r := by rw [if_pos rfl] at H; exact H
                              clear H
                              have H := H1
                              clear H1
                              have H' := Aside0.mk H
                              clear H
                              have hcz11_0 : wr.cell? ⟨gb270, 0, none⟩ = some (.int .i64 (wrap64 (x1_1 + x2_2))) := (blk_cell BK270.out 0).trans rfl
                              have hcz11_1 : wr.cell? ⟨gb270, 1, none⟩ = some (.int .i64 x1_1) := (blk_cell BK270.out 1).trans rfl
                              have hcz11_2 : wr.cell? ⟨gb270, 2, none⟩ = some (.int .i64 x2_2) := (blk_cell BK270.out 2).trans rfl
                              have hfz11_0 := blk_frozen BK270.out 0
                              have hfz11_1 := blk_frozen BK270.out 1
                              have hfz11_2 := blk_frozen BK270.out 2
                              go_wp2_with (first | ((with_reducible refine gate_callee (f := 3) rfl ?_); refine goesL_ (some 40) rfl rfl Try.func3 (by kernel_rfl) rfl #[.agg #[.int .i64 (wrap64 (x1_1 + x2_2)), .int .i64 x1_1, .int .i64 x2_2], .int .u64 (IntKind.u64.wrap (x5_3)), .int .i64 x6_4] rfl (by (try simp only [List.map_toArray, List.map_cons, List.map_nil]); first | done | rfl | (simp only [List.length_drop, List.length_take]; rfl)) ?_; (with_reducible refine (octroilaw16_SegmentTells.calls k4 (wrap64 (x1_1 + x2_2)) x1_1 x2_2 (IntKind.u64.wrap (x5_3)) x6_4 true _ A7.out).mono ?_); rintro e w12 ⟨rfl, hb⟩; refine ⟨_, rfl, ?_⟩; have n0_ := Aside0.mk (Kd.R_below (by (with_reducible repeat (first | apply Kd.R_alloc | apply Kd.R_drewN | apply Kd.R_drew)); exact HO_4.out) hb); have n1_ := Aside0.mk (blk_below (g := gb270) (o := .cells #[.int .i64 (wrap64 (x1_1 + x2_2)), .int .i64 x1_1, .int .i64 x2_2] 23 (0, 0)) (by (with_reducible repeat (first | refine blk_drewN ?_ _ | refine blk_drew ?_ | refine blk_alloc ?_ _)); exact BK270.out) hb); have n2_ := Aside0.mk (below_step (by repeat (first | (with_reducible first | exact HB.out | apply below_alloc | apply pw_below_drewN | apply below_drew1 | refine below_set ?_ GE270.out) | exact HB.out)) hb); clear HO_4; clear BK270; clear HB; have HO_4 := n0_; have BK270 := n1_; have HB := n2_; clear n0_ n1_ n2_; (try clear hb); (try clear hb2); (try clear hk); (try clear hi); have hcz13_0 : w12.cell? ⟨gb270, 0, none⟩ = some (.int .i64 (wrap64 (x1_1 + x2_2))) := (blk_cell BK270.out 0).trans rfl; have hcz13_1 : w12.cell? ⟨gb270, 1, none⟩ = some (.int .i64 x1_1) := (blk_cell BK270.out 1).trans rfl; have hcz13_2 : w12.cell? ⟨gb270, 2, none⟩ = some (.int .i64 x2_2) := (blk_cell BK270.out 2).trans rfl; have hfz13_0 := blk_frozen BK270.out 0; have hfz13_1 := blk_frozen BK270.out 1; have hfz13_2 := blk_frozen BK270.out 2) | (go_at_call 4; (with_reducible refine (octroilaw16_SegmentFits.calls k4 (wrap64 (x1_1 + x2_2)) x1_1 x2_2 (IntKind.u64.wrap (wrap64 (Int.tdiv x5_3 2))) (IntKind.u64.wrap (x5_3)) x6_4 true _ A9.out).mono ?_); rintro e w14 ⟨rfl, hb⟩; have n0_ := Aside0.mk (Kd.R_below (by (with_reducible repeat (first | apply Kd.R_alloc | apply Kd.R_drewN | apply Kd.R_drew)); exact HO_4.out) hb); have n1_ := Aside0.mk (blk_below (g := gb270) (o := .cells #[.int .i64 (wrap64 (x1_1 + x2_2)), .int .i64 x1_1, .int .i64 x2_2] 23 (0, 0)) (by (with_reducible repeat (first | refine blk_drewN ?_ _ | refine blk_drew ?_ | refine blk_alloc ?_ _)); exact BK270.out) hb); have n2_ := Aside0.mk (below_step (by repeat (first | (with_reducible first | exact HB.out | apply below_alloc | apply pw_below_drewN | apply below_drew1 | refine below_set ?_ GE270.out) | exact HB.out)) hb); clear HO_4; clear BK270; clear HB; have HO_4 := n0_; have BK270 := n1_; have HB := n2_; clear n0_ n1_ n2_; (try clear hb); (try clear hb2); (try clear hk); (try clear hi)))
                              go_roundg k4
                              case measure => have := HK1.out; have := HK2.out; have := HK3.out; have := HK4.out; omega
                              case rel => exact ⟨(wrap64 (x6_4 + 1)), (by first | rfl | (simp; done) | (simp [*]; done)), H', ⟨by have := HK1.out; have := HK2.out; have := HK3.out; have := HK4.out; omega⟩, ⟨by (with_reducible repeat (first | apply Kd.R_alloc | apply Kd.R_drewN | apply Kd.R_drew)); exact HO_4.out⟩, ⟨by (with_reducible repeat (first | refine blk_drewN ?_ _ | refine blk_drew ?_ | refine blk_alloc ?_ _)); exact BK270.out⟩, ⟨by repeat (first | (with_reducible first | exact HB.out | apply below_alloc | apply pw_below_drewN | apply below_drew1 | refine below_set ?_ GE270.out) | exact HB.out)⟩⟩
                            · replace c10 := Bool.eq_false_iff.mpr c10
                              subst c10
                              have H1 : (none) = some r := by rw [if_neg (show ¬ (false = true) by decide)] at H; exact H
                              clear H
                              have H := H1
                              clear H1
                              exact absurd H (by simp)
                          · replace c8 := Bool.eq_false_iff.mpr c8
                            subst c8
                            have H1 : (none) = some r := by rw [if_neg (show ¬ (false = true) by decide)] at H; exact H
                            clear H
                            have H := H1
                            clear H1
                            exact absurd H (by simp)
                        · rw [if_neg c6] at H
                          have c6b0 : decide (x6_4 < 7) = false := decide_eq_false c6
                          clear c6
                          by_cases c15 : (wrap64 (x2_2 + 2)) = 0
                          · rw [if_pos c15] at H
                            exact absurd H (by simp)
                          · rw [if_neg c15] at H
                            have c15b0 : ((wrap64 (x2_2 + 2)) == 0) = false := beq_eq_false_iff_ne.mpr c15
                            have c15b1 : ((wrap64 (x2_2 + 2)) != 0) = true := bne_iff_ne.mpr c15
                            by_cases c16 : x4_3.length < 17592186044416
                            · rw [if_pos c16] at H
                              have LMc16 := Aside0.mk c16
                              clear c16
                              obtain ⟨y271, hy271⟩ : ∃ y_ : List (S52), y_ = (x4_3 ++ [(⟨Int.tmod (Int.tmod (wrap64 ((wrap64 (x5_3 * 7)) + x1_1)) 6) (wrap64 (x2_2 + 2))⟩ : S52)]) := ⟨_, rfl⟩
                              replace H : (octroilaw16_SegmentKnown.l2 k4 x1_1 x2_2 y271 (wrap64 (x5_3 + 1)) (wrap64 (x1_1 + x2_2)) x1_1 x2_2) = some r := by first | (rw [hy271]; with_reducible exact H) | (have H2_ := (Option.bind_some _ _).symm.trans H; rw [hy271]; with_reducible exact H2_) | (have H2_ := (Option.bind_some _ _).symm.trans H; with_reducible exact H2_) | with_reducible exact H | (rw [hy271]; exact H) | exact H
                              have Ny271 := Aside0.mk hy271
                              clear hy271
                              have H' := Aside0.mk H
                              clear H
                              go_wp2_with (first | ((with_reducible refine gate_builtin (b := .append) (xs := #[.tmp 53, .tmp 63]) rfl ?_); at_builtin; refine Kd.R_append k52 (w0 := w) w.heap.size rfl (.tmp 53) (.tmp 63) 49 52 (.agg #[(.int .i64 0)]) 8 rfl Try.underlying49 info52 rfl (by decide) (by omega) u4 x4_3 (⟨Int.tmod (Int.tmod (wrap64 ((wrap64 (x5_3 * 7)) + x1_1)) 6) (wrap64 (x2_2 + 2))⟩ : S52) [.int .i64 (Int.tmod (Int.tmod (wrap64 ((wrap64 (x5_3 * 7)) + x1_1)) 6) (wrap64 (x2_2 + 2)))] (fun _ => True) (fun _ => False) rfl rfl ?aP (fun _ hk => hk.elim) ?aF ?aO ?aB ?aS ?aL ?_; (case aP => exact k52_mkM _ _ _ (⟨Int.tmod (Int.tmod (wrap64 ((wrap64 (x5_3 * 7)) + x1_1)) 6) (wrap64 (x2_2 + 2))⟩ : S52)); (case aB => exact (by repeat (first | (with_reducible first | exact HB.out | apply below_alloc | apply pw_below_drewN | apply below_drew1 | refine below_set ?_ GE270.out) | exact HB.out))); (case aF => exact (fun _ _ => trivial)); (case aO => exact (by (with_reducible repeat (first | apply Kd.R_alloc | apply Kd.R_drewN | apply Kd.R_drew)); exact HO_4.out)); (case aS => exact (below_size (by repeat (first | (with_reducible first | exact HB.out | apply below_alloc | apply pw_below_drewN | apply below_drew1 | refine below_set ?_ GE270.out) | exact HB.out)))); (case aL => have := LMc16.out; omega); intro v272 w17 ho hb hg hat; rw [← Ny271.out] at ho; have n0_ := Aside0.mk (blk_grown (g := gb270) (o := .cells #[.int .i64 (wrap64 (x1_1 + x2_2)), .int .i64 x1_1, .int .i64 x2_2] 23 (0, 0)) (by (with_reducible repeat (first | refine blk_drewN ?_ _ | refine blk_drew ?_ | refine blk_alloc ?_ _)); exact BK270.out) hg (Kd.R_ne HO_4.out BK270.out (by decide))); have n1_ := Aside0.mk (hb); have n2_ := Aside0.mk (ho); clear BK270; clear HB; clear HO_4; have BK270 := n0_; have HB := n1_; have HO273 := n2_; clear n0_ n1_ n2_; clear ho hb hg hat))
                              go_roundg k4
                              case measure => have := HK1.out; have := HK2.out; have := HK3.out; have := HK4.out; omega
                              case rel => exact ⟨(y271), (wrap64 (x5_3 + 1)), (by first | rfl | (simp; done) | (simp [*]; done)), H', ⟨by have := HK1.out; have := HK2.out; have := HK3.out; have := HK4.out; omega⟩, ⟨by (with_reducible repeat (first | apply Kd.R_alloc | apply Kd.R_drewN | apply Kd.R_drew)); exact HO273.out⟩, ⟨by (with_reducible repeat (first | refine blk_drewN ?_ _ | refine blk_drew ?_ | refine blk_alloc ?_ _)); exact BK270.out⟩, ⟨by repeat (first | (with_reducible first | exact HB.out | apply below_alloc | apply pw_below_drewN | apply below_drew1 | refine below_set ?_ GE270.out) | exact HB.out)⟩⟩
                            · rw [if_neg c16] at H
                              exact absurd H (by simp)
                  · rw [if_neg c5] at H
                    have c5b0 : decide (x5_3 < (wrap64 ((wrap64 ((wrap64 (2 * x1_1)) * x2_2)) + 1))) = false := decide_eq_false c5
                    clear c5
                    replace H := Option.bind_eq_some_iff.mp H
                    obtain ⟨t276, A180, H⟩ := H
                    replace H : (if t276 = true then ((octroilaw16_SegmentRing.f k3 (wrap64 (x1_1 + x2_2)) x1_1 x2_2 1152921504606846973 x4_3).bind fun t277 => (if t277 = true then (octroilaw16_SegmentKnown.l1 k3 x1_1 (wrap64 (x2_2 + 1))) else (none))) else (none)) = some r := H
                    have A18 := Aside0.mk A180
                    clear A180
                    by_cases c19 : t276 = true
                    · subst c19
                      have H1 : ((octroilaw16_SegmentRing.f k3 (wrap64 (x1_1 + x2_2)) x1_1 x2_2 1152921504606846973 x4_3).bind fun t277 => (if t277 = true then (octroilaw16_SegmentKnown.l1 k3 x1_1 (wrap64 (x2_2 + 1))) else (none))) = some r := by rw [if_pos rfl] at H; exact H
                      clear H
                      have H := H1
                      clear H1
                      replace H := Option.bind_eq_some_iff.mp H
                      obtain ⟨t277, A200, H⟩ := H
                      replace H : (if t277 = true then (octroilaw16_SegmentKnown.l1 k3 x1_1 (wrap64 (x2_2 + 1))) else (none)) = some r := H
                      have A20 := Aside0.mk A200
                      clear A200
                      by_cases c21 : t277 = true
                      · subst c21
                        have H1 : (octroilaw16_SegmentKnown.l1 k3 x1_1 (wrap64 (x2_2 + 1))) = some r := by rw [if_pos rfl] at H; exact H
                        clear H
                        have H := H1
                        clear H1
                        have H' := Aside0.mk H
                        clear H
                        have hcz22_0 : wr.cell? ⟨gb270, 0, none⟩ = some (.int .i64 (wrap64 (x1_1 + x2_2))) := (blk_cell BK270.out 0).trans rfl
                        have hcz22_1 : wr.cell? ⟨gb270, 1, none⟩ = some (.int .i64 x1_1) := (blk_cell BK270.out 1).trans rfl
                        have hcz22_2 : wr.cell? ⟨gb270, 2, none⟩ = some (.int .i64 x2_2) := (blk_cell BK270.out 2).trans rfl
                        have hfz22_0 := blk_frozen BK270.out 0
                        have hfz22_1 := blk_frozen BK270.out 1
                        have hfz22_2 := blk_frozen BK270.out 2
                        obtain ⟨Ao23, co23, eo23⟩ := Kd.R_slice HO_4.out
                        subst eo23
                        go_wp2_with (first | ((with_reducible refine gate_callee (f := 5) rfl ?_); refine goesL_ (some 71) rfl rfl Try.func5 (by kernel_rfl) rfl #[.agg #[.int .i64 (wrap64 (x1_1 + x2_2)), .int .i64 x1_1, .int .i64 x2_2], .int .u64 (IntKind.u64.wrap (wrap64 (x1_1 * x2_2))), .slice Ao23 x4_3.length co23] rfl (by (try simp only [List.map_toArray, List.map_cons, List.map_nil]); first | done | rfl | (simp only [List.length_drop, List.length_take]; rfl)) ?_; (with_reducible refine (octroilaw16_SegmentRing.calls k3 (wrap64 (x1_1 + x2_2)) x1_1 x2_2 (IntKind.u64.wrap (wrap64 (x1_1 * x2_2))) _ _ x4_3 true _ ?side1 ?side2 A18.out).mono ?_); (case side1 => repeat (first | exact (Kd.R_reads' HO_4.out).2.2 | (with_reducible refine Kd.C_alloc ?_ _) | (with_reducible refine Kd.C_drewN ?_ _) | (with_reducible refine Kd.C_drew ?_))); (case side2 => exact (Kd.R_reads' HO_4.out).2.1); rintro e w24 ⟨rfl, hb⟩; refine ⟨_, rfl, ?_⟩; have n0_ := Aside0.mk (Kd.R_below (by (with_reducible repeat (first | apply Kd.R_alloc | apply Kd.R_drewN | apply Kd.R_drew)); exact HO_4.out) hb); have n1_ := Aside0.mk (blk_below (g := gb270) (o := .cells #[.int .i64 (wrap64 (x1_1 + x2_2)), .int .i64 x1_1, .int .i64 x2_2] 23 (0, 0)) (by (with_reducible repeat (first | refine blk_drewN ?_ _ | refine blk_drew ?_ | refine blk_alloc ?_ _)); exact BK270.out) hb); have n2_ := Aside0.mk (below_step (by repeat (first | (with_reducible first | exact HB.out | apply below_alloc | apply pw_below_drewN | apply below_drew1 | refine below_set ?_ GE270.out) | exact HB.out)) hb); clear HO_4; clear BK270; clear HB; have HO_4 := n0_; have BK270 := n1_; have HB := n2_; clear n0_ n1_ n2_; (try clear hb); (try clear hb2); (try clear hk); (try clear hi); have hcz25_0 : w24.cell? ⟨gb270, 0, none⟩ = some (.int .i64 (wrap64 (x1_1 + x2_2))) := (blk_cell BK270.out 0).trans rfl; have hcz25_1 : w24.cell? ⟨gb270, 1, none⟩ = some (.int .i64 x1_1) := (blk_cell BK270.out 1).trans rfl; have hcz25_2 : w24.cell? ⟨gb270, 2, none⟩ = some (.int .i64 x2_2) := (blk_cell BK270.out 2).trans rfl; have hfz25_0 := blk_frozen BK270.out 0; have hfz25_1 := blk_frozen BK270.out 1; have hfz25_2 := blk_frozen BK270.out 2) | (go_at_call 5; (with_reducible refine (octroilaw16_SegmentRing.calls k3 (wrap64 (x1_1 + x2_2)) x1_1 x2_2 1152921504606846973 _ _ x4_3 true _ ?side1 ?side2 A20.out).mono ?_); (case side1 => repeat (first | exact (Kd.R_reads' HO_4.out).2.2 | (with_reducible refine Kd.C_alloc ?_ _) | (with_reducible refine Kd.C_drewN ?_ _) | (with_reducible refine Kd.C_drew ?_))); (case side2 => exact (Kd.R_reads' HO_4.out).2.1); rintro e w26 ⟨rfl, hb⟩; have n0_ := Aside0.mk (Kd.R_below (by (with_reducible repeat (first | apply Kd.R_alloc | apply Kd.R_drewN | apply Kd.R_drew)); exact HO_4.out) hb); have n1_ := Aside0.mk (blk_below (g := gb270) (o := .cells #[.int .i64 (wrap64 (x1_1 + x2_2)), .int .i64 x1_1, .int .i64 x2_2] 23 (0, 0)) (by (with_reducible repeat (first | refine blk_drewN ?_ _ | refine blk_drew ?_ | refine blk_alloc ?_ _)); exact BK270.out) hb); have n2_ := Aside0.mk (below_step (by repeat (first | (with_reducible first | exact HB.out | apply below_alloc | apply pw_below_drewN | apply below_drew1 | refine below_set ?_ GE270.out) | exact HB.out)) hb); clear HO_4; clear BK270; clear HB; have HO_4 := n0_; have BK270 := n1_; have HB := n2_; clear n0_ n1_ n2_; (try clear hb); (try clear hb2); (try clear hk); (try clear hi)))
                        go_roundg k3
                        case measure => have := HK1.out; have := HK2.out; have := HK3.out; omega
                        case rel => exact ⟨(wrap64 (x2_2 + 1)), (by first | rfl | (simp; done) | (simp [*]; done)), H', ⟨by have := HK1.out; have := HK2.out; have := HK3.out; omega⟩, ⟨by repeat (first | (with_reducible first | exact HB.out | apply below_alloc | apply pw_below_drewN | apply below_drew1 | refine below_set ?_ GE270.out) | exact HB.out)⟩⟩
                      · replace c21 := Bool.eq_false_iff.mpr c21
                        subst c21
                        have H1 : (none) = some r := by rw [if_neg (show ¬ (false = true) by decide)] at H; exact H
                        clear H
                        have H := H1
                        clear H1
                        exact absurd H (by simp)
                    · replace c19 := Bool.eq_false_iff.mpr c19
                      subst c19
                      have H1 : (none) = some r := by rw [if_neg (show ¬ (false = true) by decide)] at H; exact H
                      clear H
                      have H := H1
                      clear H1
                      exact absurd H (by simp)
            · rw [if_neg c2] at H
              have c2b0 : decide (x2_2 < 6) = false := decide_eq_false c2
              clear c2
              have H' := Aside0.mk H
              clear H
              go_wp2
              go_roundg k2
              case measure => have := HK1.out; have := HK2.out; omega
              case rel => exact ⟨(wrap64 (x1_1 + 1)), (by first | rfl | (simp; done) | (simp [*]; done)), H', ⟨by have := HK1.out; have := HK2.out; omega⟩, ⟨by repeat (first | (with_reducible first | exact HB.out | apply below_alloc | apply pw_below_drewN | apply below_drew1) | exact HB.out)⟩⟩
      · rw [if_neg c1] at H
        have c1b0 : decide (x1_1 < 5) = false := decide_eq_false c1
        clear c1
        obtain ⟨y278, hy278⟩ : ∃ y_ : List (S23), y_ = (([(⟨0, 0, 0⟩ : S23), (⟨(-1), 2, 2⟩ : S23), (⟨0, 1, 2⟩ : S23), (⟨0, 65, 2⟩ : S23), (⟨0, 2, 0⟩ : S23), (⟨0, 2, 1025⟩ : S23), (⟨1020, 2, 2⟩ : S23), (⟨1021, 2, 2⟩ : S23), (⟨0, 64, 16⟩ : S23), (⟨1, 64, 16⟩ : S23), (⟨9223372036854775807, 9223372036854775807, 9223372036854775807⟩ : S23), (⟨4, 4294967296, 4294967296⟩ : S23)] : List (S23))) := ⟨_, rfl⟩
        replace H : (octroilaw16_SegmentKnown.l4 k1 y278 0) = some r := by first | (rw [hy278]; with_reducible exact H) | (have H2_ := (Option.bind_some _ _).symm.trans H; rw [hy278]; with_reducible exact H2_) | (have H2_ := (Option.bind_some _ _).symm.trans H; with_reducible exact H2_) | with_reducible exact H | (rw [hy278]; exact H) | exact H
        have Ny278 := Aside0.mk hy278
        clear hy278
        have H' := Aside0.mk H
        clear H
        go_wp2_with (first | ((with_reducible refine gate_dst (N := 91) rfl ?_); refine Kd.R_lit k23 _ 23 ?hg (N := 91) ?hd (xs := ([(⟨0, 0, 0⟩ : S23), (⟨(-1), 2, 2⟩ : S23), (⟨0, 1, 2⟩ : S23), (⟨0, 65, 2⟩ : S23), (⟨0, 2, 0⟩ : S23), (⟨0, 2, 1025⟩ : S23), (⟨1020, 2, 2⟩ : S23), (⟨1021, 2, 2⟩ : S23), (⟨0, 64, 16⟩ : S23), (⟨1, 64, 16⟩ : S23), (⟨9223372036854775807, 9223372036854775807, 9223372036854775807⟩ : S23), (⟨4, 4294967296, 4294967296⟩ : S23)] : List (S23))) (inner := [.int .i64 0, .int .i64 0, .int .i64 0, .int .i64 (-1), .int .i64 2, .int .i64 2, .int .i64 0, .int .i64 1, .int .i64 2, .int .i64 0, .int .i64 65, .int .i64 2, .int .i64 0, .int .i64 2, .int .i64 0, .int .i64 0, .int .i64 2, .int .i64 1025, .int .i64 1020, .int .i64 2, .int .i64 2, .int .i64 1021, .int .i64 2, .int .i64 2, .int .i64 0, .int .i64 64, .int .i64 16, .int .i64 1, .int .i64 64, .int .i64 16, .int .i64 9223372036854775807, .int .i64 9223372036854775807, .int .i64 9223372036854775807, .int .i64 4, .int .i64 4294967296, .int .i64 4294967296]) (ok := fun _ => True) (okp := fun _ => True) ?hr ?hp (fun _ hk => hk) trivial (Below.refl _ _) (Nat.le_refl _) (by simp) ?_; (case hd => rfl); (case hg => rfl); (case hr => first | (go_simp; done) | (go_simp; rfl)); (case hp => exact (Reps.c3 (show Kd.M k23 _ _ _ (⟨0, 0, 0⟩ : S23) [.int .i64 0, .int .i64 0, .int .i64 0] from (k23_mkM _ _ _ (⟨0, 0, 0⟩ : S23) )) (Reps.c3 (show Kd.M k23 _ _ _ (⟨(-1), 2, 2⟩ : S23) [.int .i64 (-1), .int .i64 2, .int .i64 2] from (k23_mkM _ _ _ (⟨(-1), 2, 2⟩ : S23) )) (Reps.c3 (show Kd.M k23 _ _ _ (⟨0, 1, 2⟩ : S23) [.int .i64 0, .int .i64 1, .int .i64 2] from (k23_mkM _ _ _ (⟨0, 1, 2⟩ : S23) )) (Reps.c3 (show Kd.M k23 _ _ _ (⟨0, 65, 2⟩ : S23) [.int .i64 0, .int .i64 65, .int .i64 2] from (k23_mkM _ _ _ (⟨0, 65, 2⟩ : S23) )) (Reps.c3 (show Kd.M k23 _ _ _ (⟨0, 2, 0⟩ : S23) [.int .i64 0, .int .i64 2, .int .i64 0] from (k23_mkM _ _ _ (⟨0, 2, 0⟩ : S23) )) (Reps.c3 (show Kd.M k23 _ _ _ (⟨0, 2, 1025⟩ : S23) [.int .i64 0, .int .i64 2, .int .i64 1025] from (k23_mkM _ _ _ (⟨0, 2, 1025⟩ : S23) )) (Reps.c3 (show Kd.M k23 _ _ _ (⟨1020, 2, 2⟩ : S23) [.int .i64 1020, .int .i64 2, .int .i64 2] from (k23_mkM _ _ _ (⟨1020, 2, 2⟩ : S23) )) (Reps.c3 (show Kd.M k23 _ _ _ (⟨1021, 2, 2⟩ : S23) [.int .i64 1021, .int .i64 2, .int .i64 2] from (k23_mkM _ _ _ (⟨1021, 2, 2⟩ : S23) )) (Reps.c3 (show Kd.M k23 _ _ _ (⟨0, 64, 16⟩ : S23) [.int .i64 0, .int .i64 64, .int .i64 16] from (k23_mkM _ _ _ (⟨0, 64, 16⟩ : S23) )) (Reps.c3 (show Kd.M k23 _ _ _ (⟨1, 64, 16⟩ : S23) [.int .i64 1, .int .i64 64, .int .i64 16] from (k23_mkM _ _ _ (⟨1, 64, 16⟩ : S23) )) (Reps.c3 (show Kd.M k23 _ _ _ (⟨9223372036854775807, 9223372036854775807, 9223372036854775807⟩ : S23) [.int .i64 9223372036854775807, .int .i64 9223372036854775807, .int .i64 9223372036854775807] from (k23_mkM _ _ _ (⟨9223372036854775807, 9223372036854775807, 9223372036854775807⟩ : S23) )) (Reps.c3 (show Kd.M k23 _ _ _ (⟨4, 4294967296, 4294967296⟩ : S23) [.int .i64 4, .int .i64 4294967296, .int .i64 4294967296] from (k23_mkM _ _ _ (⟨4, 4294967296, 4294967296⟩ : S23) )) (Reps.none _ _)))))))))))))); intro v279 w27 ho28 hb hg_ hnew_; clear hg_ hnew_; (first | rw [← Ny278.out] at ho28 | (simp only [Int.reduceToNat] at ho28; rw [← Ny278.out] at ho28)); have n0_ := Aside0.mk (Kd.R_lower ho28 (below_size (by repeat (first | (with_reducible first | exact HB.out | apply below_alloc | apply pw_below_drewN | apply below_drew1) | exact HB.out)))); have n1_ := Aside0.mk (below_step (by repeat (first | (with_reducible first | exact HB.out | apply below_alloc | apply pw_below_drewN | apply below_drew1) | exact HB.out)) hb); clear HB; have HO280 := n0_; have HB := n1_; clear n0_ n1_; clear hb ho28))
        go_loopg [8] k1 (fun kq v8 w' => ∃ (x8_2 : Int), v8 = .int .i64 x8_2 ∧ Aside0 (octroilaw16_SegmentKnown.l4 kq y278 x8_2 = some r) ∧ Aside0 (kq ≤ k1) ∧ Aside0 (Kd.R k23 23 w' w.heap.size (fun _ => True) v279 y278) ∧ Aside0 (Below w.heap.size w w'))
        case atStart => exact ⟨(0), (by first | rfl | (simp; done) | (simp [*]; done)), H', ⟨Nat.le_refl _⟩, ⟨by (with_reducible repeat (first | apply Kd.R_alloc | apply Kd.R_drewN | apply Kd.R_drew)); exact HO280.out⟩, ⟨by repeat (first | (with_reducible first | exact HB.out | apply below_alloc | apply pw_below_drewN | apply below_drew1) | exact HB.out)⟩⟩
        case round =>
          clear H'
          try clear c1
          try clear c1b0
          try clear c2
          try clear c2b0
          try clear p2
          try clear c3
          try clear c5
          try clear c5b0
          try clear c6
          try clear c6b0
          try clear p6
          try clear c8
          try clear c10
          try clear c15
          try clear c15b0
          try clear c15b1
          try clear c16
          try clear c19
          try clear c21
          try clear hcz11_0
          try clear hcz11_1
          try clear hcz11_2
          try clear hcz13_0
          try clear hcz13_1
          try clear hcz13_2
          try clear hcz22_0
          try clear hcz22_1
          try clear hcz22_2
          try clear hcz25_0
          try clear hcz25_1
          try clear hcz25_2
          try clear hcz4_0
          try clear hcz4_1
          try clear hcz4_2
          try clear hfz11_0
          try clear hfz11_1
          try clear hfz11_2
          try clear hfz13_0
          try clear hfz13_1
          try clear hfz13_2
          try clear hfz22_0
          try clear hfz22_1
          try clear hfz22_2
          try clear hfz25_0
          try clear hfz25_1
          try clear hfz25_2
          try clear hfz4_0
          try clear hfz4_1
          try clear hfz4_2
          try clear p2
          obtain ⟨x8_2, rfl, HA, HK2, HO_7, HB⟩ := hrel
          cases gk with
          | zero => exact absurd HA.out (by simp [octroilaw16_SegmentKnown.l4])
          | succ k2 =>
            have H := HA.out
            clear HA
            simp only [octroilaw16_SegmentKnown.l4] at H
            by_cases c29 : x8_2 < (y278.length : Int)
            · rw [if_pos c29] at H
              have c29b0 : decide (x8_2 < (y278.length : Int)) = true := decide_eq_true c29
              clear c29
              by_cases c30 : 0 ≤ x8_2
              · rw [if_pos c30] at H
                have c30b0 : decide (0 ≤ x8_2) = true := decide_eq_true c30
                clear c30
                replace H := Option.bind_eq_some_iff.mp H
                obtain ⟨t283, A310, H⟩ := H
                replace H : (if t283 = true then ((octroilaw16_SegmentTells.f k2 ((rd_T23 y278 x8_2).f0) ((rd_T23 y278 x8_2).f1) ((rd_T23 y278 x8_2).f2) 4611686018427387903 2).bind fun t285 => (if t285 = true then ((octroilaw16_SegmentTells.f k2 ((rd_T23 y278 x8_2).f0) ((rd_T23 y278 x8_2).f1) ((rd_T23 y278 x8_2).f2) 4611686018427387904 2).bind fun t287 => (if t287 = true then ((octroilaw16_SegmentFits.f k2 ((rd_T23 y278 x8_2).f0) ((rd_T23 y278 x8_2).f1) ((rd_T23 y278 x8_2).f2) 9 8 1).bind fun t289 => (if t289 = true then ((octroilaw16_SegmentFits.f k2 ((rd_T23 y278 x8_2).f0) ((rd_T23 y278 x8_2).f1) ((rd_T23 y278 x8_2).f2) 4611686018427387903 4611686018427387904 1).bind fun t291 => (if t291 = true then ((octroilaw16_SegmentFits.f k2 ((rd_T23 y278 x8_2).f0) ((rd_T23 y278 x8_2).f1) ((rd_T23 y278 x8_2).f2) 0 1024 1).bind fun t293 => (if t293 = true then ((octroilaw16_SegmentFits.f k2 ((rd_T23 y278 x8_2).f0) ((rd_T23 y278 x8_2).f1) ((rd_T23 y278 x8_2).f2) 0 1025 1).bind fun t295 => (if t295 = true then (octroilaw16_SegmentKnown.l4 k2 y278 (wrap64 (x8_2 + 1))) else (none))) else (none))) else (none))) else (none))) else (none))) else (none))) else (none)) = some r := H
                have A31 := Aside0.mk A310
                clear A310
                by_cases c32 : t283 = true
                · subst c32
                  have H1 : ((octroilaw16_SegmentTells.f k2 ((rd_T23 y278 x8_2).f0) ((rd_T23 y278 x8_2).f1) ((rd_T23 y278 x8_2).f2) 4611686018427387903 2).bind fun t285 => (if t285 = true then ((octroilaw16_SegmentTells.f k2 ((rd_T23 y278 x8_2).f0) ((rd_T23 y278 x8_2).f1) ((rd_T23 y278 x8_2).f2) 4611686018427387904 2).bind fun t287 => (if t287 = true then ((octroilaw16_SegmentFits.f k2 ((rd_T23 y278 x8_2).f0) ((rd_T23 y278 x8_2).f1) ((rd_T23 y278 x8_2).f2) 9 8 1).bind fun t289 => (if t289 = true then ((octroilaw16_SegmentFits.f k2 ((rd_T23 y278 x8_2).f0) ((rd_T23 y278 x8_2).f1) ((rd_T23 y278 x8_2).f2) 4611686018427387903 4611686018427387904 1).bind fun t291 => (if t291 = true then ((octroilaw16_SegmentFits.f k2 ((rd_T23 y278 x8_2).f0) ((rd_T23 y278 x8_2).f1) ((rd_T23 y278 x8_2).f2) 0 1024 1).bind fun t293 => (if t293 = true then ((octroilaw16_SegmentFits.f k2 ((rd_T23 y278 x8_2).f0) ((rd_T23 y278 x8_2).f1) ((rd_T23 y278 x8_2).f2) 0 1025 1).bind fun t295 => (if t295 = true then (octroilaw16_SegmentKnown.l4 k2 y278 (wrap64 (x8_2 + 1))) else (none))) else (none))) else (none))) else (none))) else (none))) else (none))) = some r := by rw [if_pos rfl] at H; exact H
                  clear H
                  have H := H1
                  clear H1
                  replace H := Option.bind_eq_some_iff.mp H
                  obtain ⟨t285, A330, H⟩ := H
                  replace H : (if t285 = true then ((octroilaw16_SegmentTells.f k2 ((rd_T23 y278 x8_2).f0) ((rd_T23 y278 x8_2).f1) ((rd_T23 y278 x8_2).f2) 4611686018427387904 2).bind fun t287 => (if t287 = true then ((octroilaw16_SegmentFits.f k2 ((rd_T23 y278 x8_2).f0) ((rd_T23 y278 x8_2).f1) ((rd_T23 y278 x8_2).f2) 9 8 1).bind fun t289 => (if t289 = true then ((octroilaw16_SegmentFits.f k2 ((rd_T23 y278 x8_2).f0) ((rd_T23 y278 x8_2).f1) ((rd_T23 y278 x8_2).f2) 4611686018427387903 4611686018427387904 1).bind fun t291 => (if t291 = true then ((octroilaw16_SegmentFits.f k2 ((rd_T23 y278 x8_2).f0) ((rd_T23 y278 x8_2).f1) ((rd_T23 y278 x8_2).f2) 0 1024 1).bind fun t293 => (if t293 = true then ((octroilaw16_SegmentFits.f k2 ((rd_T23 y278 x8_2).f0) ((rd_T23 y278 x8_2).f1) ((rd_T23 y278 x8_2).f2) 0 1025 1).bind fun t295 => (if t295 = true then (octroilaw16_SegmentKnown.l4 k2 y278 (wrap64 (x8_2 + 1))) else (none))) else (none))) else (none))) else (none))) else (none))) else (none)) = some r := H
                  have A33 := Aside0.mk A330
                  clear A330
                  by_cases c34 : t285 = true
                  · subst c34
                    have H1 : ((octroilaw16_SegmentTells.f k2 ((rd_T23 y278 x8_2).f0) ((rd_T23 y278 x8_2).f1) ((rd_T23 y278 x8_2).f2) 4611686018427387904 2).bind fun t287 => (if t287 = true then ((octroilaw16_SegmentFits.f k2 ((rd_T23 y278 x8_2).f0) ((rd_T23 y278 x8_2).f1) ((rd_T23 y278 x8_2).f2) 9 8 1).bind fun t289 => (if t289 = true then ((octroilaw16_SegmentFits.f k2 ((rd_T23 y278 x8_2).f0) ((rd_T23 y278 x8_2).f1) ((rd_T23 y278 x8_2).f2) 4611686018427387903 4611686018427387904 1).bind fun t291 => (if t291 = true then ((octroilaw16_SegmentFits.f k2 ((rd_T23 y278 x8_2).f0) ((rd_T23 y278 x8_2).f1) ((rd_T23 y278 x8_2).f2) 0 1024 1).bind fun t293 => (if t293 = true then ((octroilaw16_SegmentFits.f k2 ((rd_T23 y278 x8_2).f0) ((rd_T23 y278 x8_2).f1) ((rd_T23 y278 x8_2).f2) 0 1025 1).bind fun t295 => (if t295 = true then (octroilaw16_SegmentKnown.l4 k2 y278 (wrap64 (x8_2 + 1))) else (none))) else (none))) else (none))) else (none))) else (none))) = some r := by rw [if_pos rfl] at H; exact H
                    clear H
                    have H := H1
                    clear H1
                    replace H := Option.bind_eq_some_iff.mp H
                    obtain ⟨t287, A350, H⟩ := H
                    replace H : (if t287 = true then ((octroilaw16_SegmentFits.f k2 ((rd_T23 y278 x8_2).f0) ((rd_T23 y278 x8_2).f1) ((rd_T23 y278 x8_2).f2) 9 8 1).bind fun t289 => (if t289 = true then ((octroilaw16_SegmentFits.f k2 ((rd_T23 y278 x8_2).f0) ((rd_T23 y278 x8_2).f1) ((rd_T23 y278 x8_2).f2) 4611686018427387903 4611686018427387904 1).bind fun t291 => (if t291 = true then ((octroilaw16_SegmentFits.f k2 ((rd_T23 y278 x8_2).f0) ((rd_T23 y278 x8_2).f1) ((rd_T23 y278 x8_2).f2) 0 1024 1).bind fun t293 => (if t293 = true then ((octroilaw16_SegmentFits.f k2 ((rd_T23 y278 x8_2).f0) ((rd_T23 y278 x8_2).f1) ((rd_T23 y278 x8_2).f2) 0 1025 1).bind fun t295 => (if t295 = true then (octroilaw16_SegmentKnown.l4 k2 y278 (wrap64 (x8_2 + 1))) else (none))) else (none))) else (none))) else (none))) else (none)) = some r := H
                    have A35 := Aside0.mk A350
                    clear A350
                    by_cases c36 : t287 = true
                    · subst c36
                      have H1 : ((octroilaw16_SegmentFits.f k2 ((rd_T23 y278 x8_2).f0) ((rd_T23 y278 x8_2).f1) ((rd_T23 y278 x8_2).f2) 9 8 1).bind fun t289 => (if t289 = true then ((octroilaw16_SegmentFits.f k2 ((rd_T23 y278 x8_2).f0) ((rd_T23 y278 x8_2).f1) ((rd_T23 y278 x8_2).f2) 4611686018427387903 4611686018427387904 1).bind fun t291 => (if t291 = true then ((octroilaw16_SegmentFits.f k2 ((rd_T23 y278 x8_2).f0) ((rd_T23 y278 x8_2).f1) ((rd_T23 y278 x8_2).f2) 0 1024 1).bind fun t293 => (if t293 = true then ((octroilaw16_SegmentFits.f k2 ((rd_T23 y278 x8_2).f0) ((rd_T23 y278 x8_2).f1) ((rd_T23 y278 x8_2).f2) 0 1025 1).bind fun t295 => (if t295 = true then (octroilaw16_SegmentKnown.l4 k2 y278 (wrap64 (x8_2 + 1))) else (none))) else (none))) else (none))) else (none))) = some r := by rw [if_pos rfl] at H; exact H
                      clear H
                      have H := H1
                      clear H1
                      replace H := Option.bind_eq_some_iff.mp H
                      obtain ⟨t289, A370, H⟩ := H
                      replace H : (if t289 = true then ((octroilaw16_SegmentFits.f k2 ((rd_T23 y278 x8_2).f0) ((rd_T23 y278 x8_2).f1) ((rd_T23 y278 x8_2).f2) 4611686018427387903 4611686018427387904 1).bind fun t291 => (if t291 = true then ((octroilaw16_SegmentFits.f k2 ((rd_T23 y278 x8_2).f0) ((rd_T23 y278 x8_2).f1) ((rd_T23 y278 x8_2).f2) 0 1024 1).bind fun t293 => (if t293 = true then ((octroilaw16_SegmentFits.f k2 ((rd_T23 y278 x8_2).f0) ((rd_T23 y278 x8_2).f1) ((rd_T23 y278 x8_2).f2) 0 1025 1).bind fun t295 => (if t295 = true then (octroilaw16_SegmentKnown.l4 k2 y278 (wrap64 (x8_2 + 1))) else (none))) else (none))) else (none))) else (none)) = some r := H
                      have A37 := Aside0.mk A370
                      clear A370
                      by_cases c38 : t289 = true
                      · subst c38
                        have H1 : ((octroilaw16_SegmentFits.f k2 ((rd_T23 y278 x8_2).f0) ((rd_T23 y278 x8_2).f1) ((rd_T23 y278 x8_2).f2) 4611686018427387903 4611686018427387904 1).bind fun t291 => (if t291 = true then ((octroilaw16_SegmentFits.f k2 ((rd_T23 y278 x8_2).f0) ((rd_T23 y278 x8_2).f1) ((rd_T23 y278 x8_2).f2) 0 1024 1).bind fun t293 => (if t293 = true then ((octroilaw16_SegmentFits.f k2 ((rd_T23 y278 x8_2).f0) ((rd_T23 y278 x8_2).f1) ((rd_T23 y278 x8_2).f2) 0 1025 1).bind fun t295 => (if t295 = true then (octroilaw16_SegmentKnown.l4 k2 y278 (wrap64 (x8_2 + 1))) else (none))) else (none))) else (none))) = some r := by rw [if_pos rfl] at H; exact H
                        clear H
                        have H := H1
                        clear H1
                        replace H := Option.bind_eq_some_iff.mp H
                        obtain ⟨t291, A390, H⟩ := H
                        replace H : (if t291 = true then ((octroilaw16_SegmentFits.f k2 ((rd_T23 y278 x8_2).f0) ((rd_T23 y278 x8_2).f1) ((rd_T23 y278 x8_2).f2) 0 1024 1).bind fun t293 => (if t293 = true then ((octroilaw16_SegmentFits.f k2 ((rd_T23 y278 x8_2).f0) ((rd_T23 y278 x8_2).f1) ((rd_T23 y278 x8_2).f2) 0 1025 1).bind fun t295 => (if t295 = true then (octroilaw16_SegmentKnown.l4 k2 y278 (wrap64 (x8_2 + 1))) else (none))) else (none))) else (none)) = some r := H
                        have A39 := Aside0.mk A390
                        clear A390
                        by_cases c40 : t291 = true
                        · subst c40
                          have H1 : ((octroilaw16_SegmentFits.f k2 ((rd_T23 y278 x8_2).f0) ((rd_T23 y278 x8_2).f1) ((rd_T23 y278 x8_2).f2) 0 1024 1).bind fun t293 => (if t293 = true then ((octroilaw16_SegmentFits.f k2 ((rd_T23 y278 x8_2).f0) ((rd_T23 y278 x8_2).f1) ((rd_T23 y278 x8_2).f2) 0 1025 1).bind fun t295 => (if t295 = true then (octroilaw16_SegmentKnown.l4 k2 y278 (wrap64 (x8_2 + 1))) else (none))) else (none))) = some r := by rw [if_pos rfl] at H; exact H
                          clear H
                          have H := H1
                          clear H1
                          replace H := Option.bind_eq_some_iff.mp H
                          obtain ⟨t293, A410, H⟩ := H
                          replace H : (if t293 = true then ((octroilaw16_SegmentFits.f k2 ((rd_T23 y278 x8_2).f0) ((rd_T23 y278 x8_2).f1) ((rd_T23 y278 x8_2).f2) 0 1025 1).bind fun t295 => (if t295 = true then (octroilaw16_SegmentKnown.l4 k2 y278 (wrap64 (x8_2 + 1))) else (none))) else (none)) = some r := H
                          have A41 := Aside0.mk A410
                          clear A410
                          by_cases c42 : t293 = true
                          · subst c42
                            have H1 : ((octroilaw16_SegmentFits.f k2 ((rd_T23 y278 x8_2).f0) ((rd_T23 y278 x8_2).f1) ((rd_T23 y278 x8_2).f2) 0 1025 1).bind fun t295 => (if t295 = true then (octroilaw16_SegmentKnown.l4 k2 y278 (wrap64 (x8_2 + 1))) else (none))) = some r := by rw [if_pos rfl] at H; exact H
                            clear H
                            have H := H1
                            clear H1
                            replace H := Option.bind_eq_some_iff.mp H
                            obtain ⟨t295, A430, H⟩ := H
                            replace H : (if t295 = true then (octroilaw16_SegmentKnown.l4 k2 y278 (wrap64 (x8_2 + 1))) else (none)) = some r := H
                            have A43 := Aside0.mk A430
                            clear A430
                            by_cases c44 : t295 = true
                            · subst c44
                              have H1 : (octroilaw16_SegmentKnown.l4 k2 y278 (wrap64 (x8_2 + 1))) = some r := by rw [if_pos rfl] at H; exact H
                              clear H
                              have H := H1
                              clear H1
                              have H' := Aside0.mk H
                              clear H
                              obtain ⟨Ao45, co45, eo45⟩ := Kd.R_slice HO_7.out
                              subst eo45
                              have p282 : 0 ≤ (x8_2 : Int) := of_decide_eq_true (by first | (with_reducible assumption) | assumption)
                              have q282 : x8_2 < (y278.length : Int) := of_decide_eq_true (by first | (with_reducible assumption) | assumption)
                              obtain ⟨ad282, e282, hx282_0, hx282_1, hx282_2⟩ := at_T23 (Kd.R_reads' HO_7.out).2.2 x8_2 p282 q282
                              cases e282
                              replace p282 := eq_true p282
                              replace q282 := eq_true q282
                              go_wp2_with (first | ((with_reducible refine gate_callee (f := 3) rfl ?_); refine goesL_ (some 102) rfl rfl Try.func3 (by kernel_rfl) rfl #[.agg #[.int .i64 ((rd_T23 y278 x8_2).f0), .int .i64 ((rd_T23 y278 x8_2).f1), .int .i64 ((rd_T23 y278 x8_2).f2)], .int .u64 5, .int .i64 1] rfl (by (try simp only [List.map_toArray, List.map_cons, List.map_nil]); first | done | rfl | (simp only [List.length_drop, List.length_take]; rfl)) ?_; (with_reducible refine (octroilaw16_SegmentTells.calls k2 ((rd_T23 y278 x8_2).f0) ((rd_T23 y278 x8_2).f1) ((rd_T23 y278 x8_2).f2) 5 1 true _ A31.out).mono ?_); rintro e w46 ⟨rfl, hb⟩; refine ⟨_, rfl, ?_⟩; have n0_ := Aside0.mk (Kd.R_below (by (with_reducible repeat (first | apply Kd.R_alloc | apply Kd.R_drewN | apply Kd.R_drew)); exact HO_7.out) hb); have n1_ := Aside0.mk (below_step (by repeat (first | (with_reducible first | exact HB.out | apply below_alloc | apply pw_below_drewN | apply below_drew1) | exact HB.out)) hb); clear HO_7; clear HB; have HO_7 := n0_; have HB := n1_; clear n0_ n1_; (try clear hb); (try clear hb2); (try clear hk); (try clear hi); have p284 : 0 ≤ (x8_2 : Int) := of_decide_eq_true (by first | (with_reducible assumption) | assumption); have q284 : x8_2 < (y278.length : Int) := of_decide_eq_true (by first | (with_reducible assumption) | assumption); obtain ⟨ad284, e284, hx284_0, hx284_1, hx284_2⟩ := at_T23 (Kd.R_reads' HO_7.out).2.2 x8_2 p284 q284; obtain rfl : ad282 = ad284 := (by injection e284); replace p284 := eq_true p284; replace q284 := eq_true q284) | (go_at_call 3; (with_reducible refine (octroilaw16_SegmentTells.calls k2 ((rd_T23 y278 x8_2).f0) ((rd_T23 y278 x8_2).f1) ((rd_T23 y278 x8_2).f2) 4611686018427387903 2 true _ A33.out).mono ?_); rintro e w47 ⟨rfl, hb⟩; have n0_ := Aside0.mk (Kd.R_below (by (with_reducible repeat (first | apply Kd.R_alloc | apply Kd.R_drewN | apply Kd.R_drew)); exact HO_7.out) hb); have n1_ := Aside0.mk (below_step (by repeat (first | (with_reducible first | exact HB.out | apply below_alloc | apply pw_below_drewN | apply below_drew1) | exact HB.out)) hb); clear HO_7; clear HB; have HO_7 := n0_; have HB := n1_; clear n0_ n1_; (try clear hb); (try clear hb2); (try clear hk); (try clear hi); have p286 : 0 ≤ (x8_2 : Int) := of_decide_eq_true (by first | (with_reducible assumption) | assumption); have q286 : x8_2 < (y278.length : Int) := of_decide_eq_true (by first | (with_reducible assumption) | assumption); obtain ⟨ad286, e286, hx286_0, hx286_1, hx286_2⟩ := at_T23 (Kd.R_reads' HO_7.out).2.2 x8_2 p286 q286; obtain rfl : ad282 = ad286 := (by injection e286); replace p286 := eq_true p286; replace q286 := eq_true q286) | (go_at_call 3; (with_reducible refine (octroilaw16_SegmentTells.calls k2 ((rd_T23 y278 x8_2).f0) ((rd_T23 y278 x8_2).f1) ((rd_T23 y278 x8_2).f2) 4611686018427387904 2 true _ A35.out).mono ?_); rintro e w48 ⟨rfl, hb⟩; have n0_ := Aside0.mk (Kd.R_below (by (with_reducible repeat (first | apply Kd.R_alloc | apply Kd.R_drewN | apply Kd.R_drew)); exact HO_7.out) hb); have n1_ := Aside0.mk (below_step (by repeat (first | (with_reducible first | exact HB.out | apply below_alloc | apply pw_below_drewN | apply below_drew1) | exact HB.out)) hb); clear HO_7; clear HB; have HO_7 := n0_; have HB := n1_; clear n0_ n1_; (try clear hb); (try clear hb2); (try clear hk); (try clear hi); have p288 : 0 ≤ (x8_2 : Int) := of_decide_eq_true (by first | (with_reducible assumption) | assumption); have q288 : x8_2 < (y278.length : Int) := of_decide_eq_true (by first | (with_reducible assumption) | assumption); obtain ⟨ad288, e288, hx288_0, hx288_1, hx288_2⟩ := at_T23 (Kd.R_reads' HO_7.out).2.2 x8_2 p288 q288; obtain rfl : ad282 = ad288 := (by injection e288); replace p288 := eq_true p288; replace q288 := eq_true q288) | (go_at_call 4; (with_reducible refine (octroilaw16_SegmentFits.calls k2 ((rd_T23 y278 x8_2).f0) ((rd_T23 y278 x8_2).f1) ((rd_T23 y278 x8_2).f2) 9 8 1 true _ A37.out).mono ?_); rintro e w49 ⟨rfl, hb⟩; have n0_ := Aside0.mk (Kd.R_below (by (with_reducible repeat (first | apply Kd.R_alloc | apply Kd.R_drewN | apply Kd.R_drew)); exact HO_7.out) hb); have n1_ := Aside0.mk (below_step (by repeat (first | (with_reducible first | exact HB.out | apply below_alloc | apply pw_below_drewN | apply below_drew1) | exact HB.out)) hb); clear HO_7; clear HB; have HO_7 := n0_; have HB := n1_; clear n0_ n1_; (try clear hb); (try clear hb2); (try clear hk); (try clear hi); have p290 : 0 ≤ (x8_2 : Int) := of_decide_eq_true (by first | (with_reducible assumption) | assumption); have q290 : x8_2 < (y278.length : Int) := of_decide_eq_true (by first | (with_reducible assumption) | assumption); obtain ⟨ad290, e290, hx290_0, hx290_1, hx290_2⟩ := at_T23 (Kd.R_reads' HO_7.out).2.2 x8_2 p290 q290; obtain rfl : ad282 = ad290 := (by injection e290); replace p290 := eq_true p290; replace q290 := eq_true q290) | (go_at_call 4; (with_reducible refine (octroilaw16_SegmentFits.calls k2 ((rd_T23 y278 x8_2).f0) ((rd_T23 y278 x8_2).f1) ((rd_T23 y278 x8_2).f2) 4611686018427387903 4611686018427387904 1 true _ A39.out).mono ?_); rintro e w50 ⟨rfl, hb⟩; have n0_ := Aside0.mk (Kd.R_below (by (with_reducible repeat (first | apply Kd.R_alloc | apply Kd.R_drewN | apply Kd.R_drew)); exact HO_7.out) hb); have n1_ := Aside0.mk (below_step (by repeat (first | (with_reducible first | exact HB.out | apply below_alloc | apply pw_below_drewN | apply below_drew1) | exact HB.out)) hb); clear HO_7; clear HB; have HO_7 := n0_; have HB := n1_; clear n0_ n1_; (try clear hb); (try clear hb2); (try clear hk); (try clear hi); have p292 : 0 ≤ (x8_2 : Int) := of_decide_eq_true (by first | (with_reducible assumption) | assumption); have q292 : x8_2 < (y278.length : Int) := of_decide_eq_true (by first | (with_reducible assumption) | assumption); obtain ⟨ad292, e292, hx292_0, hx292_1, hx292_2⟩ := at_T23 (Kd.R_reads' HO_7.out).2.2 x8_2 p292 q292; obtain rfl : ad282 = ad292 := (by injection e292); replace p292 := eq_true p292; replace q292 := eq_true q292) | (go_at_call 4; (with_reducible refine (octroilaw16_SegmentFits.calls k2 ((rd_T23 y278 x8_2).f0) ((rd_T23 y278 x8_2).f1) ((rd_T23 y278 x8_2).f2) 0 1024 1 true _ A41.out).mono ?_); rintro e w51 ⟨rfl, hb⟩; have n0_ := Aside0.mk (Kd.R_below (by (with_reducible repeat (first | apply Kd.R_alloc | apply Kd.R_drewN | apply Kd.R_drew)); exact HO_7.out) hb); have n1_ := Aside0.mk (below_step (by repeat (first | (with_reducible first | exact HB.out | apply below_alloc | apply pw_below_drewN | apply below_drew1) | exact HB.out)) hb); clear HO_7; clear HB; have HO_7 := n0_; have HB := n1_; clear n0_ n1_; (try clear hb); (try clear hb2); (try clear hk); (try clear hi); have p294 : 0 ≤ (x8_2 : Int) := of_decide_eq_true (by first | (with_reducible assumption) | assumption); have q294 : x8_2 < (y278.length : Int) := of_decide_eq_true (by first | (with_reducible assumption) | assumption); obtain ⟨ad294, e294, hx294_0, hx294_1, hx294_2⟩ := at_T23 (Kd.R_reads' HO_7.out).2.2 x8_2 p294 q294; obtain rfl : ad282 = ad294 := (by injection e294); replace p294 := eq_true p294; replace q294 := eq_true q294) | (go_at_call 4; (with_reducible refine (octroilaw16_SegmentFits.calls k2 ((rd_T23 y278 x8_2).f0) ((rd_T23 y278 x8_2).f1) ((rd_T23 y278 x8_2).f2) 0 1025 1 true _ A43.out).mono ?_); rintro e w52 ⟨rfl, hb⟩; have n0_ := Aside0.mk (Kd.R_below (by (with_reducible repeat (first | apply Kd.R_alloc | apply Kd.R_drewN | apply Kd.R_drew)); exact HO_7.out) hb); have n1_ := Aside0.mk (below_step (by repeat (first | (with_reducible first | exact HB.out | apply below_alloc | apply pw_below_drewN | apply below_drew1) | exact HB.out)) hb); clear HO_7; clear HB; have HO_7 := n0_; have HB := n1_; clear n0_ n1_; (try clear hb); (try clear hb2); (try clear hk); (try clear hi)))
                              go_roundg k2
                              case measure => have := HK1.out; have := HK2.out; omega
                              case rel => exact ⟨(wrap64 (x8_2 + 1)), (by first | rfl | (simp; done) | (simp [*]; done)), H', ⟨by have := HK1.out; have := HK2.out; omega⟩, ⟨by (with_reducible repeat (first | apply Kd.R_alloc | apply Kd.R_drewN | apply Kd.R_drew)); exact HO_7.out⟩, ⟨by repeat (first | (with_reducible first | exact HB.out | apply below_alloc | apply pw_below_drewN | apply below_drew1) | exact HB.out)⟩⟩
                            · replace c44 := Bool.eq_false_iff.mpr c44
                              subst c44
                              have H1 : (none) = some r := by rw [if_neg (show ¬ (false = true) by decide)] at H; exact H
                              clear H
                              have H := H1
                              clear H1
                              exact absurd H (by simp)
                          · replace c42 := Bool.eq_false_iff.mpr c42
                            subst c42
                            have H1 : (none) = some r := by rw [if_neg (show ¬ (false = true) by decide)] at H; exact H
                            clear H
                            have H := H1
                            clear H1
                            exact absurd H (by simp)
                        · replace c40 := Bool.eq_false_iff.mpr c40
                          subst c40
                          have H1 : (none) = some r := by rw [if_neg (show ¬ (false = true) by decide)] at H; exact H
                          clear H
                          have H := H1
                          clear H1
                          exact absurd H (by simp)
                      · replace c38 := Bool.eq_false_iff.mpr c38
                        subst c38
                        have H1 : (none) = some r := by rw [if_neg (show ¬ (false = true) by decide)] at H; exact H
                        clear H
                        have H := H1
                        clear H1
                        exact absurd H (by simp)
                    · replace c36 := Bool.eq_false_iff.mpr c36
                      subst c36
                      have H1 : (none) = some r := by rw [if_neg (show ¬ (false = true) by decide)] at H; exact H
                      clear H
                      have H := H1
                      clear H1
                      exact absurd H (by simp)
                  · replace c34 := Bool.eq_false_iff.mpr c34
                    subst c34
                    have H1 : (none) = some r := by rw [if_neg (show ¬ (false = true) by decide)] at H; exact H
                    clear H
                    have H := H1
                    clear H1
                    exact absurd H (by simp)
                · replace c32 := Bool.eq_false_iff.mpr c32
                  subst c32
                  have H1 : (none) = some r := by rw [if_neg (show ¬ (false = true) by decide)] at H; exact H
                  clear H
                  have H := H1
                  clear H1
                  exact absurd H (by simp)
              · rw [if_neg c30] at H
                exact absurd H (by simp)
            · rw [if_neg c29] at H
              have c29b0 : decide (x8_2 < (y278.length : Int)) = false := decide_eq_false c29
              clear c29
              replace H := Option.bind_eq_some_iff.mp H
              obtain ⟨t281, A530, H⟩ := H
              replace H : (some t281) = some r := H
              have A53 := Aside0.mk A530
              clear A530
              obtain rfl := Option.some.inj H
              obtain ⟨Ao54, co54, eo54⟩ := Kd.R_slice HO_7.out
              subst eo54
              go_wp2_with (first | ((with_reducible refine gate_callee (f := 21) rfl ?_); refine goesL_ (some 152) rfl rfl Try.func21 (by kernel_rfl) rfl #[] rfl (by (try simp only [List.map_toArray, List.map_cons, List.map_nil]); first | done | rfl | (simp only [List.length_drop, List.length_take]; rfl)) ?_; (with_reducible refine (octroilaw16_works.calls  t281 _ A53.out).mono ?_); rintro e w55 ⟨rfl, hb⟩; refine ⟨_, rfl, ?_⟩; have n0_ := Aside0.mk (Kd.R_below (by (with_reducible repeat (first | apply Kd.R_alloc | apply Kd.R_drewN | apply Kd.R_drew)); exact HO_7.out) hb); have n1_ := Aside0.mk (below_step (by repeat (first | (with_reducible first | exact HB.out | apply below_alloc | apply pw_below_drewN | apply below_drew1) | exact HB.out)) hb); clear HO_7; clear HB; have HO_7 := n0_; have HB := n1_; clear n0_ n1_; (try clear hb); (try clear hb2); (try clear hk); (try clear hi)))
              go_ret
              exact ⟨by first | rfl | (simp [errW_none, errW_some] <;> rfl) | (simp [*, errW_none, errW_some] <;> rfl), by repeat (first | (with_reducible first | exact HB.out | apply below_alloc | apply pw_below_drewN | apply below_drew1) | exact HB.out)⟩

/-- THE ONE PURE STATEMENT of octroilaw16_SegmentKnown: yours. -/
def octroilaw16_SegmentKnown.Pure : Prop := ∃ k, octroilaw16_SegmentKnown.f k  = some true
theorem octroilaw16_SegmentKnown.walk (P : octroilaw16_SegmentKnown.Pure)  (w : World)  :
    Calls Try.prog 6 #[] w fun e w' => e = .returned (.bool true) ∧ Below w.heap.size w w' := by
  obtain ⟨k, h⟩ := P  
  refine (octroilaw16_SegmentKnown.calls k  true w h).mono ?_
  rintro e w' ⟨rfl, hd⟩
  exact ⟨rfl, hd⟩

end Go.Proofs.Ytbbjedpbmofmkaa.E
