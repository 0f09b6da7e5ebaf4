/- The Go functions that a law reaches, each with a Lean function of the same answers and its contract; no condition but that this function answers. Written by this session's program (over the kit's printer); Lean checks it. -/
import Derived.Test.YtdaiabgdlopfiaaKx0
import Derived.Test.YtdaiabgdlopfiaaKx1
import Derived.Deep.RegionHeld3
import Derived.Deep.DeepCutAuto
namespace Go.Proofs.Ytdaiabgdlopfiaa.K
open Go.Proofs.Ytdaiabgdlopfiaa.B (cells4 put4 far4 below4)
open Go.RowKit Go.Proofs.YtdaiabgdlopfiaaW.PrintWords Go.Proofs.YtdaiabgdlopfiaaW.PrintLast Go.Proofs.YtdaiabgdlopfiaaW.PrintMore
attribute [local go_sem] max2_int min2_int max_two min_two max_three min_three max_four min_four   -- for this text's walks alone
set_option linter.unusedVariables false
set_option linter.unusedSimpArgs false

/-! ### octroilaw10_BucketPlays: function 4 -/
mutual
def octroilaw10_BucketPlays.l0 : Nat → List (S40) → Int → Int → Int → Int → Int → Int → Int → Int → Int → Int → Int → Int → Int → Int → Int → Int → Int → Option (Bool)
  | 0, _, _, _, _, _, _, _, _, _, _, _, _, _, _, _, _, _, _ => none
  | k + 1, x3, x13, x140000, x140001, x140002, x140003, x145000, x145001, x145002, x145003, x150000, x150001, x150002, x150003, x151000, x151001, x151002, x151003 => if x13 < (x3.length : Int) then (if 0 ≤ x13 then ((octroilaw10_does.f x140000 x140001 x140002 x140003 x145000 x145001 x145002 x145003 ((rd_T40 x3 x13).f0) ((rd_T40 x3 x13).f1) ((rd_T40 x3 x13).f2)).bind fun bt163 => ((bucket_Bucket_Copy.f bt163.2.2.2.2.2.1 bt163.2.2.2.2.2.2.1 bt163.2.2.2.2.2.2.2.1 bt163.2.2.2.2.2.2.2.2).bind fun bt173 => (if bt163.2.2.2.2.1 = true then ((bucket_Bucket_Tick.f bt163.2.2.2.2.2.1 bt163.2.2.2.2.2.2.1 bt163.2.2.2.2.2.2.2.1 bt163.2.2.2.2.2.2.2.2).bind fun bt178 => (if bt178.1 = bt163.2.2.1 then ((bucket_Bucket_Tick.f bt173.1 bt173.2.1 bt173.2.2.1 bt173.2.2.2).bind fun bt183 => (if bt183.1 = bt163.2.2.1 then ((bucket_Bucket_Level.f bt183.2.1 bt183.2.2.1 bt183.2.2.2.1 bt183.2.2.2.2 0).bind fun bt188 => (octroilaw10_BucketPlays.j1 k x3 x13 (bt188.1 != bt163.2.2.2.1) bt178.2.1 bt178.2.2.1 bt178.2.2.2.1 bt178.2.2.2.2 bt163.1 bt163.2.1 bt163.2.2.1 bt163.2.2.2.1 x150000 x150001 x150002 x150003 x151000 x151001 x151002 x151003 bt188.2.1 bt188.2.2.1 bt188.2.2.2.1 bt188.2.2.2.2)) else (octroilaw10_BucketPlays.j1 k x3 x13 true bt178.2.1 bt178.2.2.1 bt178.2.2.2.1 bt178.2.2.2.2 bt163.1 bt163.2.1 bt163.2.2.1 bt163.2.2.2.1 x150000 x150001 x150002 x150003 x151000 x151001 x151002 x151003 bt183.2.1 bt183.2.2.1 bt183.2.2.2.1 bt183.2.2.2.2))) else (octroilaw10_BucketPlays.j1 k x3 x13 true bt178.2.1 bt178.2.2.1 bt178.2.2.2.1 bt178.2.2.2.2 bt163.1 bt163.2.1 bt163.2.2.1 bt163.2.2.2.1 x150000 x150001 x150002 x150003 x151000 x151001 x151002 x151003 bt173.1 bt173.2.1 bt173.2.2.1 bt173.2.2.2))) else (octroilaw10_BucketPlays.j1 k x3 x13 true bt163.2.2.2.2.2.1 bt163.2.2.2.2.2.2.1 bt163.2.2.2.2.2.2.2.1 bt163.2.2.2.2.2.2.2.2 bt163.1 bt163.2.1 bt163.2.2.1 bt163.2.2.2.1 x150000 x150001 x150002 x150003 x151000 x151001 x151002 x151003 bt173.1 bt173.2.1 bt173.2.2.1 bt173.2.2.2)))) else (none)) else ((bucket_Bucket_Tick.f x150000 x150001 x150002 x150003).bind fun bt151 => (if bt151.1 = x151002 then ((bucket_Bucket_Level.f bt151.2.1 bt151.2.2.1 bt151.2.2.2.1 bt151.2.2.2.2 0).bind fun bt156 => (if bt156.1 = x151003 then ((octroilaw10_works.f).bind fun t161 => (some t161)) else (none))) else (none)))
def octroilaw10_BucketPlays.j1 : Nat → List (S40) → Int → Bool → Int → Int → Int → Int → Int → Int → Int → Int → Int → Int → Int → Int → Int → Int → Int → Int → Int → Int → Int → Int → Option (Bool)
  | 0, _, _, _, _, _, _, _, _, _, _, _, _, _, _, _, _, _, _, _, _, _, _, _ => none
  | k + 1, x3, x13, x75, x140000, x140001, x140002, x140003, x145000, x145001, x145002, x145003, x150000, x150001, x150002, x150003, x151000, x151001, x151002, x151003, x178000, x178001, x178002, x178003 => if x75 = true then (none) else ((bucket_Bucket_Take.f x178000 x178001 x178002 x178003 0 x145003).bind fun bt193 => (if bt193.1 = true then ((bucket_Bucket_Level.f bt193.2.1 bt193.2.2.1 bt193.2.2.2.1 bt193.2.2.2.2 0).bind fun bt198 => (if bt198.1 = 0 then ((bucket_Bucket_Level.f x140000 x140001 x140002 x140003 0).bind fun bt203 => (if bt203.1 = x145003 then (octroilaw10_BucketPlays.l0 k x3 (wrap64 (x13 + 1)) bt203.2.1 bt203.2.2.1 bt203.2.2.2.1 bt203.2.2.2.2 x145000 x145001 x145002 x145003 x150000 x150001 x150002 x150003 x151000 x151001 x151002 x151003) else (none))) else (none))) else (none)))
end
def octroilaw10_BucketPlays.f (k : Nat) (a0 : Int) (a1 : Int) (a2 : Int) (l3 : List (S40)) : Option (Bool) := if (l3.length : Int) > 60 then ((octroilaw10_works.f).bind fun t134 => (some t134)) else ((bucket_New.f a0 a1 a2).bind fun bt135 => ((octroiref10_New.f a0 a1 a2).bind fun bt140 => ((bucket_Bucket_Copy.f bt135.1 bt135.2.1 bt135.2.2.1 bt135.2.2.2).bind fun bt145 => (octroilaw10_BucketPlays.l0 k l3 0 bt135.1 bt135.2.1 bt135.2.2.1 bt135.2.2.2 bt140.1 bt140.2.1 bt140.2.2.1 bt140.2.2.2 bt145.1 bt145.2.1 bt145.2.2.1 bt145.2.2.2 bt140.1 bt140.2.1 bt140.2.2.1 bt140.2.2.2))))
theorem octroilaw10_BucketPlays.mono_l : ∀ k, (∀ y0 y1 y2 y3 y4 y5 y6 y7 y8 y9 y10 y11 y12 y13 y14 y15 y16 y17, LeO (octroilaw10_BucketPlays.l0 k y0 y1 y2 y3 y4 y5 y6 y7 y8 y9 y10 y11 y12 y13 y14 y15 y16 y17) (octroilaw10_BucketPlays.l0 (k + 1) y0 y1 y2 y3 y4 y5 y6 y7 y8 y9 y10 y11 y12 y13 y14 y15 y16 y17)) ∧ (∀ y0 y1 y2 y3 y4 y5 y6 y7 y8 y9 y10 y11 y12 y13 y14 y15 y16 y17 y18 y19 y20 y21 y22, LeO (octroilaw10_BucketPlays.j1 k y0 y1 y2 y3 y4 y5 y6 y7 y8 y9 y10 y11 y12 y13 y14 y15 y16 y17 y18 y19 y20 y21 y22) (octroilaw10_BucketPlays.j1 (k + 1) y0 y1 y2 y3 y4 y5 y6 y7 y8 y9 y10 y11 y12 y13 y14 y15 y16 y17 y18 y19 y20 y21 y22))
  | 0 => ⟨fun _ _ _ _ _ _ _ _ _ _ _ _ _ _ _ _ _ _ r h => by simp [octroilaw10_BucketPlays.l0] at h, fun _ _ _ _ _ _ _ _ _ _ _ _ _ _ _ _ _ _ _ _ _ _ _ r h => by simp [octroilaw10_BucketPlays.j1] at h⟩
  | k + 1 => by
    obtain ⟨ih0, ih1⟩ := octroilaw10_BucketPlays.mono_l k
    refine ⟨?_, ?_⟩
    · intro y0 y1 y2 y3 y4 y5 y6 y7 y8 y9 y10 y11 y12 y13 y14 y15 y16 y17
      unfold octroilaw10_BucketPlays.l0
      repeat' first
      | (with_reducible exact ih0 _ _ _ _ _ _ _ _ _ _ _ _ _ _ _ _ _ _)
      | (with_reducible exact ih1 _ _ _ _ _ _ _ _ _ _ _ _ _ _ _ _ _ _ _ _ _ _ _)
      | (with_reducible exact LeO.refl _)
      | (with_reducible exact LeO.none _)
      | (with_reducible refine LeO.ite ?_ ?_)
      | (with_reducible refine LeO.bind ?_ (fun _ => ?_))
      | exact ih0 _ _ _ _ _ _ _ _ _ _ _ _ _ _ _ _ _ _
      | exact ih1 _ _ _ _ _ _ _ _ _ _ _ _ _ _ _ _ _ _ _ _ _ _ _
      | exact LeO.none _
      | refine LeO.ite ?_ ?_
      | refine LeO.bind ?_ (fun _ => ?_)
    · intro y0 y1 y2 y3 y4 y5 y6 y7 y8 y9 y10 y11 y12 y13 y14 y15 y16 y17 y18 y19 y20 y21 y22
      unfold octroilaw10_BucketPlays.j1
      repeat' first
      | (with_reducible exact ih0 _ _ _ _ _ _ _ _ _ _ _ _ _ _ _ _ _ _)
      | (with_reducible exact ih1 _ _ _ _ _ _ _ _ _ _ _ _ _ _ _ _ _ _ _ _ _ _ _)
      | (with_reducible exact LeO.refl _)
      | (with_reducible exact LeO.none _)
      | (with_reducible refine LeO.ite ?_ ?_)
      | (with_reducible refine LeO.bind ?_ (fun _ => ?_))
      | exact ih0 _ _ _ _ _ _ _ _ _ _ _ _ _ _ _ _ _ _
      | exact ih1 _ _ _ _ _ _ _ _ _ _ _ _ _ _ _ _ _ _ _ _ _ _ _
      | exact LeO.none _
      | refine LeO.ite ?_ ?_
      | refine LeO.bind ?_ (fun _ => ?_)
theorem octroilaw10_BucketPlays.mono : ∀ a0 a1 a2 a3 k, LeO (octroilaw10_BucketPlays.f k a0 a1 a2 a3) (octroilaw10_BucketPlays.f (k + 1) a0 a1 a2 a3) := by
  intro a0 a1 a2 a3 k
  obtain ⟨ih0, ih1⟩ := octroilaw10_BucketPlays.mono_l k
  unfold octroilaw10_BucketPlays.f
  repeat' first
      | (with_reducible exact ih0 _ _ _ _ _ _ _ _ _ _ _ _ _ _ _ _ _ _)
      | (with_reducible exact ih1 _ _ _ _ _ _ _ _ _ _ _ _ _ _ _ _ _ _ _ _ _ _ _)
      | (with_reducible exact LeO.refl _)
      | (with_reducible exact LeO.none _)
      | (with_reducible refine LeO.ite ?_ ?_)
      | (with_reducible refine LeO.bind ?_ (fun _ => ?_))
      | exact ih0 _ _ _ _ _ _ _ _ _ _ _ _ _ _ _ _ _ _
      | exact ih1 _ _ _ _ _ _ _ _ _ _ _ _ _ _ _ _ _ _ _ _ _ _ _
      | exact LeO.none _
      | refine LeO.ite ?_ ?_
      | refine LeO.bind ?_ (fun _ => ?_)
def octroilaw10_BucketPlays.T10 : Bool × List (List Nat × List Nat) := (true, [([], []), ([], []), ([], []), ([], []), ([2, 3], [2, 3]), ([4], [4]), ([0, 1, 5], [0, 1, 5]), ([6], [6]), ([7], [7]), ([7], [7]), ([], []), ([10, 8, 6, 0, 1, 2, 3, 4, 5, 6, 7, 8, 10], [8, 10]), ([9, 11, 0, 1, 2, 3, 4, 5, 6, 7, 8, 9, 10, 11], [9])])
def octroilaw10_BucketPlays.B10 : List Nat := [0, 0, 0, 0, 12, 28, 63, 127, 255, 255, 0, 1535, 4095]
theorem octroilaw10_BucketPlays.tab10 : rtab .any (opsOf Try.f4 10) = octroilaw10_BucketPlays.T10 := by kernel_rfl
theorem octroilaw10_BucketPlays.bits10 : waitsOk octroilaw10_BucketPlays.T10.2 octroilaw10_BucketPlays.B10 = true := by kernel_rfl
def octroilaw10_BucketPlays.T13 : Bool × List (List Nat × List Nat) := (true, [([], []), ([0], [0]), ([1], [1]), ([2], [2]), ([3, 2, 2], [2, 3]), ([2], [2]), ([5, 2], [2, 5]), ([4, 6, 2], [2, 4, 6]), ([2, 7], [2, 7]), ([8, 4], [8]), ([9], [9]), ([10, 9, 9], [9, 10]), ([9], [9]), ([12, 9], [9, 12]), ([11, 13, 9], [9, 11, 13]), ([9, 14], [9, 14]), ([15, 11], [15]), ([16], [16]), ([17, 16, 16], [16, 17]), ([16], [16]), ([19, 16], [16, 19]), ([18, 20, 16], [16, 18, 20]), ([16, 21], [16, 21])])
def octroilaw10_BucketPlays.B13 : List Nat := [0, 1, 3, 7, 15, 7, 39, 127, 255, 511, 1023, 2047, 1023, 5119, 16383, 32767, 65535, 131071, 262143, 131071, 655359, 2097151, 4194303]
theorem octroilaw10_BucketPlays.tab13 : rtab .any (opsOf Try.f4 13) = octroilaw10_BucketPlays.T13 := by kernel_rfl
theorem octroilaw10_BucketPlays.bits13 : waitsOk octroilaw10_BucketPlays.T13.2 octroilaw10_BucketPlays.B13 = true := by kernel_rfl
def octroilaw10_BucketPlays.T15 : Bool × List (List Nat × List Nat) := (true, [([], []), ([], []), ([1], [1]), ([0, 2], [0, 2]), ([3], [3]), ([4, 3], [4]), ([5], [5]), ([6, 5, 5], [5, 6]), ([7, 5], [5, 7]), ([5, 8], [5, 8]), ([9, 7], [9]), ([10], [10]), ([11, 10, 10], [10, 11]), ([10], [10]), ([13, 10], [10, 13]), ([12, 14, 10], [10, 12, 14]), ([10, 15], [10, 15])])
def octroilaw10_BucketPlays.B15 : List Nat := [0, 0, 2, 7, 15, 31, 63, 127, 255, 511, 1023, 2047, 4095, 2047, 10239, 32767, 65535]
theorem octroilaw10_BucketPlays.tab15 : rtab .any (opsOf Try.f4 15) = octroilaw10_BucketPlays.T15 := by kernel_rfl
theorem octroilaw10_BucketPlays.bits15 : waitsOk octroilaw10_BucketPlays.T15.2 octroilaw10_BucketPlays.B15 = true := by kernel_rfl
def octroilaw10_BucketPlays.T17 : Bool × List (List Nat × List Nat) := (true, [([], []), ([0], [0]), ([], []), ([2], [2]), ([1, 3], [1, 3]), ([4, 1], [4]), ([5], [5]), ([6, 5, 5], [5, 6]), ([5], [5]), ([8, 5], [5, 8]), ([7, 9, 5], [5, 7, 9]), ([5, 10], [5, 10]), ([11, 7], [11]), ([12, 12], [12]), ([12, 13], [12, 13]), ([14, 13, 0, 1, 2, 3, 4, 5, 6, 7, 8, 9, 10, 11, 12, 13, 14], [14])])
def octroilaw10_BucketPlays.B17 : List Nat := [0, 1, 0, 4, 15, 31, 63, 127, 63, 319, 1023, 2047, 4095, 8191, 16383, 32767]
theorem octroilaw10_BucketPlays.tab17 : rtab .any (opsOf Try.f4 17) = octroilaw10_BucketPlays.T17 := by kernel_rfl
theorem octroilaw10_BucketPlays.bits17 : waitsOk octroilaw10_BucketPlays.T17.2 octroilaw10_BucketPlays.B17 = true := by kernel_rfl
theorem copyB (g : Nat) (s0_0 s0_1 s0_2 s0_3 : Int) (r1 r2 r3 r4 : Int) (w0 W : World) (n : Nat) (hn : W.heap.size = n) (hI : IsS47 w0 (W.alloc (.cells #[.int .u64 0, .int .u64 0, .int .u64 0, .int .u64 0] 34)) g s0_0 s0_1 s0_2 s0_3) (hB : Below w0.heap.size w0 (W.alloc (.cells #[.int .u64 0, .int .u64 0, .int .u64 0, .int .u64 0] 34))) (h : bucket_Bucket_Copy.f s0_0 s0_1 s0_2 s0_3 = some (r1, r2, r3, r4)) :
    Calls Try.prog 13 #[.pointer (some ⟨g, 0, none⟩)] (W.alloc (.cells #[.int .u64 0, .int .u64 0, .int .u64 0, .int .u64 0] 34)) fun e w' => ∃ g', e = .returned (.pointer (some ⟨g', 0, none⟩)) ∧ IsS47 w0 w' g' r1 r2 r3 r4 ∧ Below w0.heap.size w0 w' ∧ Below (W.alloc (.cells #[.int .u64 0, .int .u64 0, .int .u64 0, .int .u64 0] 34)).heap.size (W.alloc (.cells #[.int .u64 0, .int .u64 0, .int .u64 0, .int .u64 0] 34)) w' ∧ (W.alloc (.cells #[.int .u64 0, .int .u64 0, .int .u64 0, .int .u64 0] 34)).heap.size ≤ g' ∧
      w'.cell? ⟨n, 0, none⟩ = some (.int .u64 0) ∧ w'.cell? ⟨n, 1, none⟩ = some (.int .u64 0) ∧ w'.cell? ⟨n, 2, none⟩ = some (.int .u64 0) ∧ w'.cell? ⟨n, 3, none⟩ = some (.int .u64 0) ∧
      w'.frozen? ⟨n, 0, none⟩ = false ∧ w'.frozen? ⟨n, 1, none⟩ = false ∧ w'.frozen? ⟨n, 2, none⟩ = false ∧ w'.frozen? ⟨n, 3, none⟩ = false := by
  subst hn
  refine (bucket_Bucket_Copy.calls g s0_0 s0_1 s0_2 s0_3 r1 r2 r3 r4 w0 _ hI hB h).mono ?_
  rintro e w' ⟨g', he, hi, hb, hb2, hg⟩
  obtain ⟨⟨z0, z1, z2, z3⟩, y0, y1, y2, y3⟩ := cells4 (blk_below (blk_new W _) hb2)
  exact ⟨g', he, hi, hb, hb2, hg, z0, z1, z2, z3, y0, y1, y2, y3⟩
set_option maxHeartbeats 8000000 in
set_option maxRecDepth 100000 in
theorem octroilaw10_BucketPlays.calls (k : Nat) (a0 : Int) (a1 : Int) (a2 : Int) (A3 : Option Addr) (c3 : Nat) (l3 : List (S40)) (r : Bool) (w : World) (hr3 : Kd.C k40 w A3 l3.length l3) (hc3 : l3.length ≤ c3) (h : octroilaw10_BucketPlays.f k a0 a1 a2 l3 = some r) :
    Calls Try.prog 4 #[.int .u64 a0, .int .u64 a1, .int .u64 a2, .slice A3 l3.length c3] w fun e w' => e = .returned (.bool r) ∧ Below w.heap.size w w' := by
  have hu34 := Try.underlying34
  have hu40 := Try.underlying40
  have HR3 := Aside0.mk hr3
  have HC3 := Aside0.mk hc3
  clear hr3 hc3
  have HB := Aside0.mk (Below.refl w.heap.size w)
  have H : (if (l3.length : Int) > 60 then ((octroilaw10_works.f).bind fun t134 => (some t134)) else ((bucket_New.f a0 a1 a2).bind fun bt135 => ((octroiref10_New.f a0 a1 a2).bind fun bt140 => ((bucket_Bucket_Copy.f bt135.1 bt135.2.1 bt135.2.2.1 bt135.2.2.2).bind fun bt145 => (octroilaw10_BucketPlays.l0 k l3 0 bt135.1 bt135.2.1 bt135.2.2.1 bt135.2.2.2 bt140.1 bt140.2.1 bt140.2.2.1 bt140.2.2.2 bt145.1 bt145.2.1 bt145.2.2.1 bt145.2.2.2 bt140.1 bt140.2.1 bt140.2.2.1 bt140.2.2.2))))) = some r := h
  clear h
  by_cases c5 : (l3.length : Int) > 60
  · rw [if_pos c5] at H
    have c5b0 : decide (60 < (l3.length : Int)) = true := decide_eq_true c5
    have c5b1 : decide (60 < l3.length) = true := decide_eq_true (by omega)
    clear c5
    replace H := Option.bind_eq_some_iff.mp H
    obtain ⟨t134, A60, H⟩ := H
    replace H : (some t134) = some r := H
    have A6 := Aside0.mk A60
    clear A60
    obtain rfl := Option.some.inj H
    go_enter Try.func4, Try.ntmps4
    go_wp2_with (first | ((with_reducible refine gate_callee (f := 8) rfl ?_); refine goesL_ (some 20) rfl rfl Try.func8 (by kernel_rfl) rfl #[] rfl (by (try simp only [List.map_toArray, List.map_cons, List.map_nil]); first | done | rfl | (simp only [List.length_drop, List.length_take]; rfl)) ?_; (with_reducible refine (octroilaw10_works.calls  t134 _ A6.out).mono ?_); rintro e w7 ⟨rfl, hb⟩; refine ⟨_, rfl, ?_⟩; have n0_ := Aside0.mk (below_step (by repeat (first | (with_reducible first | exact HB.out | apply below_alloc | apply pw_below_drewN | apply below_drew1) | exact HB.out)) hb); clear HB; have HB := n0_; clear n0_; (try clear hb); (try clear hb2); (try clear hk); (try clear hi); (try clear hge)))
    go_ret
    exact ⟨by first | rfl | (simp [errW_none, errW_some] <;> rfl) | (simp [*, errW_none, errW_some] <;> rfl), by repeat (first | (with_reducible first | exact HB.out | apply below_alloc | apply pw_below_drewN | apply below_drew1) | exact HB.out)⟩
  · rw [if_neg c5] at H
    have c5b0 : decide (60 < (l3.length : Int)) = false := decide_eq_false c5
    have c5b1 : decide (60 < l3.length) = false := decide_eq_false (by omega)
    clear c5
    replace H := Option.bind_eq_some_iff.mp H
    obtain ⟨⟨t135, t136, t137, t138⟩, A80, H⟩ := H
    replace H : ((octroiref10_New.f a0 a1 a2).bind fun bt140 => ((bucket_Bucket_Copy.f t135 t136 t137 t138).bind fun bt145 => (octroilaw10_BucketPlays.l0 k l3 0 t135 t136 t137 t138 bt140.1 bt140.2.1 bt140.2.2.1 bt140.2.2.2 bt145.1 bt145.2.1 bt145.2.2.1 bt145.2.2.2 bt140.1 bt140.2.1 bt140.2.2.1 bt140.2.2.2))) = some r := H
    have A8 := Aside0.mk A80
    clear A80
    replace H := Option.bind_eq_some_iff.mp H
    obtain ⟨⟨t140, t141, t142, t143⟩, A90, H⟩ := H
    replace H : ((bucket_Bucket_Copy.f t135 t136 t137 t138).bind fun bt145 => (octroilaw10_BucketPlays.l0 k l3 0 t135 t136 t137 t138 t140 t141 t142 t143 bt145.1 bt145.2.1 bt145.2.2.1 bt145.2.2.2 t140 t141 t142 t143)) = some r := H
    have A9 := Aside0.mk A90
    clear A90
    replace H := Option.bind_eq_some_iff.mp H
    obtain ⟨⟨t145, t146, t147, t148⟩, A100, H⟩ := H
    replace H : (octroilaw10_BucketPlays.l0 k l3 0 t135 t136 t137 t138 t140 t141 t142 t143 t145 t146 t147 t148 t140 t141 t142 t143) = some r := H
    have A10 := Aside0.mk A100
    clear A100
    have H' := Aside0.mk H
    clear H
    go_enter Try.func4, Try.ntmps4
    go_upto_region 6 with (first | ((with_reducible refine gate_callee (f := 9) rfl ?_); refine goesL_ (some 24) rfl rfl Try.func9 (by kernel_rfl) rfl #[.int .u64 a0, .int .u64 a1, .int .u64 a2] rfl (by (try simp only [List.map_toArray, List.map_cons, List.map_nil]); first | done | rfl | (simp only [List.length_drop, List.length_take]; rfl)) ?_; (with_reducible refine (bucket_New.calls a0 a1 a2 t135 t136 t137 t138 w _ ?side1 A8.out).mono ?_); (case side1 => repeat (first | (with_reducible first | exact HB.out | apply below_alloc | apply pw_below_drewN | apply below_drew1) | exact HB.out)); rintro e w11 ⟨g139, rfl, hi, hb, hb2⟩; refine ⟨_, rfl, ?_⟩; have n0_ := Aside0.mk (hb); have n1_ := Aside0.mk (hi); clear HB; have HB := n0_; have HI139 := n1_; clear n0_ n1_; (try clear hb); (try clear hb2); (try clear hk); (try clear hi); (try clear hge)) | ((with_reducible refine gate_callee (f := 12) rfl ?_); refine goesL_ (some 28) rfl rfl Try.func12 (by kernel_rfl) rfl #[.int .u64 a0, .int .u64 a1, .int .u64 a2] rfl (by (try simp only [List.map_toArray, List.map_cons, List.map_nil]); first | done | rfl | (simp only [List.length_drop, List.length_take]; rfl)) ?_; (with_reducible refine (octroiref10_New.calls a0 a1 a2 t140 t141 t142 t143 _ A9.out).mono ?_); rintro e w12 ⟨rfl, hb⟩; refine ⟨_, rfl, ?_⟩; have n0_ := Aside0.mk (IsS47.below (by repeat (first | (with_reducible first | exact HI139.out | apply IsS47.alloc | apply IsS47.drewN | apply IsS47.drew | apply IsS47.set_0 | apply IsS47.set_1 | apply IsS47.set_2 | apply IsS47.set_3) | exact HI139.out)) hb); have n1_ := Aside0.mk (below_step (by repeat (first | (with_reducible first | exact HB.out | apply below_alloc | apply pw_below_drewN | apply below_drew1 | refine below_set ?_ (IsS47.ge HI139.out)) | exact HB.out)) hb); clear HI139; clear HB; have HI139 := n0_; have HB := n1_; clear n0_ n1_; (try clear hb); (try clear hb2); (try clear hk); (try clear hi); (try clear hge)) | ((with_reducible refine gate_dst (N := 10) rfl ?_); refine box_event ?hg (N := 10) ?hd (cs := #[.int .u64 0, .int .u64 0, .int .u64 0, .int .u64 0]) (t := 34) ?hr ?_; (case hd => rfl); (case hg => rfl); (case hr => first | (go_simp; done) | (go_simp; rfl)); intro gb144 hg w13 hbox hb; have n0_ := Aside0.mk (IsS47.below (by repeat (first | (with_reducible first | exact HI139.out | apply IsS47.alloc | apply IsS47.drewN | apply IsS47.drew | apply IsS47.set_0 | apply IsS47.set_1 | apply IsS47.set_2 | apply IsS47.set_3) | exact HI139.out)) hb); have n1_ := Aside0.mk (below_step (by repeat (first | (with_reducible first | exact HB.out | apply below_alloc | apply pw_below_drewN | apply below_drew1 | refine below_set ?_ (IsS47.ge HI139.out)) | exact HB.out)) hb); have n2_ := Aside0.mk (hbox); have n3_ := Aside0.mk ((by rw [hg]; exact (below_size (by repeat (first | (with_reducible first | exact HB.out | apply below_alloc | apply pw_below_drewN | apply below_drew1 | refine below_set ?_ (IsS47.ge HI139.out)) | exact HB.out))) : w.heap.size ≤ gb144)); have n4_ := Aside0.mk ((by rw [hg]; exact (below_size (by repeat (first | (with_reducible first | exact HB.out | apply below_alloc | apply pw_below_drewN | apply below_drew1 | refine below_set ?_ (IsS47.ge HI139.out)) | exact HB.out))) : w.heap.size ≤ gb144)); have n5_ := Aside0.mk ((by rw [hg]; exact Nat.ne_of_lt (IsS47.lt (show IsS47 w _ g139 t135 t136 t137 t138 from by repeat (first | (with_reducible first | exact HI139.out | apply IsS47.alloc | apply IsS47.drewN | apply IsS47.drew | apply IsS47.set_0 | apply IsS47.set_1 | apply IsS47.set_2 | apply IsS47.set_3) | exact HI139.out))) : g139 ≠ gb144)); have n6_ := Aside0.mk ((by rw [hg]; exact Nat.ne_of_gt (IsS47.lt (show IsS47 w _ g139 t135 t136 t137 t138 from by repeat (first | (with_reducible first | exact HI139.out | apply IsS47.alloc | apply IsS47.drewN | apply IsS47.drew | apply IsS47.set_0 | apply IsS47.set_1 | apply IsS47.set_2 | apply IsS47.set_3) | exact HI139.out))) : gb144 ≠ g139)); clear HI139; clear HB; have HI139 := n0_; have HB := n1_; have BK144 := n2_; have GW144 := n3_; have GE144 := n4_; have NB139_144 := n5_; have NB144_139 := n6_; clear n0_ n1_ n2_ n3_ n4_ n5_ n6_; clear hb hbox hg; have hnb14 := NB144_139.out; have hnc14 := NB139_144.out; have hcz15_0 : w13.cell? ⟨gb144, 0, none⟩ = some (.int .u64 0) := (blk_cell BK144.out 0).trans rfl; have hcz15_1 : w13.cell? ⟨gb144, 1, none⟩ = some (.int .u64 0) := (blk_cell BK144.out 1).trans rfl; have hcz15_2 : w13.cell? ⟨gb144, 2, none⟩ = some (.int .u64 0) := (blk_cell BK144.out 2).trans rfl; have hcz15_3 : w13.cell? ⟨gb144, 3, none⟩ = some (.int .u64 0) := (blk_cell BK144.out 3).trans rfl; have hfz15_0 := blk_frozen BK144.out 0; have hfz15_1 := blk_frozen BK144.out 1; have hfz15_2 := blk_frozen BK144.out 2; have hfz15_3 := blk_frozen BK144.out 3))
    have HI6 := Aside0.mk (show IsS47 w ((((w13.setCell ⟨gb144, 0, none⟩ (.int .u64 t140)).setCell ⟨gb144, 1, none⟩ (.int .u64 t141)).setCell ⟨gb144, 2, none⟩ (.int .u64 t142)).setCell ⟨gb144, 3, none⟩ (.int .u64 t143)) g139 t135 t136 t137 t138 from by repeat (first | (with_reducible first | exact HI139.out | refine IsS47.far ?_ NB139_144.out _) | exact HI139.out))
    have BK6 := Aside0.mk (show ((((w13.setCell ⟨gb144, 0, none⟩ (.int .u64 t140)).setCell ⟨gb144, 1, none⟩ (.int .u64 t141)).setCell ⟨gb144, 2, none⟩ (.int .u64 t142)).setCell ⟨gb144, 3, none⟩ (.int .u64 t143)).heap[gb144]? = some (.cells #[.int .u64 t140, .int .u64 t141, .int .u64 t142, .int .u64 t143] 34 (0, 0)) from put4 BK144.out)
    have HB6 := Aside0.mk (show Below w.heap.size w ((((w13.setCell ⟨gb144, 0, none⟩ (.int .u64 t140)).setCell ⟨gb144, 1, none⟩ (.int .u64 t141)).setCell ⟨gb144, 2, none⟩ (.int .u64 t142)).setCell ⟨gb144, 3, none⟩ (.int .u64 t143)) from by repeat (first | (with_reducible first | exact HB.out | refine below_set ?_ GE144.out) | exact HB.out))
    have NC139_144 := Aside0.mk NB139_144.out
    clear HI139 BK144 HB hnb14 hnc14 hcz15_0 hcz15_1 hcz15_2 hcz15_3 hfz15_0 hfz15_1 hfz15_2 hfz15_3
    generalize ((((w13.setCell ⟨gb144, 0, none⟩ (.int .u64 t140)).setCell ⟨gb144, 1, none⟩ (.int .u64 t141)).setCell ⟨gb144, 2, none⟩ (.int .u64 t142)).setCell ⟨gb144, 3, none⟩ (.int .u64 t143)) = w14 at HI6 BK6 HB6 ⊢
    go_cut [11, 12] (fun v11 v12 wc => ∃ (g149 gb150 : Nat), v11 = .pointer (some ⟨g149, 0, none⟩) ∧ v12 = .pointer (some ⟨gb150, 0, none⟩) ∧ Aside0 (wc.heap[gb144]? = some (.cells #[.int .u64 t140, .int .u64 t141, .int .u64 t142, .int .u64 t143] 34 (0, 0))) ∧ Aside0 (wc.heap[gb150]? = some (.cells #[.int .u64 t140, .int .u64 t141, .int .u64 t142, .int .u64 t143] 34 (0, 0))) ∧ Aside0 (IsS47 w wc g139 t135 t136 t137 t138) ∧ Aside0 (IsS47 w wc g149 t145 t146 t147 t148) ∧ Aside0 (Below w.heap.size w wc) ∧ Aside0 (w.heap.size ≤ gb150) ∧ Aside0 (g139 ≠ g149) ∧ Aside0 (gb144 ≠ gb150))
    case first =>
      obtain ⟨⟨c0, c1, c2, c3⟩, -⟩ := cells4 BK6.out
      go_region_held3 (fun W => W.cell? ⟨gb144, 0, none⟩ = some (.int .u64 t140) ∧ W.cell? ⟨gb144, 1, none⟩ = some (.int .u64 t141) ∧ W.cell? ⟨gb144, 2, none⟩ = some (.int .u64 t142) ∧ W.cell? ⟨gb144, 3, none⟩ = some (.int .u64 t143))
        (first | (with_reducible exact (cells4 (far4 (blk_below (blk_alloc (blk_drew BK6.out) _) hb2) (Nat.ne_of_lt (blk_lt BK6.out)))).1) | (with_reducible exact (cells4 (far4 (blk_alloc (blk_below (blk_drew BK6.out) hb2) _) (Nat.ne_of_lt (blk_lt (blk_below (blk_drew BK6.out) hb2))))).1) | (with_reducible exact (cells4 (blk_drew BK6.out)).1) | (with_reducible exact (cells4 (blk_alloc (blk_drew BK6.out) _)).1) | (with_reducible exact (cells4 (blk_below (blk_drew BK6.out) hb2)).1) | (with_reducible exact (cells4 (blk_below (blk_alloc (blk_drew BK6.out) _) hb2)).1) | (with_reducible exact (cells4 (blk_alloc (blk_below (blk_drew BK6.out) hb2) _)).1) | (exact (cells4 (blk_drew BK6.out)).1) | (exact (cells4 (blk_alloc (blk_drew BK6.out) _)).1) | (exact (cells4 (blk_below (blk_drew BK6.out) hb2)).1) | (exact (cells4 (blk_below (blk_alloc (blk_drew BK6.out) _) hb2)).1) | (exact (cells4 (blk_alloc (blk_below (blk_drew BK6.out) hb2) _)).1))
        (first | (go_at_call 13; refine (copyB g139 t135 t136 t137 t138 t145 t146 t147 t148 w w14.drew w14.heap.size rfl (IsS47.alloc (IsS47.drew HI6.out) _) (below_alloc (below_drew1 HB6.out) _) A10.out).mono ?_; rintro e w16 ⟨g149, rfl, hi, hb, hb2, hge, z0, z1, z2, z3, y0, y1, y2, y3⟩) | (go_at_call 13; refine (bucket_Bucket_Copy.calls g139 t135 t136 t137 t138 t145 t146 t147 t148 w _ (IsS47.drew HI6.out) (below_drew1 HB6.out) A10.out).mono ?_; rintro e w16 ⟨g149, rfl, hi, hb, hb2, hge⟩))
      all_goals (go_wp2_with fail; go_meet)
      · have b1 := blk_below (blk_drew BK6.out) hb2
        have hi1 := IsS47.below (IsS47.drew HI6.out) hb2
        have ne1 := Nat.ne_of_lt (blk_lt b1)
        have ne2 := Nat.ne_of_lt (IsS47.lt hi1)
        have ne3 := Nat.ne_of_lt (IsS47.lt hi)
        have hlt := IsS47.lt HI6.out
        have hge2 : w14.heap.size ≤ g149 := hge
        exact ⟨g149, w16.heap.size, rfl, rfl, ⟨blk_alloc b1 _⟩, ⟨blk_new _ _⟩, ⟨IsS47.alloc hi1 _⟩, ⟨IsS47.alloc hi _⟩, ⟨below_alloc hb _⟩, ⟨hb.size⟩, ⟨by omega⟩, ⟨ne1⟩⟩
      · have b1 := blk_below (blk_alloc (blk_drew BK6.out) _) hb2
        have hi1 := IsS47.below (IsS47.alloc (IsS47.drew HI6.out) _) hb2
        have bn := blk_below (blk_new w14.drew _) hb2
        have ne1 := Nat.ne_of_lt (blk_lt BK6.out)
        have ne2 := Nat.ne_of_lt (IsS47.lt HI6.out)
        have hlt := IsS47.lt HI6.out
        have hge2 : w14.heap.size + 1 ≤ g149 := Nat.le_trans (by simp) hge
        exact ⟨g149, w14.heap.size, rfl, rfl, ⟨far4 b1 ne1⟩, ⟨put4 bn⟩, ⟨⟨far4 hi1.1 ne2, hi1.2⟩⟩, ⟨⟨far4 hi.1 (by omega), hi.2⟩⟩, ⟨below4 HB6.out.size hb⟩, ⟨HB6.out.size⟩, ⟨by omega⟩, ⟨ne1⟩⟩
    case rest =>
    obtain ⟨g149, gb150, rfl, rfl, BK144, BK150, HI139, HI149, HB, GE150, NB139_149, NB144_150⟩ := hcut
    have GW150 := Aside0.mk GE150.out
    have NB149_139 := Aside0.mk NB139_149.out.symm
    have NB150_144 := Aside0.mk NB144_150.out.symm
    have NB139_150 := Aside0.mk (IsS47.ne_blk HI139.out BK150.out (by decide))
    have NB150_139 := Aside0.mk NB139_150.out.symm
    have NB149_144 := Aside0.mk (IsS47.ne_blk HI149.out BK144.out (by decide))
    have NB144_149 := Aside0.mk NB149_144.out.symm
    have NB149_150 := Aside0.mk (IsS47.ne_blk HI149.out BK150.out (by decide))
    have NB150_149 := Aside0.mk NB149_150.out.symm
    go_wp2
    go_loopg [13] k (fun kq v13 w' => ∃ (x13_1 : Int) (x140000_1 : Int) (x140001_1 : Int) (x140002_1 : Int) (x140003_1 : Int) (x145000_1 : Int) (x145001_1 : Int) (x145002_1 : Int) (x145003_1 : Int) (x150000_1 : Int) (x150001_1 : Int) (x150002_1 : Int) (x150003_1 : Int), v13 = .int .i64 x13_1 ∧ Aside0 (octroilaw10_BucketPlays.l0 kq l3 x13_1 x140000_1 x140001_1 x140002_1 x140003_1 x145000_1 x145001_1 x145002_1 x145003_1 x150000_1 x150001_1 x150002_1 x150003_1 t140 t141 t142 t143 = some r) ∧ Aside0 (kq ≤ k) ∧ Aside0 (w'.heap[gb144]? = some (.cells #[.int .u64 x145000_1, .int .u64 x145001_1, .int .u64 x145002_1, .int .u64 x145003_1] 34 (0, 0))) ∧ Aside0 (w'.heap[gb150]? = some (.cells #[.int .u64 t140, .int .u64 t141, .int .u64 t142, .int .u64 t143] 34 (0, 0))) ∧ Aside0 (IsS47 w w' g139 x140000_1 x140001_1 x140002_1 x140003_1) ∧ Aside0 (IsS47 w w' g149 x150000_1 x150001_1 x150002_1 x150003_1) ∧ Aside0 (Below w.heap.size w w'))
    case atStart => exact ⟨(0), (t135), (t136), (t137), (t138), (t140), (t141), (t142), (t143), (t145), (t146), (t147), (t148), (by first | rfl | (simp; done) | (simp [*]; done)), H', ⟨Nat.le_refl _⟩, BK144, BK150, HI139, HI149, HB⟩
    case round =>
      clear H'
      try clear c1
      try clear c2
      try clear p2
      try clear c3
      try clear c4
      try clear c5
      try clear c5b0
      try clear c5b1
      try clear c8
      try clear c9
      try clear c12
      try clear c13
      try clear c14
      try clear c17
      try clear c20
      try clear c21
      try clear c22
      try clear hcz15_0
      try clear hcz15_1
      try clear hcz15_2
      try clear hcz15_3
      try clear hcz18_0
      try clear hcz18_1
      try clear hcz18_2
      try clear hcz18_3
      try clear hcz23_0
      try clear hcz23_1
      try clear hcz23_2
      try clear hcz23_3
      try clear hfz15_0
      try clear hfz15_1
      try clear hfz15_2
      try clear hfz15_3
      try clear hfz18_0
      try clear hfz18_1
      try clear hfz18_2
      try clear hfz18_3
      try clear hfz23_0
      try clear hfz23_1
      try clear hfz23_2
      try clear hfz23_3
      obtain ⟨x13_1, x140000_1, x140001_1, x140002_1, x140003_1, x145000_1, x145001_1, x145002_1, x145003_1, x150000_1, x150001_1, x150002_1, x150003_1, rfl, HA, HK1, BK144, BK150, HI139, HI149, HB⟩ := hrel
      cases gk with
      | zero => exact absurd HA.out (by simp [octroilaw10_BucketPlays.l0])
      | succ k1 =>
        have H := HA.out
        clear HA
        simp only [octroilaw10_BucketPlays.l0] at H
        by_cases c24 : x13_1 < (l3.length : Int)
        · rw [if_pos c24] at H
          have c24b0 : decide (x13_1 < (l3.length : Int)) = true := decide_eq_true c24
          clear c24
          by_cases c25 : 0 ≤ x13_1
          · rw [if_pos c25] at H
            have c25b0 : decide (0 ≤ x13_1) = true := decide_eq_true c25
            clear c25
            replace H := Option.bind_eq_some_iff.mp H
            obtain ⟨⟨t163, t164, t165, t166, t167, t168, t169, t170, t171⟩, A260, H⟩ := H
            replace H : ((bucket_Bucket_Copy.f t168 t169 t170 t171).bind fun bt173 => (if t167 = true then ((bucket_Bucket_Tick.f t168 t169 t170 t171).bind fun bt178 => (if bt178.1 = t165 then ((bucket_Bucket_Tick.f bt173.1 bt173.2.1 bt173.2.2.1 bt173.2.2.2).bind fun bt183 => (if bt183.1 = t165 then ((bucket_Bucket_Level.f bt183.2.1 bt183.2.2.1 bt183.2.2.2.1 bt183.2.2.2.2 0).bind fun bt188 => (octroilaw10_BucketPlays.j1 k1 l3 x13_1 (bt188.1 != t166) bt178.2.1 bt178.2.2.1 bt178.2.2.2.1 bt178.2.2.2.2 t163 t164 t165 t166 x150000_1 x150001_1 x150002_1 x150003_1 t140 t141 t142 t143 bt188.2.1 bt188.2.2.1 bt188.2.2.2.1 bt188.2.2.2.2)) else (octroilaw10_BucketPlays.j1 k1 l3 x13_1 true bt178.2.1 bt178.2.2.1 bt178.2.2.2.1 bt178.2.2.2.2 t163 t164 t165 t166 x150000_1 x150001_1 x150002_1 x150003_1 t140 t141 t142 t143 bt183.2.1 bt183.2.2.1 bt183.2.2.2.1 bt183.2.2.2.2))) else (octroilaw10_BucketPlays.j1 k1 l3 x13_1 true bt178.2.1 bt178.2.2.1 bt178.2.2.2.1 bt178.2.2.2.2 t163 t164 t165 t166 x150000_1 x150001_1 x150002_1 x150003_1 t140 t141 t142 t143 bt173.1 bt173.2.1 bt173.2.2.1 bt173.2.2.2))) else (octroilaw10_BucketPlays.j1 k1 l3 x13_1 true t168 t169 t170 t171 t163 t164 t165 t166 x150000_1 x150001_1 x150002_1 x150003_1 t140 t141 t142 t143 bt173.1 bt173.2.1 bt173.2.2.1 bt173.2.2.2))) = some r := H
            have A26 := Aside0.mk A260
            clear A260
            replace H := Option.bind_eq_some_iff.mp H
            obtain ⟨⟨t173, t174, t175, t176⟩, A270, H⟩ := H
            replace H : (if t167 = true then ((bucket_Bucket_Tick.f t168 t169 t170 t171).bind fun bt178 => (if bt178.1 = t165 then ((bucket_Bucket_Tick.f t173 t174 t175 t176).bind fun bt183 => (if bt183.1 = t165 then ((bucket_Bucket_Level.f bt183.2.1 bt183.2.2.1 bt183.2.2.2.1 bt183.2.2.2.2 0).bind fun bt188 => (octroilaw10_BucketPlays.j1 k1 l3 x13_1 (bt188.1 != t166) bt178.2.1 bt178.2.2.1 bt178.2.2.2.1 bt178.2.2.2.2 t163 t164 t165 t166 x150000_1 x150001_1 x150002_1 x150003_1 t140 t141 t142 t143 bt188.2.1 bt188.2.2.1 bt188.2.2.2.1 bt188.2.2.2.2)) else (octroilaw10_BucketPlays.j1 k1 l3 x13_1 true bt178.2.1 bt178.2.2.1 bt178.2.2.2.1 bt178.2.2.2.2 t163 t164 t165 t166 x150000_1 x150001_1 x150002_1 x150003_1 t140 t141 t142 t143 bt183.2.1 bt183.2.2.1 bt183.2.2.2.1 bt183.2.2.2.2))) else (octroilaw10_BucketPlays.j1 k1 l3 x13_1 true bt178.2.1 bt178.2.2.1 bt178.2.2.2.1 bt178.2.2.2.2 t163 t164 t165 t166 x150000_1 x150001_1 x150002_1 x150003_1 t140 t141 t142 t143 t173 t174 t175 t176))) else (octroilaw10_BucketPlays.j1 k1 l3 x13_1 true t168 t169 t170 t171 t163 t164 t165 t166 x150000_1 x150001_1 x150002_1 x150003_1 t140 t141 t142 t143 t173 t174 t175 t176)) = some r := H
            have A27 := Aside0.mk A270
            clear A270
            have HC28 := Aside0.mk H
            clear H
            try go_wp2
            have n0_ := Aside0.mk (blk_drew BK144.out)
            have n1_ := Aside0.mk (blk_drew BK150.out)
            have n2_ := Aside0.mk (IsS47.drew HI139.out)
            have n3_ := Aside0.mk (IsS47.drew HI149.out)
            have n4_ := Aside0.mk (below_drew1 HB.out)
            clear BK144
            clear BK150
            clear HI139
            clear HI149
            clear HB
            have BK144 := n0_
            have BK150 := n1_
            have HI139 := n2_
            have HI149 := n3_
            have HB := n4_
            clear n0_ n1_ n2_ n3_ n4_
            have p162 : 0 ≤ (x13_1 : Int) := of_decide_eq_true (by first | (with_reducible assumption) | assumption)
            have q162 : x13_1 < (l3.length : Int) := of_decide_eq_true (by first | (with_reducible assumption) | assumption)
            obtain ⟨ad162, e162, hx162_0, hx162_1, hx162_2⟩ := at_T40 HR3.out x13_1 p162 q162
            have hw162_2 := hx162_2
            have hw162_1 := hx162_1
            have hw162_0 := hx162_0
            cases e162
            replace hx162_0 := (HB.out.cell (World.block_lt_of_cell? w _ hx162_0)).trans hx162_0
            replace hx162_1 := (HB.out.cell (World.block_lt_of_cell? w _ hx162_1)).trans hx162_1
            replace hx162_2 := (HB.out.cell (World.block_lt_of_cell? w _ hx162_2)).trans hx162_2
            replace p162 := eq_true p162
            replace q162 := eq_true q162
            refine start_ (n := 13) (S := fun w' => w'.cell? ⟨gb144, 0, none⟩ = some (.int .u64 x145000_1) ∧ w'.cell? ⟨gb144, 1, none⟩ = some (.int .u64 x145001_1) ∧ w'.cell? ⟨gb144, 2, none⟩ = some (.int .u64 x145002_1) ∧ w'.cell? ⟨gb144, 3, none⟩ = some (.int .u64 x145003_1) ∧ w'.cell? (ad162.add ((x13_1).toNat * 3)) = some (.int .i64 ((rd_T40 l3 x13_1).f0)) ∧ w'.cell? ⟨(ad162.add ((x13_1).toNat * 3)).block, (ad162.add ((x13_1).toNat * 3)).off + 1, none⟩ = some (.int .u64 ((rd_T40 l3 x13_1).f1)) ∧ w'.cell? ⟨(ad162.add ((x13_1).toNat * 3)).block, (ad162.add ((x13_1).toNat * 3)).off + 2, none⟩ = some (.int .u64 ((rd_T40 l3 x13_1).f2))) (ds := []) #[false, false, false, false, false, false, false, false, false, false, false, false, false] (by kernel_rfl) rfl rfl ⟨(blk_cell BK144.out 0).trans rfl, (blk_cell BK144.out 1).trans rfl, (blk_cell BK144.out 2).trans rfl, (blk_cell BK144.out 3).trans rfl, ((HB.out.cell (World.block_lt_of_cell? w _ hw162_0)).trans hw162_0), ((HB.out.cell (World.block_lt_of_cell? w _ hw162_1)).trans hw162_1), ((HB.out.cell (World.block_lt_of_cell? w _ hw162_2)).trans hw162_2)⟩ (fun hHeld => ?_); refine with_tabW octroilaw10_BucketPlays.tab10 octroilaw10_BucketPlays.bits10 (fun HT_ HW_ => ?_)
            generalize wr.drew = w29 at BK144 BK150 HI139 HI149 HB hx162_0 hx162_1 hx162_2 hHeld ⊢
            refine pure_ (i := 0) (N := some 41) (v := ?_) (a' := ?_) #[true, false, false, false, false, false, false, false, false, false, false, false, false] rfl rfl (any_of HT_.out (by kernel_rfl)) (fun _ _ _ h => h) (Or.inl ⟨by rfl, ?_⟩) ?_ ?_
            rotate_left
            · intro w'
              go_simp
              with_reducible rfl
            rotate_left
            · simp only [Act.put, List.setIfInBounds_toArray, List.set_cons_zero, List.set_cons_succ, i64_w, i32_w]
              rfl
            refine pure_ (i := 2) (N := some 43) (v := ?_) (a' := ?_) #[true, false, true, false, false, false, false, false, false, false, false, false, false] rfl rfl (any_of HT_.out (by kernel_rfl)) (fun _ _ _ h => h) (Or.inl ⟨by rfl, ?_⟩) ?_ ?_
            rotate_left
            · intro w'
              go_simp
              with_reducible rfl
            rotate_left
            · simp only [Act.put, List.setIfInBounds_toArray, List.set_cons_zero, List.set_cons_succ, i64_w, i32_w]
              rfl
            refine pure_ (i := 3) (N := some 44) (v := ?_) (a' := ?_) #[true, false, true, true, false, false, false, false, false, false, false, false, false] rfl rfl (any_of HT_.out (by kernel_rfl)) (fun _ _ _ h => h) (Or.inl ⟨by rfl, ?_⟩) ?_ ?_
            rotate_left
            · intro w'
              go_simp
              with_reducible rfl
            rotate_left
            · simp only [Act.put, List.setIfInBounds_toArray, List.set_cons_zero, List.set_cons_succ, i64_w, i32_w]
              rfl
            refine pure_ (i := 4) (N := some 45) (v := ?_) (a' := ?_) #[true, false, true, true, true, false, false, false, false, false, false, false, false] rfl rfl (any_of HT_.out (by kernel_rfl)) (fun _ _ _ h => h) (Or.inl ⟨by rfl, ?_⟩) ?_ ?_
            rotate_left
            · intro w'
              go_simp
              with_reducible rfl
            rotate_left
            · simp only [Act.put, List.setIfInBounds_toArray, List.set_cons_zero, List.set_cons_succ, i64_w, i32_w]
              rfl
            refine take_ (i := 1) (N := some 42) (v := ?_) (a' := ?_) #[true, true, true, true, true, false, false, false, false, false, false, false, false] rfl rfl (take_ofW HT_.out HW_.out (by kernel_rfl)) (fun _ _ _ h => h) (Or.inl ⟨by rfl, ?_⟩) hHeld ?_ ?_
            rotate_left
            · rintro w' ⟨s0, s1, s2, s3, s4, s5, s6⟩
              go_simp
              with_reducible rfl
            rotate_left
            · simp only [Act.put, List.setIfInBounds_toArray, List.set_cons_zero, List.set_cons_succ, i64_w, i32_w]
              rfl
            refine take_ (i := 5) (N := some 46) (v := ?_) (a' := ?_) #[true, true, true, true, true, true, false, false, false, false, false, false, false] rfl rfl (take_ofW HT_.out HW_.out (by kernel_rfl)) (fun _ _ _ h => h) (Or.inl ⟨by rfl, ?_⟩) hHeld ?_ ?_
            rotate_left
            · rintro w' ⟨s0, s1, s2, s3, s4, s5, s6⟩
              go_simp
              with_reducible rfl
            rotate_left
            · simp only [Act.put, List.setIfInBounds_toArray, List.set_cons_zero, List.set_cons_succ, i64_w, i32_w]
              rfl
            refine join_ (σ := Nat) 2 #[true, true, true, true, true, true, true, true, true, true, true, false, false] (fun s_ => [(47, .tuple #[.agg #[.int .u64 t163, .int .u64 t164, .int .u64 t165, .int .u64 t166], .bool t167]), (14, .pointer (some ⟨s_, 0, none⟩)), (40, .tuple #[.agg #[.int .u64 t163, .int .u64 t164, .int .u64 t165, .int .u64 t166], .bool t167]), (48, .agg #[.int .u64 t163, .int .u64 t164, .int .u64 t165, .int .u64 t166]), (49, .bool t167)]) (fun s_ w' => (w'.cell? ⟨gb144, 0, none⟩ = some (.int .u64 x145000_1) ∧ w'.cell? ⟨gb144, 1, none⟩ = some (.int .u64 x145001_1) ∧ w'.cell? ⟨gb144, 2, none⟩ = some (.int .u64 x145002_1) ∧ w'.cell? ⟨gb144, 3, none⟩ = some (.int .u64 x145003_1) ∧ w'.cell? (ad162.add ((x13_1).toNat * 3)) = some (.int .i64 ((rd_T40 l3 x13_1).f0)) ∧ w'.cell? ⟨(ad162.add ((x13_1).toNat * 3)).block, (ad162.add ((x13_1).toNat * 3)).off + 1, none⟩ = some (.int .u64 ((rd_T40 l3 x13_1).f1)) ∧ w'.cell? ⟨(ad162.add ((x13_1).toNat * 3)).block, (ad162.add ((x13_1).toNat * 3)).off + 2, none⟩ = some (.int .u64 ((rd_T40 l3 x13_1).f2))) ∧ (w'.heap[gb144]? = some (.cells #[.int .u64 x145000_1, .int .u64 x145001_1, .int .u64 x145002_1, .int .u64 x145003_1] 34 (0, 0))) ∧ (w'.heap[gb150]? = some (.cells #[.int .u64 t140, .int .u64 t141, .int .u64 t142, .int .u64 t143] 34 (0, 0))) ∧ (w'.heap[s_]? = some (.cells #[.int .u64 0, .int .u64 0, .int .u64 0, .int .u64 0] 34 (0, 0))) ∧ (w.heap.size ≤ s_) ∧ (w.heap.size ≤ s_) ∧ (g139 ≠ s_) ∧ (s_ ≠ g139) ∧ (g149 ≠ s_) ∧ (s_ ≠ g149) ∧ (gb144 ≠ s_) ∧ (s_ ≠ gb144) ∧ (gb150 ≠ s_) ∧ (s_ ≠ gb150) ∧ (IsS47 w w' g139 t168 t169 t170 t171) ∧ (IsS47 w w' g149 x150000_1 x150001_1 x150002_1 x150003_1) ∧ (Below w.heap.size w w')) ?_ ?_
            rotate_left
            · intro hCont
              refine two_ (i := 6) (j := 10) (Ni := some 47) (Nj := some 14) #[true, true, true, true, true, true, true, false, false, false, false, false, false] #[true, true, true, true, true, true, false, false, false, false, true, false, false] rfl rfl rfl rfl (two_of HT_.out (by kernel_rfl)) (by decide) (by decide) (fun K hK => ?_) (fun K hK => ?_)
              · skip
                refine goes_ Try.func14 (by kernel_rfl) rfl #[.pointer (some ⟨g139, 0, none⟩), .agg #[.int .u64 x145000_1, .int .u64 x145001_1, .int .u64 x145002_1, .int .u64 x145003_1], .agg #[.int .i64 ((rd_T40 l3 x13_1).f0), .int .u64 ((rd_T40 l3 x13_1).f1), .int .u64 ((rd_T40 l3 x13_1).f2)]] (by rfl) rfl rfl (by (try simp only [List.map_toArray, List.map_cons, List.map_nil]); first | done | rfl | (simp only [List.length_drop, List.length_take]; rfl)) ?_
                with_reducible refine (octroilaw10_does.calls g139 x140000_1 x140001_1 x140002_1 x140003_1 x145000_1 x145001_1 x145002_1 x145003_1 ((rd_T40 l3 x13_1).f0) ((rd_T40 l3 x13_1).f1) ((rd_T40 l3 x13_1).f2) t163 t164 t165 t166 t167 t168 t169 t170 t171 w _ ?side1 ?side2 A26.out).mono ?_
                (case side1 => repeat (first | (with_reducible first | exact HI139.out | apply IsS47.alloc | apply IsS47.drewN | apply IsS47.drew | apply IsS47.set_0 | apply IsS47.set_1 | apply IsS47.set_2 | apply IsS47.set_3 | refine IsS47.far ?_ NB139_144.out _ | refine IsS47.far ?_ NB139_150.out _) | exact HI139.out))
                (case side2 => repeat (first | (with_reducible first | exact HB.out | apply below_alloc | apply pw_below_drewN | apply below_drew1 | refine below_set ?_ (IsS47.ge HI139.out) | refine below_set ?_ (IsS47.ge HI149.out) | refine below_set ?_ GE144.out | refine below_set ?_ GE150.out) | exact HB.out))
                rintro e w30 ⟨rfl, hi, hb, hk⟩
                refine ⟨_, rfl, ?_⟩
                have n0_ := Aside0.mk (KeepBut.blk hk (g' := gb144) (o := .cells #[.int .u64 x145000_1, .int .u64 x145001_1, .int .u64 x145002_1, .int .u64 x145003_1] 34 (0, 0)) (by (with_reducible repeat (first | refine blk_drewN ?_ _ | refine blk_drew ?_ | refine blk_alloc ?_ _)); exact BK144.out) NB144_139.out (by simp))
                have n1_ := Aside0.mk (KeepBut.blk hk (g' := gb150) (o := .cells #[.int .u64 t140, .int .u64 t141, .int .u64 t142, .int .u64 t143] 34 (0, 0)) (by (with_reducible repeat (first | refine blk_drewN ?_ _ | refine blk_drew ?_ | refine blk_alloc ?_ _)); exact BK150.out) NB150_139.out (by simp))
                have n2_ := Aside0.mk (IsS47.keepG (by repeat (first | (with_reducible first | exact HI149.out | apply IsS47.alloc | apply IsS47.drewN | apply IsS47.drew | apply IsS47.set_0 | apply IsS47.set_1 | apply IsS47.set_2 | apply IsS47.set_3 | refine IsS47.far ?_ NB149_144.out _ | refine IsS47.far ?_ NB149_150.out _) | exact HI149.out)) hk NB149_139.out)
                have n3_ := Aside0.mk (hb)
                have n4_ := Aside0.mk (hi)
                clear BK144
                clear BK150
                clear HI149
                clear HB
                clear HI139
                have BK144 := n0_
                have BK150 := n1_
                have HI149 := n2_
                have HB := n3_
                have HI139 := n4_
                clear n0_ n1_ n2_ n3_ n4_
                (try clear hb)
                (try clear hb2)
                (try clear hk)
                (try clear hi)
                (try clear hge)
                refine hK.out _ _ ⟨(blk_cell BK144.out 0).trans rfl, (blk_cell BK144.out 1).trans rfl, (blk_cell BK144.out 2).trans rfl, (blk_cell BK144.out 3).trans rfl, ((HB.out.cell (World.block_lt_of_cell? w _ hw162_0)).trans hw162_0), ((HB.out.cell (World.block_lt_of_cell? w _ hw162_1)).trans hw162_1), ((HB.out.cell (World.block_lt_of_cell? w _ hw162_2)).trans hw162_2)⟩ (fun hHeld => ?_)
                clear hK K
                refine norm_ (a' := ?_) ?_ ?_
                rotate_left
                · show Act.put _ (some 47) _ = _
                  simp only [Act.put, List.setIfInBounds_toArray, List.set_cons_zero, List.set_cons_succ, i64_w, i32_w]
                  rfl
                refine pure_ (i := 7) (N := some 40) (v := ?_) (a' := ?_) #[true, true, true, true, true, true, true, true, false, false, false, false, false] rfl rfl (any_of HT_.out (by kernel_rfl)) (fun _ _ _ h => h) (Or.inl ⟨by rfl, ?_⟩) ?_ ?_
                rotate_left
                · intro w'
                  go_simp
                  with_reducible rfl
                rotate_left
                · simp only [Act.put, List.setIfInBounds_toArray, List.set_cons_zero, List.set_cons_succ, i64_w, i32_w]
                  rfl
                refine pure_ (i := 8) (N := some 48) (v := ?_) (a' := ?_) #[true, true, true, true, true, true, true, true, true, false, false, false, false] rfl rfl (any_of HT_.out (by kernel_rfl)) (fun _ _ _ h => h) (Or.inl ⟨by rfl, ?_⟩) ?_ ?_
                rotate_left
                · intro w'
                  go_simp
                  with_reducible rfl
                rotate_left
                · simp only [Act.put, List.setIfInBounds_toArray, List.set_cons_zero, List.set_cons_succ, i64_w, i32_w]
                  rfl
                refine pure_ (i := 9) (N := some 49) (v := ?_) (a' := ?_) #[true, true, true, true, true, true, true, true, true, true, false, false, false] rfl rfl (any_of HT_.out (by kernel_rfl)) (fun _ _ _ h => h) (Or.inl ⟨by rfl, ?_⟩) ?_ ?_
                rotate_left
                · intro w'
                  go_simp
                  with_reducible rfl
                rotate_left
                · simp only [Act.put, List.setIfInBounds_toArray, List.set_cons_zero, List.set_cons_succ, i64_w, i32_w]
                  rfl
                refine one_ (i := 10) (N := some 14) #[true, true, true, true, true, true, true, true, true, true, true, false, false] rfl rfl (one_of HT_.out (by kernel_rfl)) (by decide) (fun K hK => ?_)
                refine box_step ?hg (N := 14) ?hd (cs := #[.int .u64 0, .int .u64 0, .int .u64 0, .int .u64 0]) (t := 34) ?hr ?_; (case hd => rfl); (case hg => rfl); (case hr => first | (go_simp; done) | (go_simp; rfl))
                intro gb172 hg w31 hbox hb
                have n0_ := Aside0.mk (blk_below (g := gb144) (o := .cells #[.int .u64 x145000_1, .int .u64 x145001_1, .int .u64 x145002_1, .int .u64 x145003_1] 34 (0, 0)) (by (with_reducible repeat (first | refine blk_drewN ?_ _ | refine blk_drew ?_ | refine blk_alloc ?_ _)); exact BK144.out) hb)
                have n1_ := Aside0.mk (blk_below (g := gb150) (o := .cells #[.int .u64 t140, .int .u64 t141, .int .u64 t142, .int .u64 t143] 34 (0, 0)) (by (with_reducible repeat (first | refine blk_drewN ?_ _ | refine blk_drew ?_ | refine blk_alloc ?_ _)); exact BK150.out) hb)
                have n2_ := Aside0.mk (IsS47.below (by repeat (first | (with_reducible first | exact HI139.out | apply IsS47.alloc | apply IsS47.drewN | apply IsS47.drew | apply IsS47.set_0 | apply IsS47.set_1 | apply IsS47.set_2 | apply IsS47.set_3 | refine IsS47.far ?_ NB139_144.out _ | refine IsS47.far ?_ NB139_150.out _) | exact HI139.out)) hb)
                have n3_ := Aside0.mk (IsS47.below (by repeat (first | (with_reducible first | exact HI149.out | apply IsS47.alloc | apply IsS47.drewN | apply IsS47.drew | apply IsS47.set_0 | apply IsS47.set_1 | apply IsS47.set_2 | apply IsS47.set_3 | refine IsS47.far ?_ NB149_144.out _ | refine IsS47.far ?_ NB149_150.out _) | exact HI149.out)) hb)
                have n4_ := Aside0.mk (below_step (by repeat (first | (with_reducible first | exact HB.out | apply below_alloc | apply pw_below_drewN | apply below_drew1 | refine below_set ?_ (IsS47.ge HI139.out) | refine below_set ?_ (IsS47.ge HI149.out) | refine below_set ?_ GE144.out | refine below_set ?_ GE150.out) | exact HB.out)) hb)
                have n5_ := Aside0.mk (hbox)
                have n6_ := Aside0.mk ((by rw [hg]; exact (below_size (by repeat (first | (with_reducible first | exact HB.out | apply below_alloc | apply pw_below_drewN | apply below_drew1 | refine below_set ?_ (IsS47.ge HI139.out) | refine below_set ?_ (IsS47.ge HI149.out) | refine below_set ?_ GE144.out | refine below_set ?_ GE150.out) | exact HB.out))) : w.heap.size ≤ gb172))
                have n7_ := Aside0.mk ((by rw [hg]; exact (below_size (by repeat (first | (with_reducible first | exact HB.out | apply below_alloc | apply pw_below_drewN | apply below_drew1 | refine below_set ?_ (IsS47.ge HI139.out) | refine below_set ?_ (IsS47.ge HI149.out) | refine below_set ?_ GE144.out | refine below_set ?_ GE150.out) | exact HB.out))) : w.heap.size ≤ gb172))
                have n8_ := Aside0.mk ((by rw [hg]; exact Nat.ne_of_lt (blk_lt (g := gb144) (o := .cells #[.int .u64 x145000_1, .int .u64 x145001_1, .int .u64 x145002_1, .int .u64 x145003_1] 34 (0, 0)) (by (with_reducible repeat (first | refine blk_drewN ?_ _ | refine blk_drew ?_ | refine blk_alloc ?_ _)); exact BK144.out)) : gb144 ≠ gb172))
                have n9_ := Aside0.mk ((by rw [hg]; exact Nat.ne_of_gt (blk_lt (g := gb144) (o := .cells #[.int .u64 x145000_1, .int .u64 x145001_1, .int .u64 x145002_1, .int .u64 x145003_1] 34 (0, 0)) (by (with_reducible repeat (first | refine blk_drewN ?_ _ | refine blk_drew ?_ | refine blk_alloc ?_ _)); exact BK144.out)) : gb172 ≠ gb144))
                have n10_ := Aside0.mk ((by rw [hg]; exact Nat.ne_of_lt (blk_lt (g := gb150) (o := .cells #[.int .u64 t140, .int .u64 t141, .int .u64 t142, .int .u64 t143] 34 (0, 0)) (by (with_reducible repeat (first | refine blk_drewN ?_ _ | refine blk_drew ?_ | refine blk_alloc ?_ _)); exact BK150.out)) : gb150 ≠ gb172))
                have n11_ := Aside0.mk ((by rw [hg]; exact Nat.ne_of_gt (blk_lt (g := gb150) (o := .cells #[.int .u64 t140, .int .u64 t141, .int .u64 t142, .int .u64 t143] 34 (0, 0)) (by (with_reducible repeat (first | refine blk_drewN ?_ _ | refine blk_drew ?_ | refine blk_alloc ?_ _)); exact BK150.out)) : gb172 ≠ gb150))
                have n12_ := Aside0.mk ((by rw [hg]; exact Nat.ne_of_lt (IsS47.lt (show IsS47 w _ g139 t168 t169 t170 t171 from by repeat (first | (with_reducible first | exact HI139.out | apply IsS47.alloc | apply IsS47.drewN | apply IsS47.drew | apply IsS47.set_0 | apply IsS47.set_1 | apply IsS47.set_2 | apply IsS47.set_3 | refine IsS47.far ?_ NB139_144.out _ | refine IsS47.far ?_ NB139_150.out _) | exact HI139.out))) : g139 ≠ gb172))
                have n13_ := Aside0.mk ((by rw [hg]; exact Nat.ne_of_gt (IsS47.lt (show IsS47 w _ g139 t168 t169 t170 t171 from by repeat (first | (with_reducible first | exact HI139.out | apply IsS47.alloc | apply IsS47.drewN | apply IsS47.drew | apply IsS47.set_0 | apply IsS47.set_1 | apply IsS47.set_2 | apply IsS47.set_3 | refine IsS47.far ?_ NB139_144.out _ | refine IsS47.far ?_ NB139_150.out _) | exact HI139.out))) : gb172 ≠ g139))
                have n14_ := Aside0.mk ((by rw [hg]; exact Nat.ne_of_lt (IsS47.lt (show IsS47 w _ g149 x150000_1 x150001_1 x150002_1 x150003_1 from by repeat (first | (with_reducible first | exact HI149.out | apply IsS47.alloc | apply IsS47.drewN | apply IsS47.drew | apply IsS47.set_0 | apply IsS47.set_1 | apply IsS47.set_2 | apply IsS47.set_3 | refine IsS47.far ?_ NB149_144.out _ | refine IsS47.far ?_ NB149_150.out _) | exact HI149.out))) : g149 ≠ gb172))
                have n15_ := Aside0.mk ((by rw [hg]; exact Nat.ne_of_gt (IsS47.lt (show IsS47 w _ g149 x150000_1 x150001_1 x150002_1 x150003_1 from by repeat (first | (with_reducible first | exact HI149.out | apply IsS47.alloc | apply IsS47.drewN | apply IsS47.drew | apply IsS47.set_0 | apply IsS47.set_1 | apply IsS47.set_2 | apply IsS47.set_3 | refine IsS47.far ?_ NB149_144.out _ | refine IsS47.far ?_ NB149_150.out _) | exact HI149.out))) : gb172 ≠ g149))
                clear BK144
                clear BK150
                clear HI139
                clear HI149
                clear HB
                have BK144 := n0_
                have BK150 := n1_
                have HI139 := n2_
                have HI149 := n3_
                have HB := n4_
                have BK172 := n5_
                have GW172 := n6_
                have GE172 := n7_
                have NB144_172 := n8_
                have NB172_144 := n9_
                have NB150_172 := n10_
                have NB172_150 := n11_
                have NB139_172 := n12_
                have NB172_139 := n13_
                have NB149_172 := n14_
                have NB172_149 := n15_
                clear n0_ n1_ n2_ n3_ n4_ n5_ n6_ n7_ n8_ n9_ n10_ n11_ n12_ n13_ n14_ n15_
                clear hb hbox hg
                refine hK.out _ _ ⟨(blk_cell BK144.out 0).trans rfl, (blk_cell BK144.out 1).trans rfl, (blk_cell BK144.out 2).trans rfl, (blk_cell BK144.out 3).trans rfl, ((HB.out.cell (World.block_lt_of_cell? w _ hw162_0)).trans hw162_0), ((HB.out.cell (World.block_lt_of_cell? w _ hw162_1)).trans hw162_1), ((HB.out.cell (World.block_lt_of_cell? w _ hw162_2)).trans hw162_2)⟩ (fun hHeld => ?_)
                clear hK K
                refine norm_ (a' := ?_) ?_ ?_
                rotate_left
                · show Act.put _ (some 14) _ = _
                  simp only [Act.put, List.setIfInBounds_toArray, List.set_cons_zero, List.set_cons_succ, i64_w, i32_w]
                  rfl
                exact norm_ (by simp only [putAll, Act.put, List.setIfInBounds_toArray, List.set_cons_zero, List.set_cons_succ]) (hCont (gb172) _ ⟨hHeld, (by (with_reducible repeat (first | refine blk_drewN ?_ _ | refine blk_drew ?_ | refine blk_alloc ?_ _)); exact BK144.out), (by (with_reducible repeat (first | refine blk_drewN ?_ _ | refine blk_drew ?_ | refine blk_alloc ?_ _)); exact BK150.out), (by (with_reducible repeat (first | refine blk_drewN ?_ _ | refine blk_drew ?_ | refine blk_alloc ?_ _)); exact BK172.out), GW172.out, GE172.out, NB139_172.out, NB172_139.out, NB149_172.out, NB172_149.out, NB144_172.out, NB172_144.out, NB150_172.out, NB172_150.out, (by repeat (first | (with_reducible first | exact HI139.out | apply IsS47.alloc | apply IsS47.drewN | apply IsS47.drew | apply IsS47.set_0 | apply IsS47.set_1 | apply IsS47.set_2 | apply IsS47.set_3 | refine IsS47.far ?_ NB139_144.out _ | refine IsS47.far ?_ NB139_150.out _ | refine IsS47.far ?_ NB139_172.out _) | exact HI139.out)), (by repeat (first | (with_reducible first | exact HI149.out | apply IsS47.alloc | apply IsS47.drewN | apply IsS47.drew | apply IsS47.set_0 | apply IsS47.set_1 | apply IsS47.set_2 | apply IsS47.set_3 | refine IsS47.far ?_ NB149_144.out _ | refine IsS47.far ?_ NB149_150.out _ | refine IsS47.far ?_ NB149_172.out _) | exact HI149.out)), (by repeat (first | (with_reducible first | exact HB.out | apply below_alloc | apply pw_below_drewN | apply below_drew1 | refine below_set ?_ (IsS47.ge HI139.out) | refine below_set ?_ (IsS47.ge HI149.out) | refine below_set ?_ GE144.out | refine below_set ?_ GE150.out | refine below_set ?_ GE172.out) | exact HB.out))⟩)
              · skip
                refine box_step ?hg (N := 14) ?hd (cs := #[.int .u64 0, .int .u64 0, .int .u64 0, .int .u64 0]) (t := 34) ?hr ?_; (case hd => rfl); (case hg => rfl); (case hr => first | (go_simp; done) | (go_simp; rfl))
                intro gb172 hg w30 hbox hb
                have n0_ := Aside0.mk (blk_below (g := gb144) (o := .cells #[.int .u64 x145000_1, .int .u64 x145001_1, .int .u64 x145002_1, .int .u64 x145003_1] 34 (0, 0)) (by (with_reducible repeat (first | refine blk_drewN ?_ _ | refine blk_drew ?_ | refine blk_alloc ?_ _)); exact BK144.out) hb)
                have n1_ := Aside0.mk (blk_below (g := gb150) (o := .cells #[.int .u64 t140, .int .u64 t141, .int .u64 t142, .int .u64 t143] 34 (0, 0)) (by (with_reducible repeat (first | refine blk_drewN ?_ _ | refine blk_drew ?_ | refine blk_alloc ?_ _)); exact BK150.out) hb)
                have n2_ := Aside0.mk (IsS47.below (by repeat (first | (with_reducible first | exact HI139.out | apply IsS47.alloc | apply IsS47.drewN | apply IsS47.drew | apply IsS47.set_0 | apply IsS47.set_1 | apply IsS47.set_2 | apply IsS47.set_3 | refine IsS47.far ?_ NB139_144.out _ | refine IsS47.far ?_ NB139_150.out _) | exact HI139.out)) hb)
                have n3_ := Aside0.mk (IsS47.below (by repeat (first | (with_reducible first | exact HI149.out | apply IsS47.alloc | apply IsS47.drewN | apply IsS47.drew | apply IsS47.set_0 | apply IsS47.set_1 | apply IsS47.set_2 | apply IsS47.set_3 | refine IsS47.far ?_ NB149_144.out _ | refine IsS47.far ?_ NB149_150.out _) | exact HI149.out)) hb)
                have n4_ := Aside0.mk (below_step (by repeat (first | (with_reducible first | exact HB.out | apply below_alloc | apply pw_below_drewN | apply below_drew1 | refine below_set ?_ (IsS47.ge HI139.out) | refine below_set ?_ (IsS47.ge HI149.out) | refine below_set ?_ GE144.out | refine below_set ?_ GE150.out) | exact HB.out)) hb)
                have n5_ := Aside0.mk (hbox)
                have n6_ := Aside0.mk ((by rw [hg]; exact (below_size (by repeat (first | (with_reducible first | exact HB.out | apply below_alloc | apply pw_below_drewN | apply below_drew1 | refine below_set ?_ (IsS47.ge HI139.out) | refine below_set ?_ (IsS47.ge HI149.out) | refine below_set ?_ GE144.out | refine below_set ?_ GE150.out) | exact HB.out))) : w.heap.size ≤ gb172))
                have n7_ := Aside0.mk ((by rw [hg]; exact (below_size (by repeat (first | (with_reducible first | exact HB.out | apply below_alloc | apply pw_below_drewN | apply below_drew1 | refine below_set ?_ (IsS47.ge HI139.out) | refine below_set ?_ (IsS47.ge HI149.out) | refine below_set ?_ GE144.out | refine below_set ?_ GE150.out) | exact HB.out))) : w.heap.size ≤ gb172))
                have n8_ := Aside0.mk ((by rw [hg]; exact Nat.ne_of_lt (blk_lt (g := gb144) (o := .cells #[.int .u64 x145000_1, .int .u64 x145001_1, .int .u64 x145002_1, .int .u64 x145003_1] 34 (0, 0)) (by (with_reducible repeat (first | refine blk_drewN ?_ _ | refine blk_drew ?_ | refine blk_alloc ?_ _)); exact BK144.out)) : gb144 ≠ gb172))
                have n9_ := Aside0.mk ((by rw [hg]; exact Nat.ne_of_gt (blk_lt (g := gb144) (o := .cells #[.int .u64 x145000_1, .int .u64 x145001_1, .int .u64 x145002_1, .int .u64 x145003_1] 34 (0, 0)) (by (with_reducible repeat (first | refine blk_drewN ?_ _ | refine blk_drew ?_ | refine blk_alloc ?_ _)); exact BK144.out)) : gb172 ≠ gb144))
                have n10_ := Aside0.mk ((by rw [hg]; exact Nat.ne_of_lt (blk_lt (g := gb150) (o := .cells #[.int .u64 t140, .int .u64 t141, .int .u64 t142, .int .u64 t143] 34 (0, 0)) (by (with_reducible repeat (first | refine blk_drewN ?_ _ | refine blk_drew ?_ | refine blk_alloc ?_ _)); exact BK150.out)) : gb150 ≠ gb172))
                have n11_ := Aside0.mk ((by rw [hg]; exact Nat.ne_of_gt (blk_lt (g := gb150) (o := .cells #[.int .u64 t140, .int .u64 t141, .int .u64 t142, .int .u64 t143] 34 (0, 0)) (by (with_reducible repeat (first | refine blk_drewN ?_ _ | refine blk_drew ?_ | refine blk_alloc ?_ _)); exact BK150.out)) : gb172 ≠ gb150))
                have n12_ := Aside0.mk ((by rw [hg]; exact Nat.ne_of_lt (IsS47.lt (show IsS47 w _ g139 x140000_1 x140001_1 x140002_1 x140003_1 from by repeat (first | (with_reducible first | exact HI139.out | apply IsS47.alloc | apply IsS47.drewN | apply IsS47.drew | apply IsS47.set_0 | apply IsS47.set_1 | apply IsS47.set_2 | apply IsS47.set_3 | refine IsS47.far ?_ NB139_144.out _ | refine IsS47.far ?_ NB139_150.out _) | exact HI139.out))) : g139 ≠ gb172))
                have n13_ := Aside0.mk ((by rw [hg]; exact Nat.ne_of_gt (IsS47.lt (show IsS47 w _ g139 x140000_1 x140001_1 x140002_1 x140003_1 from by repeat (first | (with_reducible first | exact HI139.out | apply IsS47.alloc | apply IsS47.drewN | apply IsS47.drew | apply IsS47.set_0 | apply IsS47.set_1 | apply IsS47.set_2 | apply IsS47.set_3 | refine IsS47.far ?_ NB139_144.out _ | refine IsS47.far ?_ NB139_150.out _) | exact HI139.out))) : gb172 ≠ g139))
                have n14_ := Aside0.mk ((by rw [hg]; exact Nat.ne_of_lt (IsS47.lt (show IsS47 w _ g149 x150000_1 x150001_1 x150002_1 x150003_1 from by repeat (first | (with_reducible first | exact HI149.out | apply IsS47.alloc | apply IsS47.drewN | apply IsS47.drew | apply IsS47.set_0 | apply IsS47.set_1 | apply IsS47.set_2 | apply IsS47.set_3 | refine IsS47.far ?_ NB149_144.out _ | refine IsS47.far ?_ NB149_150.out _) | exact HI149.out))) : g149 ≠ gb172))
                have n15_ := Aside0.mk ((by rw [hg]; exact Nat.ne_of_gt (IsS47.lt (show IsS47 w _ g149 x150000_1 x150001_1 x150002_1 x150003_1 from by repeat (first | (with_reducible first | exact HI149.out | apply IsS47.alloc | apply IsS47.drewN | apply IsS47.drew | apply IsS47.set_0 | apply IsS47.set_1 | apply IsS47.set_2 | apply IsS47.set_3 | refine IsS47.far ?_ NB149_144.out _ | refine IsS47.far ?_ NB149_150.out _) | exact HI149.out))) : gb172 ≠ g149))
                clear BK144
                clear BK150
                clear HI139
                clear HI149
                clear HB
                have BK144 := n0_
                have BK150 := n1_
                have HI139 := n2_
                have HI149 := n3_
                have HB := n4_
                have BK172 := n5_
                have GW172 := n6_
                have GE172 := n7_
                have NB144_172 := n8_
                have NB172_144 := n9_
                have NB150_172 := n10_
                have NB172_150 := n11_
                have NB139_172 := n12_
                have NB172_139 := n13_
                have NB149_172 := n14_
                have NB172_149 := n15_
                clear n0_ n1_ n2_ n3_ n4_ n5_ n6_ n7_ n8_ n9_ n10_ n11_ n12_ n13_ n14_ n15_
                clear hb hbox hg
                refine hK.out _ _ ⟨(blk_cell BK144.out 0).trans rfl, (blk_cell BK144.out 1).trans rfl, (blk_cell BK144.out 2).trans rfl, (blk_cell BK144.out 3).trans rfl, ((HB.out.cell (World.block_lt_of_cell? w _ hw162_0)).trans hw162_0), ((HB.out.cell (World.block_lt_of_cell? w _ hw162_1)).trans hw162_1), ((HB.out.cell (World.block_lt_of_cell? w _ hw162_2)).trans hw162_2)⟩ (fun hHeld => ?_)
                clear hK K
                refine norm_ (a' := ?_) ?_ ?_
                rotate_left
                · show Act.put _ (some 14) _ = _
                  simp only [Act.put, List.setIfInBounds_toArray, List.set_cons_zero, List.set_cons_succ, i64_w, i32_w]
                  rfl
                refine one_ (i := 6) (N := some 47) #[true, true, true, true, true, true, true, false, false, false, true, false, false] rfl rfl (one_of HT_.out (by kernel_rfl)) (by decide) (fun K hK => ?_)
                refine goes_ Try.func14 (by kernel_rfl) rfl #[.pointer (some ⟨g139, 0, none⟩), .agg #[.int .u64 x145000_1, .int .u64 x145001_1, .int .u64 x145002_1, .int .u64 x145003_1], .agg #[.int .i64 ((rd_T40 l3 x13_1).f0), .int .u64 ((rd_T40 l3 x13_1).f1), .int .u64 ((rd_T40 l3 x13_1).f2)]] (by rfl) rfl rfl (by (try simp only [List.map_toArray, List.map_cons, List.map_nil]); first | done | rfl | (simp only [List.length_drop, List.length_take]; rfl)) ?_
                with_reducible refine (octroilaw10_does.calls g139 x140000_1 x140001_1 x140002_1 x140003_1 x145000_1 x145001_1 x145002_1 x145003_1 ((rd_T40 l3 x13_1).f0) ((rd_T40 l3 x13_1).f1) ((rd_T40 l3 x13_1).f2) t163 t164 t165 t166 t167 t168 t169 t170 t171 w _ ?side1 ?side2 A26.out).mono ?_
                (case side1 => repeat (first | (with_reducible first | exact HI139.out | apply IsS47.alloc | apply IsS47.drewN | apply IsS47.drew | apply IsS47.set_0 | apply IsS47.set_1 | apply IsS47.set_2 | apply IsS47.set_3 | refine IsS47.far ?_ NB139_144.out _ | refine IsS47.far ?_ NB139_150.out _ | refine IsS47.far ?_ NB139_172.out _) | exact HI139.out))
                (case side2 => repeat (first | (with_reducible first | exact HB.out | apply below_alloc | apply pw_below_drewN | apply below_drew1 | refine below_set ?_ (IsS47.ge HI139.out) | refine below_set ?_ (IsS47.ge HI149.out) | refine below_set ?_ GE144.out | refine below_set ?_ GE150.out | refine below_set ?_ GE172.out) | exact HB.out))
                rintro e w31 ⟨rfl, hi, hb, hk⟩
                refine ⟨_, rfl, ?_⟩
                have n0_ := Aside0.mk (KeepBut.blk hk (g' := gb144) (o := .cells #[.int .u64 x145000_1, .int .u64 x145001_1, .int .u64 x145002_1, .int .u64 x145003_1] 34 (0, 0)) (by (with_reducible repeat (first | refine blk_drewN ?_ _ | refine blk_drew ?_ | refine blk_alloc ?_ _)); exact BK144.out) NB144_139.out (by simp))
                have n1_ := Aside0.mk (KeepBut.blk hk (g' := gb150) (o := .cells #[.int .u64 t140, .int .u64 t141, .int .u64 t142, .int .u64 t143] 34 (0, 0)) (by (with_reducible repeat (first | refine blk_drewN ?_ _ | refine blk_drew ?_ | refine blk_alloc ?_ _)); exact BK150.out) NB150_139.out (by simp))
                have n2_ := Aside0.mk (IsS47.keepG (by repeat (first | (with_reducible first | exact HI149.out | apply IsS47.alloc | apply IsS47.drewN | apply IsS47.drew | apply IsS47.set_0 | apply IsS47.set_1 | apply IsS47.set_2 | apply IsS47.set_3 | refine IsS47.far ?_ NB149_144.out _ | refine IsS47.far ?_ NB149_150.out _ | refine IsS47.far ?_ NB149_172.out _) | exact HI149.out)) hk NB149_139.out)
                have n3_ := Aside0.mk (KeepBut.blk hk (g' := gb172) (o := .cells #[.int .u64 0, .int .u64 0, .int .u64 0, .int .u64 0] 34 (0, 0)) (by (with_reducible repeat (first | refine blk_drewN ?_ _ | refine blk_drew ?_ | refine blk_alloc ?_ _)); exact BK172.out) NB172_139.out (by simp))
                have n4_ := Aside0.mk (hb)
                have n5_ := Aside0.mk (hi)
                clear BK144
                clear BK150
                clear HI149
                clear BK172
                clear HB
                clear HI139
                have BK144 := n0_
                have BK150 := n1_
                have HI149 := n2_
                have BK172 := n3_
                have HB := n4_
                have HI139 := n5_
                clear n0_ n1_ n2_ n3_ n4_ n5_
                (try clear hb)
                (try clear hb2)
                (try clear hk)
                (try clear hi)
                (try clear hge)
                refine hK.out _ _ ⟨(blk_cell BK144.out 0).trans rfl, (blk_cell BK144.out 1).trans rfl, (blk_cell BK144.out 2).trans rfl, (blk_cell BK144.out 3).trans rfl, ((HB.out.cell (World.block_lt_of_cell? w _ hw162_0)).trans hw162_0), ((HB.out.cell (World.block_lt_of_cell? w _ hw162_1)).trans hw162_1), ((HB.out.cell (World.block_lt_of_cell? w _ hw162_2)).trans hw162_2)⟩ (fun hHeld => ?_)
                clear hK K
                refine norm_ (a' := ?_) ?_ ?_
                rotate_left
                · show Act.put _ (some 47) _ = _
                  simp only [Act.put, List.setIfInBounds_toArray, List.set_cons_zero, List.set_cons_succ, i64_w, i32_w]
                  rfl
                refine pure_ (i := 7) (N := some 40) (v := ?_) (a' := ?_) #[true, true, true, true, true, true, true, true, false, false, true, false, false] rfl rfl (any_of HT_.out (by kernel_rfl)) (fun _ _ _ h => h) (Or.inl ⟨by rfl, ?_⟩) ?_ ?_
                rotate_left
                · intro w'
                  go_simp
                  with_reducible rfl
                rotate_left
                · simp only [Act.put, List.setIfInBounds_toArray, List.set_cons_zero, List.set_cons_succ, i64_w, i32_w]
                  rfl
                refine pure_ (i := 8) (N := some 48) (v := ?_) (a' := ?_) #[true, true, true, true, true, true, true, true, true, false, true, false, false] rfl rfl (any_of HT_.out (by kernel_rfl)) (fun _ _ _ h => h) (Or.inl ⟨by rfl, ?_⟩) ?_ ?_
                rotate_left
                · intro w'
                  go_simp
                  with_reducible rfl
                rotate_left
                · simp only [Act.put, List.setIfInBounds_toArray, List.set_cons_zero, List.set_cons_succ, i64_w, i32_w]
                  rfl
                refine pure_ (i := 9) (N := some 49) (v := ?_) (a' := ?_) #[true, true, true, true, true, true, true, true, true, true, true, false, false] rfl rfl (any_of HT_.out (by kernel_rfl)) (fun _ _ _ h => h) (Or.inl ⟨by rfl, ?_⟩) ?_ ?_
                rotate_left
                · intro w'
                  go_simp
                  with_reducible rfl
                rotate_left
                · simp only [Act.put, List.setIfInBounds_toArray, List.set_cons_zero, List.set_cons_succ, i64_w, i32_w]
                  rfl
                exact norm_ (by simp only [putAll, Act.put, List.setIfInBounds_toArray, List.set_cons_zero, List.set_cons_succ]) (hCont (gb172) _ ⟨hHeld, (by (with_reducible repeat (first | refine blk_drewN ?_ _ | refine blk_drew ?_ | refine blk_alloc ?_ _)); exact BK144.out), (by (with_reducible repeat (first | refine blk_drewN ?_ _ | refine blk_drew ?_ | refine blk_alloc ?_ _)); exact BK150.out), (by (with_reducible repeat (first | refine blk_drewN ?_ _ | refine blk_drew ?_ | refine blk_alloc ?_ _)); exact BK172.out), GW172.out, GE172.out, NB139_172.out, NB172_139.out, NB149_172.out, NB172_149.out, NB144_172.out, NB172_144.out, NB150_172.out, NB172_150.out, (by repeat (first | (with_reducible first | exact HI139.out | apply IsS47.alloc | apply IsS47.drewN | apply IsS47.drew | apply IsS47.set_0 | apply IsS47.set_1 | apply IsS47.set_2 | apply IsS47.set_3 | refine IsS47.far ?_ NB139_144.out _ | refine IsS47.far ?_ NB139_150.out _ | refine IsS47.far ?_ NB139_172.out _) | exact HI139.out)), (by repeat (first | (with_reducible first | exact HI149.out | apply IsS47.alloc | apply IsS47.drewN | apply IsS47.drew | apply IsS47.set_0 | apply IsS47.set_1 | apply IsS47.set_2 | apply IsS47.set_3 | refine IsS47.far ?_ NB149_144.out _ | refine IsS47.far ?_ NB149_150.out _ | refine IsS47.far ?_ NB149_172.out _) | exact HI149.out)), (by repeat (first | (with_reducible first | exact HB.out | apply below_alloc | apply pw_below_drewN | apply below_drew1 | refine below_set ?_ (IsS47.ge HI139.out) | refine below_set ?_ (IsS47.ge HI149.out) | refine below_set ?_ GE144.out | refine below_set ?_ GE150.out | refine below_set ?_ GE172.out) | exact HB.out))⟩)
            rintro gb172 w32 ⟨hS_, h0_, h1_, h2_, h3_, h4_, h5_, h6_, h7_, h8_, h9_, h10_, h11_, h12_, h13_, h14_, h15_⟩
            have n0_ : Aside0 (w32.heap[gb144]? = some (.cells #[.int .u64 x145000_1, .int .u64 x145001_1, .int .u64 x145002_1, .int .u64 x145003_1] 34 (0, 0))) := ⟨h0_⟩
            have n1_ : Aside0 (w32.heap[gb150]? = some (.cells #[.int .u64 t140, .int .u64 t141, .int .u64 t142, .int .u64 t143] 34 (0, 0))) := ⟨h1_⟩
            have n2_ : Aside0 (w32.heap[gb172]? = some (.cells #[.int .u64 0, .int .u64 0, .int .u64 0, .int .u64 0] 34 (0, 0))) := ⟨h2_⟩
            have n3_ : Aside0 (w.heap.size ≤ gb172) := ⟨h3_⟩
            have n4_ : Aside0 (w.heap.size ≤ gb172) := ⟨h4_⟩
            have n5_ : Aside0 (g139 ≠ gb172) := ⟨h5_⟩
            have n6_ : Aside0 (gb172 ≠ g139) := ⟨h6_⟩
            have n7_ : Aside0 (g149 ≠ gb172) := ⟨h7_⟩
            have n8_ : Aside0 (gb172 ≠ g149) := ⟨h8_⟩
            have n9_ : Aside0 (gb144 ≠ gb172) := ⟨h9_⟩
            have n10_ : Aside0 (gb172 ≠ gb144) := ⟨h10_⟩
            have n11_ : Aside0 (gb150 ≠ gb172) := ⟨h11_⟩
            have n12_ : Aside0 (gb172 ≠ gb150) := ⟨h12_⟩
            have n13_ : Aside0 (IsS47 w w32 g139 t168 t169 t170 t171) := ⟨h13_⟩
            have n14_ : Aside0 (IsS47 w w32 g149 x150000_1 x150001_1 x150002_1 x150003_1) := ⟨h14_⟩
            have n15_ : Aside0 (Below w.heap.size w w32) := ⟨h15_⟩
            clear BK144
            clear BK150
            clear HI139
            clear HI149
            clear HB
            clear h0_ h1_ h2_ h3_ h4_ h5_ h6_ h7_ h8_ h9_ h10_ h11_ h12_ h13_ h14_ h15_
            have BK144 := n0_
            have BK150 := n1_
            have BK172 := n2_
            have GW172 := n3_
            have GE172 := n4_
            have NB139_172 := n5_
            have NB172_139 := n6_
            have NB149_172 := n7_
            have NB172_149 := n8_
            have NB144_172 := n9_
            have NB172_144 := n10_
            have NB150_172 := n11_
            have NB172_150 := n12_
            have HI139 := n13_
            have HI149 := n14_
            have HB := n15_
            clear n0_ n1_ n2_ n3_ n4_ n5_ n6_ n7_ n8_ n9_ n10_ n11_ n12_ n13_ n14_ n15_
            have hHeld : w32.cell? ⟨gb144, 0, none⟩ = some (.int .u64 x145000_1) ∧ w32.cell? ⟨gb144, 1, none⟩ = some (.int .u64 x145001_1) ∧ w32.cell? ⟨gb144, 2, none⟩ = some (.int .u64 x145002_1) ∧ w32.cell? ⟨gb144, 3, none⟩ = some (.int .u64 x145003_1) ∧ w32.cell? (ad162.add ((x13_1).toNat * 3)) = some (.int .i64 ((rd_T40 l3 x13_1).f0)) ∧ w32.cell? ⟨(ad162.add ((x13_1).toNat * 3)).block, (ad162.add ((x13_1).toNat * 3)).off + 1, none⟩ = some (.int .u64 ((rd_T40 l3 x13_1).f1)) ∧ w32.cell? ⟨(ad162.add ((x13_1).toNat * 3)).block, (ad162.add ((x13_1).toNat * 3)).off + 2, none⟩ = some (.int .u64 ((rd_T40 l3 x13_1).f2)) := hS_
            refine norm_ (a' := ?_) ?_ ?_
            rotate_left
            · simp only [putAll, Act.put, List.setIfInBounds_toArray, List.set_cons_zero, List.set_cons_succ]
              rfl
            refine one_ (i := 11) (N := none) #[true, true, true, true, true, true, true, true, true, true, true, true, false] rfl rfl (one_of HT_.out (by kernel_rfl)) (by decide) (fun K hK => ?_)
            have hs33 : w32.cell? ⟨gb172, 0, none⟩ = some (.int .u64 0) := (blk_cell BK172.out 0).trans rfl
            have hfs33 := blk_frozen BK172.out 0
            have hns33_0 := NB144_172.out
            have hns33_1 := NB150_172.out
            have hms33_0 := NB172_144.out
            have hms33_1 := NB172_150.out
            have hs34 : w32.cell? ⟨gb172, 1, none⟩ = some (.int .u64 0) := (blk_cell BK172.out 1).trans rfl
            have hfs34 := blk_frozen BK172.out 1
            have hns34_0 := NB144_172.out
            have hns34_1 := NB150_172.out
            have hms34_0 := NB172_144.out
            have hms34_1 := NB172_150.out
            have hs35 : w32.cell? ⟨gb172, 2, none⟩ = some (.int .u64 0) := (blk_cell BK172.out 2).trans rfl
            have hfs35 := blk_frozen BK172.out 2
            have hns35_0 := NB144_172.out
            have hns35_1 := NB150_172.out
            have hms35_0 := NB172_144.out
            have hms35_1 := NB172_150.out
            have hs36 : w32.cell? ⟨gb172, 3, none⟩ = some (.int .u64 0) := (blk_cell BK172.out 3).trans rfl
            have hfs36 := blk_frozen BK172.out 3
            have hns36_0 := NB144_172.out
            have hns36_1 := NB150_172.out
            have hms36_0 := NB172_144.out
            have hms36_1 := NB172_150.out
            refine skip_ (w1 := ?_) (by rfl) rfl ?_ ?_
            rotate_left
            · go_simp
              rfl
            refine hK.out _ _ ⟨((cell_far (p := ⟨gb172, _, none⟩) NB144_172.out _).trans (((cell_far (p := ⟨gb172, _, none⟩) NB144_172.out _).trans (((cell_far (p := ⟨gb172, _, none⟩) NB144_172.out _).trans (((cell_far (p := ⟨gb172, _, none⟩) NB144_172.out _).trans (hHeld.1)))))))), ((cell_far (p := ⟨gb172, _, none⟩) NB144_172.out _).trans (((cell_far (p := ⟨gb172, _, none⟩) NB144_172.out _).trans (((cell_far (p := ⟨gb172, _, none⟩) NB144_172.out _).trans (((cell_far (p := ⟨gb172, _, none⟩) NB144_172.out _).trans (hHeld.2.1)))))))), ((cell_far (p := ⟨gb172, _, none⟩) NB144_172.out _).trans (((cell_far (p := ⟨gb172, _, none⟩) NB144_172.out _).trans (((cell_far (p := ⟨gb172, _, none⟩) NB144_172.out _).trans (((cell_far (p := ⟨gb172, _, none⟩) NB144_172.out _).trans (hHeld.2.2.1)))))))), ((cell_far (p := ⟨gb172, _, none⟩) NB144_172.out _).trans (((cell_far (p := ⟨gb172, _, none⟩) NB144_172.out _).trans (((cell_far (p := ⟨gb172, _, none⟩) NB144_172.out _).trans (((cell_far (p := ⟨gb172, _, none⟩) NB144_172.out _).trans (hHeld.2.2.2.1)))))))), ((cell_far (p := ⟨gb172, _, none⟩) (by first | exact Nat.ne_of_lt (Nat.lt_of_lt_of_le (by have := World.block_lt_of_cell? _ _ hw162_0; first | rwa [add_block] at this | exact this) GW172.out) | (rw [add_block]; exact Nat.ne_of_lt (Nat.lt_of_lt_of_le (by have := World.block_lt_of_cell? _ _ hw162_0; first | rwa [add_block] at this | exact this) GW172.out)) | (show (Addr.add _ _).block ≠ _; rw [add_block]; exact Nat.ne_of_lt (Nat.lt_of_lt_of_le (by have := World.block_lt_of_cell? _ _ hw162_0; first | rwa [add_block] at this | exact this) GW172.out)) | (dsimp only; exact Nat.ne_of_lt (Nat.lt_of_lt_of_le (by have := World.block_lt_of_cell? _ _ hw162_0; first | rwa [add_block] at this | exact this) GW172.out))) _).trans (((cell_far (p := ⟨gb172, _, none⟩) (by first | exact Nat.ne_of_lt (Nat.lt_of_lt_of_le (by have := World.block_lt_of_cell? _ _ hw162_0; first | rwa [add_block] at this | exact this) GW172.out) | (rw [add_block]; exact Nat.ne_of_lt (Nat.lt_of_lt_of_le (by have := World.block_lt_of_cell? _ _ hw162_0; first | rwa [add_block] at this | exact this) GW172.out)) | (show (Addr.add _ _).block ≠ _; rw [add_block]; exact Nat.ne_of_lt (Nat.lt_of_lt_of_le (by have := World.block_lt_of_cell? _ _ hw162_0; first | rwa [add_block] at this | exact this) GW172.out)) | (dsimp only; exact Nat.ne_of_lt (Nat.lt_of_lt_of_le (by have := World.block_lt_of_cell? _ _ hw162_0; first | rwa [add_block] at this | exact this) GW172.out))) _).trans (((cell_far (p := ⟨gb172, _, none⟩) (by first | exact Nat.ne_of_lt (Nat.lt_of_lt_of_le (by have := World.block_lt_of_cell? _ _ hw162_0; first | rwa [add_block] at this | exact this) GW172.out) | (rw [add_block]; exact Nat.ne_of_lt (Nat.lt_of_lt_of_le (by have := World.block_lt_of_cell? _ _ hw162_0; first | rwa [add_block] at this | exact this) GW172.out)) | (show (Addr.add _ _).block ≠ _; rw [add_block]; exact Nat.ne_of_lt (Nat.lt_of_lt_of_le (by have := World.block_lt_of_cell? _ _ hw162_0; first | rwa [add_block] at this | exact this) GW172.out)) | (dsimp only; exact Nat.ne_of_lt (Nat.lt_of_lt_of_le (by have := World.block_lt_of_cell? _ _ hw162_0; first | rwa [add_block] at this | exact this) GW172.out))) _).trans (((cell_far (p := ⟨gb172, _, none⟩) (by first | exact Nat.ne_of_lt (Nat.lt_of_lt_of_le (by have := World.block_lt_of_cell? _ _ hw162_0; first | rwa [add_block] at this | exact this) GW172.out) | (rw [add_block]; exact Nat.ne_of_lt (Nat.lt_of_lt_of_le (by have := World.block_lt_of_cell? _ _ hw162_0; first | rwa [add_block] at this | exact this) GW172.out)) | (show (Addr.add _ _).block ≠ _; rw [add_block]; exact Nat.ne_of_lt (Nat.lt_of_lt_of_le (by have := World.block_lt_of_cell? _ _ hw162_0; first | rwa [add_block] at this | exact this) GW172.out)) | (dsimp only; exact Nat.ne_of_lt (Nat.lt_of_lt_of_le (by have := World.block_lt_of_cell? _ _ hw162_0; first | rwa [add_block] at this | exact this) GW172.out))) _).trans (hHeld.2.2.2.2.1)))))))), ((cell_far (p := ⟨gb172, _, none⟩) (by first | exact Nat.ne_of_lt (Nat.lt_of_lt_of_le (by have := World.block_lt_of_cell? _ _ hw162_1; first | rwa [add_block] at this | exact this) GW172.out) | (rw [add_block]; exact Nat.ne_of_lt (Nat.lt_of_lt_of_le (by have := World.block_lt_of_cell? _ _ hw162_1; first | rwa [add_block] at this | exact this) GW172.out)) | (show (Addr.add _ _).block ≠ _; rw [add_block]; exact Nat.ne_of_lt (Nat.lt_of_lt_of_le (by have := World.block_lt_of_cell? _ _ hw162_1; first | rwa [add_block] at this | exact this) GW172.out)) | (dsimp only; exact Nat.ne_of_lt (Nat.lt_of_lt_of_le (by have := World.block_lt_of_cell? _ _ hw162_1; first | rwa [add_block] at this | exact this) GW172.out))) _).trans (((cell_far (p := ⟨gb172, _, none⟩) (by first | exact Nat.ne_of_lt (Nat.lt_of_lt_of_le (by have := World.block_lt_of_cell? _ _ hw162_1; first | rwa [add_block] at this | exact this) GW172.out) | (rw [add_block]; exact Nat.ne_of_lt (Nat.lt_of_lt_of_le (by have := World.block_lt_of_cell? _ _ hw162_1; first | rwa [add_block] at this | exact this) GW172.out)) | (show (Addr.add _ _).block ≠ _; rw [add_block]; exact Nat.ne_of_lt (Nat.lt_of_lt_of_le (by have := World.block_lt_of_cell? _ _ hw162_1; first | rwa [add_block] at this | exact this) GW172.out)) | (dsimp only; exact Nat.ne_of_lt (Nat.lt_of_lt_of_le (by have := World.block_lt_of_cell? _ _ hw162_1; first | rwa [add_block] at this | exact this) GW172.out))) _).trans (((cell_far (p := ⟨gb172, _, none⟩) (by first | exact Nat.ne_of_lt (Nat.lt_of_lt_of_le (by have := World.block_lt_of_cell? _ _ hw162_1; first | rwa [add_block] at this | exact this) GW172.out) | (rw [add_block]; exact Nat.ne_of_lt (Nat.lt_of_lt_of_le (by have := World.block_lt_of_cell? _ _ hw162_1; first | rwa [add_block] at this | exact this) GW172.out)) | (show (Addr.add _ _).block ≠ _; rw [add_block]; exact Nat.ne_of_lt (Nat.lt_of_lt_of_le (by have := World.block_lt_of_cell? _ _ hw162_1; first | rwa [add_block] at this | exact this) GW172.out)) | (dsimp only; exact Nat.ne_of_lt (Nat.lt_of_lt_of_le (by have := World.block_lt_of_cell? _ _ hw162_1; first | rwa [add_block] at this | exact this) GW172.out))) _).trans (((cell_far (p := ⟨gb172, _, none⟩) (by first | exact Nat.ne_of_lt (Nat.lt_of_lt_of_le (by have := World.block_lt_of_cell? _ _ hw162_1; first | rwa [add_block] at this | exact this) GW172.out) | (rw [add_block]; exact Nat.ne_of_lt (Nat.lt_of_lt_of_le (by have := World.block_lt_of_cell? _ _ hw162_1; first | rwa [add_block] at this | exact this) GW172.out)) | (show (Addr.add _ _).block ≠ _; rw [add_block]; exact Nat.ne_of_lt (Nat.lt_of_lt_of_le (by have := World.block_lt_of_cell? _ _ hw162_1; first | rwa [add_block] at this | exact this) GW172.out)) | (dsimp only; exact Nat.ne_of_lt (Nat.lt_of_lt_of_le (by have := World.block_lt_of_cell? _ _ hw162_1; first | rwa [add_block] at this | exact this) GW172.out))) _).trans (hHeld.2.2.2.2.2.1)))))))), ((cell_far (p := ⟨gb172, _, none⟩) (by first | exact Nat.ne_of_lt (Nat.lt_of_lt_of_le (by have := World.block_lt_of_cell? _ _ hw162_2; first | rwa [add_block] at this | exact this) GW172.out) | (rw [add_block]; exact Nat.ne_of_lt (Nat.lt_of_lt_of_le (by have := World.block_lt_of_cell? _ _ hw162_2; first | rwa [add_block] at this | exact this) GW172.out)) | (show (Addr.add _ _).block ≠ _; rw [add_block]; exact Nat.ne_of_lt (Nat.lt_of_lt_of_le (by have := World.block_lt_of_cell? _ _ hw162_2; first | rwa [add_block] at this | exact this) GW172.out)) | (dsimp only; exact Nat.ne_of_lt (Nat.lt_of_lt_of_le (by have := World.block_lt_of_cell? _ _ hw162_2; first | rwa [add_block] at this | exact this) GW172.out))) _).trans (((cell_far (p := ⟨gb172, _, none⟩) (by first | exact Nat.ne_of_lt (Nat.lt_of_lt_of_le (by have := World.block_lt_of_cell? _ _ hw162_2; first | rwa [add_block] at this | exact this) GW172.out) | (rw [add_block]; exact Nat.ne_of_lt (Nat.lt_of_lt_of_le (by have := World.block_lt_of_cell? _ _ hw162_2; first | rwa [add_block] at this | exact this) GW172.out)) | (show (Addr.add _ _).block ≠ _; rw [add_block]; exact Nat.ne_of_lt (Nat.lt_of_lt_of_le (by have := World.block_lt_of_cell? _ _ hw162_2; first | rwa [add_block] at this | exact this) GW172.out)) | (dsimp only; exact Nat.ne_of_lt (Nat.lt_of_lt_of_le (by have := World.block_lt_of_cell? _ _ hw162_2; first | rwa [add_block] at this | exact this) GW172.out))) _).trans (((cell_far (p := ⟨gb172, _, none⟩) (by first | exact Nat.ne_of_lt (Nat.lt_of_lt_of_le (by have := World.block_lt_of_cell? _ _ hw162_2; first | rwa [add_block] at this | exact this) GW172.out) | (rw [add_block]; exact Nat.ne_of_lt (Nat.lt_of_lt_of_le (by have := World.block_lt_of_cell? _ _ hw162_2; first | rwa [add_block] at this | exact this) GW172.out)) | (show (Addr.add _ _).block ≠ _; rw [add_block]; exact Nat.ne_of_lt (Nat.lt_of_lt_of_le (by have := World.block_lt_of_cell? _ _ hw162_2; first | rwa [add_block] at this | exact this) GW172.out)) | (dsimp only; exact Nat.ne_of_lt (Nat.lt_of_lt_of_le (by have := World.block_lt_of_cell? _ _ hw162_2; first | rwa [add_block] at this | exact this) GW172.out))) _).trans (((cell_far (p := ⟨gb172, _, none⟩) (by first | exact Nat.ne_of_lt (Nat.lt_of_lt_of_le (by have := World.block_lt_of_cell? _ _ hw162_2; first | rwa [add_block] at this | exact this) GW172.out) | (rw [add_block]; exact Nat.ne_of_lt (Nat.lt_of_lt_of_le (by have := World.block_lt_of_cell? _ _ hw162_2; first | rwa [add_block] at this | exact this) GW172.out)) | (show (Addr.add _ _).block ≠ _; rw [add_block]; exact Nat.ne_of_lt (Nat.lt_of_lt_of_le (by have := World.block_lt_of_cell? _ _ hw162_2; first | rwa [add_block] at this | exact this) GW172.out)) | (dsimp only; exact Nat.ne_of_lt (Nat.lt_of_lt_of_le (by have := World.block_lt_of_cell? _ _ hw162_2; first | rwa [add_block] at this | exact this) GW172.out))) _).trans (hHeld.2.2.2.2.2.2))))))))⟩ (fun hHeld => ?_)
            clear hK K
            refine pure_ (i := 12) (N := some 15) (v := ?_) (a' := ?_) #[true, true, true, true, true, true, true, true, true, true, true, true, true] rfl rfl (any_of HT_.out (by kernel_rfl)) (fun _ _ _ h => h) (Or.inl ⟨by rfl, ?_⟩) ?_ ?_
            rotate_left
            · intro w'
              go_simp
              with_reducible rfl
            rotate_left
            · simp only [Act.put, List.setIfInBounds_toArray, List.set_cons_zero, List.set_cons_succ, i64_w, i32_w]
              rfl
            refine done_ (done_of HT_.out (by kernel_rfl)) ?_
            have hnb37 := NB172_144.out
            have hnc37 := NB144_172.out
            have hnb38 := NB172_150.out
            have hnc38 := NB150_172.out
            have hnb39 := NB172_139.out
            have hnc39 := NB139_172.out
            have hnb40 := NB172_149.out
            have hnc40 := NB149_172.out
            have hcz41_0 : w32.cell? ⟨gb172, 0, none⟩ = some (.int .u64 0) := (blk_cell BK172.out 0).trans rfl
            have hcz41_1 : w32.cell? ⟨gb172, 1, none⟩ = some (.int .u64 0) := (blk_cell BK172.out 1).trans rfl
            have hcz41_2 : w32.cell? ⟨gb172, 2, none⟩ = some (.int .u64 0) := (blk_cell BK172.out 2).trans rfl
            have hcz41_3 : w32.cell? ⟨gb172, 3, none⟩ = some (.int .u64 0) := (blk_cell BK172.out 3).trans rfl
            have hfz41_0 := blk_frozen BK172.out 0
            have hfz41_1 := blk_frozen BK172.out 1
            have hfz41_2 := blk_frozen BK172.out 2
            have hfz41_3 := blk_frozen BK172.out 3
            have hnb42 := NB144_150.out
            have hnc42 := NB150_144.out
            have hnb43 := NB144_139.out
            have hnc43 := NB139_144.out
            have hnb44 := NB144_149.out
            have hnc44 := NB149_144.out
            have hcz45_0 : w32.cell? ⟨gb144, 0, none⟩ = some (.int .u64 x145000_1) := (blk_cell BK144.out 0).trans rfl
            have hcz45_1 : w32.cell? ⟨gb144, 1, none⟩ = some (.int .u64 x145001_1) := (blk_cell BK144.out 1).trans rfl
            have hcz45_2 : w32.cell? ⟨gb144, 2, none⟩ = some (.int .u64 x145002_1) := (blk_cell BK144.out 2).trans rfl
            have hcz45_3 : w32.cell? ⟨gb144, 3, none⟩ = some (.int .u64 x145003_1) := (blk_cell BK144.out 3).trans rfl
            have hfz45_0 := blk_frozen BK144.out 0
            have hfz45_1 := blk_frozen BK144.out 1
            have hfz45_2 := blk_frozen BK144.out 2
            have hfz45_3 := blk_frozen BK144.out 3
            go_upto_region 13 with (first | ((with_reducible refine gate_callee (f := 13) rfl ?_); refine goesL_ (some 52) rfl rfl Try.func13 (by kernel_rfl) rfl #[.pointer (some ⟨g139, 0, none⟩)] rfl (by (try simp only [List.map_toArray, List.map_cons, List.map_nil]); first | done | rfl | (simp only [List.length_drop, List.length_take]; rfl)) ?_; (with_reducible refine (bucket_Bucket_Copy.calls g139 t168 t169 t170 t171 t173 t174 t175 t176 w _ ?side1 ?side2 A27.out).mono ?_); (case side1 => repeat (first | (with_reducible first | exact HI139.out | apply IsS47.alloc | apply IsS47.drewN | apply IsS47.drew | apply IsS47.set_0 | apply IsS47.set_1 | apply IsS47.set_2 | apply IsS47.set_3 | refine IsS47.far ?_ NB139_144.out _ | refine IsS47.far ?_ NB139_150.out _ | refine IsS47.far ?_ NB139_172.out _) | exact HI139.out)); (case side2 => repeat (first | (with_reducible first | exact HB.out | apply below_alloc | apply pw_below_drewN | apply below_drew1 | refine below_set ?_ (IsS47.ge HI139.out) | refine below_set ?_ (IsS47.ge HI149.out) | refine below_set ?_ GE144.out | refine below_set ?_ GE150.out | refine below_set ?_ GE172.out) | exact HB.out)); rintro e w46 ⟨g177, rfl, hi, hb, hb2, hge⟩; refine ⟨_, rfl, ?_⟩; have n0_ := Aside0.mk (blk_below (g := gb144) (o := .cells #[.int .u64 t163, .int .u64 t164, .int .u64 t165, .int .u64 t166] 34 (0, 0)) (by (with_reducible repeat (first | refine blk_drewN ?_ _ | refine blk_drew ?_ | refine blk_alloc ?_ _)); refine blk_put (cs := #[.int .u64 t163, .int .u64 t164, .int .u64 t165, .int .u64 x145003_1]) ?_ 3 _ rfl; (with_reducible repeat (first | refine blk_drewN ?_ _ | refine blk_drew ?_ | refine blk_alloc ?_ _)); refine blk_put (cs := #[.int .u64 t163, .int .u64 t164, .int .u64 x145002_1, .int .u64 x145003_1]) ?_ 2 _ rfl; (with_reducible repeat (first | refine blk_drewN ?_ _ | refine blk_drew ?_ | refine blk_alloc ?_ _)); refine blk_put (cs := #[.int .u64 t163, .int .u64 x145001_1, .int .u64 x145002_1, .int .u64 x145003_1]) ?_ 1 _ rfl; (with_reducible repeat (first | refine blk_drewN ?_ _ | refine blk_drew ?_ | refine blk_alloc ?_ _)); refine blk_put (cs := #[.int .u64 x145000_1, .int .u64 x145001_1, .int .u64 x145002_1, .int .u64 x145003_1]) ?_ 0 _ rfl; (with_reducible repeat (first | refine blk_drewN ?_ _ | refine blk_drew ?_ | refine blk_alloc ?_ _)); refine blk_far ?_ NB144_172.out _; (with_reducible repeat (first | refine blk_drewN ?_ _ | refine blk_drew ?_ | refine blk_alloc ?_ _)); refine blk_far ?_ NB144_172.out _; (with_reducible repeat (first | refine blk_drewN ?_ _ | refine blk_drew ?_ | refine blk_alloc ?_ _)); refine blk_far ?_ NB144_172.out _; (with_reducible repeat (first | refine blk_drewN ?_ _ | refine blk_drew ?_ | refine blk_alloc ?_ _)); refine blk_far ?_ NB144_172.out _; (with_reducible repeat (first | refine blk_drewN ?_ _ | refine blk_drew ?_ | refine blk_alloc ?_ _)); exact BK144.out) hb2); have n1_ := Aside0.mk (blk_below (g := gb150) (o := .cells #[.int .u64 t140, .int .u64 t141, .int .u64 t142, .int .u64 t143] 34 (0, 0)) (by (with_reducible repeat (first | refine blk_drewN ?_ _ | refine blk_drew ?_ | refine blk_alloc ?_ _)); refine blk_far ?_ NB150_144.out _; (with_reducible repeat (first | refine blk_drewN ?_ _ | refine blk_drew ?_ | refine blk_alloc ?_ _)); refine blk_far ?_ NB150_144.out _; (with_reducible repeat (first | refine blk_drewN ?_ _ | refine blk_drew ?_ | refine blk_alloc ?_ _)); refine blk_far ?_ NB150_144.out _; (with_reducible repeat (first | refine blk_drewN ?_ _ | refine blk_drew ?_ | refine blk_alloc ?_ _)); refine blk_far ?_ NB150_144.out _; (with_reducible repeat (first | refine blk_drewN ?_ _ | refine blk_drew ?_ | refine blk_alloc ?_ _)); refine blk_far ?_ NB150_172.out _; (with_reducible repeat (first | refine blk_drewN ?_ _ | refine blk_drew ?_ | refine blk_alloc ?_ _)); refine blk_far ?_ NB150_172.out _; (with_reducible repeat (first | refine blk_drewN ?_ _ | refine blk_drew ?_ | refine blk_alloc ?_ _)); refine blk_far ?_ NB150_172.out _; (with_reducible repeat (first | refine blk_drewN ?_ _ | refine blk_drew ?_ | refine blk_alloc ?_ _)); refine blk_far ?_ NB150_172.out _; (with_reducible repeat (first | refine blk_drewN ?_ _ | refine blk_drew ?_ | refine blk_alloc ?_ _)); exact BK150.out) hb2); have n2_ := Aside0.mk (IsS47.below (show IsS47 w ((((((((w32.setCell ⟨gb172, 0, none⟩ (.int .u64 t163)).setCell ⟨gb172, 1, none⟩ (.int .u64 t164)).setCell ⟨gb172, 2, none⟩ (.int .u64 t165)).setCell ⟨gb172, 3, none⟩ (.int .u64 t166)).setCell ⟨gb144, 0, none⟩ (.int .u64 t163)).setCell ⟨gb144, 1, none⟩ (.int .u64 t164)).setCell ⟨gb144, 2, none⟩ (.int .u64 t165)).setCell ⟨gb144, 3, none⟩ (.int .u64 t166)) g139 t168 t169 t170 t171 from by repeat (first | (with_reducible first | exact HI139.out | apply IsS47.alloc | apply IsS47.drewN | apply IsS47.drew | apply IsS47.set_0 | apply IsS47.set_1 | apply IsS47.set_2 | apply IsS47.set_3 | refine IsS47.far ?_ NB139_144.out _ | refine IsS47.far ?_ NB139_150.out _ | refine IsS47.far ?_ NB139_172.out _) | exact HI139.out)) hb2); have n3_ := Aside0.mk (IsS47.below (show IsS47 w ((((((((w32.setCell ⟨gb172, 0, none⟩ (.int .u64 t163)).setCell ⟨gb172, 1, none⟩ (.int .u64 t164)).setCell ⟨gb172, 2, none⟩ (.int .u64 t165)).setCell ⟨gb172, 3, none⟩ (.int .u64 t166)).setCell ⟨gb144, 0, none⟩ (.int .u64 t163)).setCell ⟨gb144, 1, none⟩ (.int .u64 t164)).setCell ⟨gb144, 2, none⟩ (.int .u64 t165)).setCell ⟨gb144, 3, none⟩ (.int .u64 t166)) g149 x150000_1 x150001_1 x150002_1 x150003_1 from by repeat (first | (with_reducible first | exact HI149.out | apply IsS47.alloc | apply IsS47.drewN | apply IsS47.drew | apply IsS47.set_0 | apply IsS47.set_1 | apply IsS47.set_2 | apply IsS47.set_3 | refine IsS47.far ?_ NB149_144.out _ | refine IsS47.far ?_ NB149_150.out _ | refine IsS47.far ?_ NB149_172.out _) | exact HI149.out)) hb2); have n4_ := Aside0.mk (blk_below (g := gb172) (o := .cells #[.int .u64 t163, .int .u64 t164, .int .u64 t165, .int .u64 t166] 34 (0, 0)) (by (with_reducible repeat (first | refine blk_drewN ?_ _ | refine blk_drew ?_ | refine blk_alloc ?_ _)); refine blk_far ?_ NB172_144.out _; (with_reducible repeat (first | refine blk_drewN ?_ _ | refine blk_drew ?_ | refine blk_alloc ?_ _)); refine blk_far ?_ NB172_144.out _; (with_reducible repeat (first | refine blk_drewN ?_ _ | refine blk_drew ?_ | refine blk_alloc ?_ _)); refine blk_far ?_ NB172_144.out _; (with_reducible repeat (first | refine blk_drewN ?_ _ | refine blk_drew ?_ | refine blk_alloc ?_ _)); refine blk_far ?_ NB172_144.out _; (with_reducible repeat (first | refine blk_drewN ?_ _ | refine blk_drew ?_ | refine blk_alloc ?_ _)); refine blk_put (cs := #[.int .u64 t163, .int .u64 t164, .int .u64 t165, .int .u64 0]) ?_ 3 _ rfl; (with_reducible repeat (first | refine blk_drewN ?_ _ | refine blk_drew ?_ | refine blk_alloc ?_ _)); refine blk_put (cs := #[.int .u64 t163, .int .u64 t164, .int .u64 0, .int .u64 0]) ?_ 2 _ rfl; (with_reducible repeat (first | refine blk_drewN ?_ _ | refine blk_drew ?_ | refine blk_alloc ?_ _)); refine blk_put (cs := #[.int .u64 t163, .int .u64 0, .int .u64 0, .int .u64 0]) ?_ 1 _ rfl; (with_reducible repeat (first | refine blk_drewN ?_ _ | refine blk_drew ?_ | refine blk_alloc ?_ _)); refine blk_put (cs := #[.int .u64 0, .int .u64 0, .int .u64 0, .int .u64 0]) ?_ 0 _ rfl; (with_reducible repeat (first | refine blk_drewN ?_ _ | refine blk_drew ?_ | refine blk_alloc ?_ _)); exact BK172.out) hb2); have n5_ := Aside0.mk (hb); have n6_ := Aside0.mk (hi); have n7_ := Aside0.mk ((Nat.ne_of_lt (Nat.lt_of_lt_of_le (IsS47.lt (show IsS47 w _ g139 t168 t169 t170 t171 from by repeat (first | (with_reducible first | exact HI139.out | apply IsS47.alloc | apply IsS47.drewN | apply IsS47.drew | apply IsS47.set_0 | apply IsS47.set_1 | apply IsS47.set_2 | apply IsS47.set_3 | refine IsS47.far ?_ NB139_144.out _ | refine IsS47.far ?_ NB139_150.out _ | refine IsS47.far ?_ NB139_172.out _) | exact HI139.out))) hge) : g139 ≠ g177)); have n8_ := Aside0.mk ((Nat.ne_of_gt (Nat.lt_of_lt_of_le (IsS47.lt (show IsS47 w _ g139 t168 t169 t170 t171 from by repeat (first | (with_reducible first | exact HI139.out | apply IsS47.alloc | apply IsS47.drewN | apply IsS47.drew | apply IsS47.set_0 | apply IsS47.set_1 | apply IsS47.set_2 | apply IsS47.set_3 | refine IsS47.far ?_ NB139_144.out _ | refine IsS47.far ?_ NB139_150.out _ | refine IsS47.far ?_ NB139_172.out _) | exact HI139.out))) hge) : g177 ≠ g139)); have n9_ := Aside0.mk ((Nat.ne_of_lt (Nat.lt_of_lt_of_le (IsS47.lt (show IsS47 w _ g149 x150000_1 x150001_1 x150002_1 x150003_1 from by repeat (first | (with_reducible first | exact HI149.out | apply IsS47.alloc | apply IsS47.drewN | apply IsS47.drew | apply IsS47.set_0 | apply IsS47.set_1 | apply IsS47.set_2 | apply IsS47.set_3 | refine IsS47.far ?_ NB149_144.out _ | refine IsS47.far ?_ NB149_150.out _ | refine IsS47.far ?_ NB149_172.out _) | exact HI149.out))) hge) : g149 ≠ g177)); have n10_ := Aside0.mk ((Nat.ne_of_gt (Nat.lt_of_lt_of_le (IsS47.lt (show IsS47 w _ g149 x150000_1 x150001_1 x150002_1 x150003_1 from by repeat (first | (with_reducible first | exact HI149.out | apply IsS47.alloc | apply IsS47.drewN | apply IsS47.drew | apply IsS47.set_0 | apply IsS47.set_1 | apply IsS47.set_2 | apply IsS47.set_3 | refine IsS47.far ?_ NB149_144.out _ | refine IsS47.far ?_ NB149_150.out _ | refine IsS47.far ?_ NB149_172.out _) | exact HI149.out))) hge) : g177 ≠ g149)); have n11_ := Aside0.mk (IsS47.ne_blk hi (blk_below (g := gb144) (o := .cells #[.int .u64 t163, .int .u64 t164, .int .u64 t165, .int .u64 t166] 34 (0, 0)) (by (with_reducible repeat (first | refine blk_drewN ?_ _ | refine blk_drew ?_ | refine blk_alloc ?_ _)); refine blk_put (cs := #[.int .u64 t163, .int .u64 t164, .int .u64 t165, .int .u64 x145003_1]) ?_ 3 _ rfl; (with_reducible repeat (first | refine blk_drewN ?_ _ | refine blk_drew ?_ | refine blk_alloc ?_ _)); refine blk_put (cs := #[.int .u64 t163, .int .u64 t164, .int .u64 x145002_1, .int .u64 x145003_1]) ?_ 2 _ rfl; (with_reducible repeat (first | refine blk_drewN ?_ _ | refine blk_drew ?_ | refine blk_alloc ?_ _)); refine blk_put (cs := #[.int .u64 t163, .int .u64 x145001_1, .int .u64 x145002_1, .int .u64 x145003_1]) ?_ 1 _ rfl; (with_reducible repeat (first | refine blk_drewN ?_ _ | refine blk_drew ?_ | refine blk_alloc ?_ _)); refine blk_put (cs := #[.int .u64 x145000_1, .int .u64 x145001_1, .int .u64 x145002_1, .int .u64 x145003_1]) ?_ 0 _ rfl; (with_reducible repeat (first | refine blk_drewN ?_ _ | refine blk_drew ?_ | refine blk_alloc ?_ _)); refine blk_far ?_ NB144_172.out _; (with_reducible repeat (first | refine blk_drewN ?_ _ | refine blk_drew ?_ | refine blk_alloc ?_ _)); refine blk_far ?_ NB144_172.out _; (with_reducible repeat (first | refine blk_drewN ?_ _ | refine blk_drew ?_ | refine blk_alloc ?_ _)); refine blk_far ?_ NB144_172.out _; (with_reducible repeat (first | refine blk_drewN ?_ _ | refine blk_drew ?_ | refine blk_alloc ?_ _)); refine blk_far ?_ NB144_172.out _; (with_reducible repeat (first | refine blk_drewN ?_ _ | refine blk_drew ?_ | refine blk_alloc ?_ _)); exact BK144.out) hb2) (by decide)); have n12_ := Aside0.mk (Ne.symm (IsS47.ne_blk hi (blk_below (g := gb144) (o := .cells #[.int .u64 t163, .int .u64 t164, .int .u64 t165, .int .u64 t166] 34 (0, 0)) (by (with_reducible repeat (first | refine blk_drewN ?_ _ | refine blk_drew ?_ | refine blk_alloc ?_ _)); refine blk_put (cs := #[.int .u64 t163, .int .u64 t164, .int .u64 t165, .int .u64 x145003_1]) ?_ 3 _ rfl; (with_reducible repeat (first | refine blk_drewN ?_ _ | refine blk_drew ?_ | refine blk_alloc ?_ _)); refine blk_put (cs := #[.int .u64 t163, .int .u64 t164, .int .u64 x145002_1, .int .u64 x145003_1]) ?_ 2 _ rfl; (with_reducible repeat (first | refine blk_drewN ?_ _ | refine blk_drew ?_ | refine blk_alloc ?_ _)); refine blk_put (cs := #[.int .u64 t163, .int .u64 x145001_1, .int .u64 x145002_1, .int .u64 x145003_1]) ?_ 1 _ rfl; (with_reducible repeat (first | refine blk_drewN ?_ _ | refine blk_drew ?_ | refine blk_alloc ?_ _)); refine blk_put (cs := #[.int .u64 x145000_1, .int .u64 x145001_1, .int .u64 x145002_1, .int .u64 x145003_1]) ?_ 0 _ rfl; (with_reducible repeat (first | refine blk_drewN ?_ _ | refine blk_drew ?_ | refine blk_alloc ?_ _)); refine blk_far ?_ NB144_172.out _; (with_reducible repeat (first | refine blk_drewN ?_ _ | refine blk_drew ?_ | refine blk_alloc ?_ _)); refine blk_far ?_ NB144_172.out _; (with_reducible repeat (first | refine blk_drewN ?_ _ | refine blk_drew ?_ | refine blk_alloc ?_ _)); refine blk_far ?_ NB144_172.out _; (with_reducible repeat (first | refine blk_drewN ?_ _ | refine blk_drew ?_ | refine blk_alloc ?_ _)); refine blk_far ?_ NB144_172.out _; (with_reducible repeat (first | refine blk_drewN ?_ _ | refine blk_drew ?_ | refine blk_alloc ?_ _)); exact BK144.out) hb2) (by decide))); have n13_ := Aside0.mk (IsS47.ne_blk hi (blk_below (g := gb150) (o := .cells #[.int .u64 t140, .int .u64 t141, .int .u64 t142, .int .u64 t143] 34 (0, 0)) (by (with_reducible repeat (first | refine blk_drewN ?_ _ | refine blk_drew ?_ | refine blk_alloc ?_ _)); refine blk_far ?_ NB150_144.out _; (with_reducible repeat (first | refine blk_drewN ?_ _ | refine blk_drew ?_ | refine blk_alloc ?_ _)); refine blk_far ?_ NB150_144.out _; (with_reducible repeat (first | refine blk_drewN ?_ _ | refine blk_drew ?_ | refine blk_alloc ?_ _)); refine blk_far ?_ NB150_144.out _; (with_reducible repeat (first | refine blk_drewN ?_ _ | refine blk_drew ?_ | refine blk_alloc ?_ _)); refine blk_far ?_ NB150_144.out _; (with_reducible repeat (first | refine blk_drewN ?_ _ | refine blk_drew ?_ | refine blk_alloc ?_ _)); refine blk_far ?_ NB150_172.out _; (with_reducible repeat (first | refine blk_drewN ?_ _ | refine blk_drew ?_ | refine blk_alloc ?_ _)); refine blk_far ?_ NB150_172.out _; (with_reducible repeat (first | refine blk_drewN ?_ _ | refine blk_drew ?_ | refine blk_alloc ?_ _)); refine blk_far ?_ NB150_172.out _; (with_reducible repeat (first | refine blk_drewN ?_ _ | refine blk_drew ?_ | refine blk_alloc ?_ _)); refine blk_far ?_ NB150_172.out _; (with_reducible repeat (first | refine blk_drewN ?_ _ | refine blk_drew ?_ | refine blk_alloc ?_ _)); exact BK150.out) hb2) (by decide)); have n14_ := Aside0.mk (Ne.symm (IsS47.ne_blk hi (blk_below (g := gb150) (o := .cells #[.int .u64 t140, .int .u64 t141, .int .u64 t142, .int .u64 t143] 34 (0, 0)) (by (with_reducible repeat (first | refine blk_drewN ?_ _ | refine blk_drew ?_ | refine blk_alloc ?_ _)); refine blk_far ?_ NB150_144.out _; (with_reducible repeat (first | refine blk_drewN ?_ _ | refine blk_drew ?_ | refine blk_alloc ?_ _)); refine blk_far ?_ NB150_144.out _; (with_reducible repeat (first | refine blk_drewN ?_ _ | refine blk_drew ?_ | refine blk_alloc ?_ _)); refine blk_far ?_ NB150_144.out _; (with_reducible repeat (first | refine blk_drewN ?_ _ | refine blk_drew ?_ | refine blk_alloc ?_ _)); refine blk_far ?_ NB150_144.out _; (with_reducible repeat (first | refine blk_drewN ?_ _ | refine blk_drew ?_ | refine blk_alloc ?_ _)); refine blk_far ?_ NB150_172.out _; (with_reducible repeat (first | refine blk_drewN ?_ _ | refine blk_drew ?_ | refine blk_alloc ?_ _)); refine blk_far ?_ NB150_172.out _; (with_reducible repeat (first | refine blk_drewN ?_ _ | refine blk_drew ?_ | refine blk_alloc ?_ _)); refine blk_far ?_ NB150_172.out _; (with_reducible repeat (first | refine blk_drewN ?_ _ | refine blk_drew ?_ | refine blk_alloc ?_ _)); refine blk_far ?_ NB150_172.out _; (with_reducible repeat (first | refine blk_drewN ?_ _ | refine blk_drew ?_ | refine blk_alloc ?_ _)); exact BK150.out) hb2) (by decide))); have n15_ := Aside0.mk (IsS47.ne_blk hi (blk_below (g := gb172) (o := .cells #[.int .u64 t163, .int .u64 t164, .int .u64 t165, .int .u64 t166] 34 (0, 0)) (by (with_reducible repeat (first | refine blk_drewN ?_ _ | refine blk_drew ?_ | refine blk_alloc ?_ _)); refine blk_far ?_ NB172_144.out _; (with_reducible repeat (first | refine blk_drewN ?_ _ | refine blk_drew ?_ | refine blk_alloc ?_ _)); refine blk_far ?_ NB172_144.out _; (with_reducible repeat (first | refine blk_drewN ?_ _ | refine blk_drew ?_ | refine blk_alloc ?_ _)); refine blk_far ?_ NB172_144.out _; (with_reducible repeat (first | refine blk_drewN ?_ _ | refine blk_drew ?_ | refine blk_alloc ?_ _)); refine blk_far ?_ NB172_144.out _; (with_reducible repeat (first | refine blk_drewN ?_ _ | refine blk_drew ?_ | refine blk_alloc ?_ _)); refine blk_put (cs := #[.int .u64 t163, .int .u64 t164, .int .u64 t165, .int .u64 0]) ?_ 3 _ rfl; (with_reducible repeat (first | refine blk_drewN ?_ _ | refine blk_drew ?_ | refine blk_alloc ?_ _)); refine blk_put (cs := #[.int .u64 t163, .int .u64 t164, .int .u64 0, .int .u64 0]) ?_ 2 _ rfl; (with_reducible repeat (first | refine blk_drewN ?_ _ | refine blk_drew ?_ | refine blk_alloc ?_ _)); refine blk_put (cs := #[.int .u64 t163, .int .u64 0, .int .u64 0, .int .u64 0]) ?_ 1 _ rfl; (with_reducible repeat (first | refine blk_drewN ?_ _ | refine blk_drew ?_ | refine blk_alloc ?_ _)); refine blk_put (cs := #[.int .u64 0, .int .u64 0, .int .u64 0, .int .u64 0]) ?_ 0 _ rfl; (with_reducible repeat (first | refine blk_drewN ?_ _ | refine blk_drew ?_ | refine blk_alloc ?_ _)); exact BK172.out) hb2) (by decide)); have n16_ := Aside0.mk (Ne.symm (IsS47.ne_blk hi (blk_below (g := gb172) (o := .cells #[.int .u64 t163, .int .u64 t164, .int .u64 t165, .int .u64 t166] 34 (0, 0)) (by (with_reducible repeat (first | refine blk_drewN ?_ _ | refine blk_drew ?_ | refine blk_alloc ?_ _)); refine blk_far ?_ NB172_144.out _; (with_reducible repeat (first | refine blk_drewN ?_ _ | refine blk_drew ?_ | refine blk_alloc ?_ _)); refine blk_far ?_ NB172_144.out _; (with_reducible repeat (first | refine blk_drewN ?_ _ | refine blk_drew ?_ | refine blk_alloc ?_ _)); refine blk_far ?_ NB172_144.out _; (with_reducible repeat (first | refine blk_drewN ?_ _ | refine blk_drew ?_ | refine blk_alloc ?_ _)); refine blk_far ?_ NB172_144.out _; (with_reducible repeat (first | refine blk_drewN ?_ _ | refine blk_drew ?_ | refine blk_alloc ?_ _)); refine blk_put (cs := #[.int .u64 t163, .int .u64 t164, .int .u64 t165, .int .u64 0]) ?_ 3 _ rfl; (with_reducible repeat (first | refine blk_drewN ?_ _ | refine blk_drew ?_ | refine blk_alloc ?_ _)); refine blk_put (cs := #[.int .u64 t163, .int .u64 t164, .int .u64 0, .int .u64 0]) ?_ 2 _ rfl; (with_reducible repeat (first | refine blk_drewN ?_ _ | refine blk_drew ?_ | refine blk_alloc ?_ _)); refine blk_put (cs := #[.int .u64 t163, .int .u64 0, .int .u64 0, .int .u64 0]) ?_ 1 _ rfl; (with_reducible repeat (first | refine blk_drewN ?_ _ | refine blk_drew ?_ | refine blk_alloc ?_ _)); refine blk_put (cs := #[.int .u64 0, .int .u64 0, .int .u64 0, .int .u64 0]) ?_ 0 _ rfl; (with_reducible repeat (first | refine blk_drewN ?_ _ | refine blk_drew ?_ | refine blk_alloc ?_ _)); exact BK172.out) hb2) (by decide))); clear BK144; clear BK150; clear HI139; clear HI149; clear BK172; clear HB; have BK144 := n0_; have BK150 := n1_; have HI139 := n2_; have HI149 := n3_; have BK172 := n4_; have HB := n5_; have HI177 := n6_; have NB139_177 := n7_; have NB177_139 := n8_; have NB149_177 := n9_; have NB177_149 := n10_; have NB177_144 := n11_; have NB144_177 := n12_; have NB177_150 := n13_; have NB150_177 := n14_; have NB177_172 := n15_; have NB172_177 := n16_; clear n0_ n1_ n2_ n3_ n4_ n5_ n6_ n7_ n8_ n9_ n10_ n11_ n12_ n13_ n14_ n15_ n16_; (try clear hb); (try clear hb2); (try clear hk); (try clear hi); (try clear hge)))
            (try simp only [Act.put, List.setIfInBounds_toArray, List.set_cons_zero, List.set_cons_succ])
            go_cut [75] (fun v75 wc => ∃ (kq : Nat) (x75_27 : Bool) (x140000_27 : Int) (x140001_27 : Int) (x140002_27 : Int) (x140003_27 : Int) (x178000_27 : Int) (x178001_27 : Int) (x178002_27 : Int) (x178003_27 : Int), v75 = .bool x75_27 ∧ Aside0 (octroilaw10_BucketPlays.j1 kq l3 x13_1 x75_27 x140000_27 x140001_27 x140002_27 x140003_27 t163 t164 t165 t166 x150000_1 x150001_1 x150002_1 x150003_1 t140 t141 t142 t143 x178000_27 x178001_27 x178002_27 x178003_27 = some r) ∧ Aside0 (kq ≤ k1) ∧ Aside0 (wc.heap[gb144]? = some (.cells #[.int .u64 t163, .int .u64 t164, .int .u64 t165, .int .u64 t166] 34 (0, 0))) ∧ Aside0 (wc.heap[gb150]? = some (.cells #[.int .u64 t140, .int .u64 t141, .int .u64 t142, .int .u64 t143] 34 (0, 0))) ∧ Aside0 (wc.heap[gb172]? = some (.cells #[.int .u64 t163, .int .u64 t164, .int .u64 t165, .int .u64 t166] 34 (0, 0))) ∧ Aside0 (IsS47 w wc g139 x140000_27 x140001_27 x140002_27 x140003_27) ∧ Aside0 (IsS47 w wc g149 x150000_1 x150001_1 x150002_1 x150003_1) ∧ Aside0 (IsS47 w wc g177 x178000_27 x178001_27 x178002_27 x178003_27) ∧ Aside0 (Below w.heap.size w wc))
            case first =>
              have H := HC28.out
              clear HC28
              by_cases c47 : t167 = true
              · subst c47
                have H1 : ((bucket_Bucket_Tick.f t168 t169 t170 t171).bind fun bt178 => (if bt178.1 = t165 then ((bucket_Bucket_Tick.f t173 t174 t175 t176).bind fun bt183 => (if bt183.1 = t165 then ((bucket_Bucket_Level.f bt183.2.1 bt183.2.2.1 bt183.2.2.2.1 bt183.2.2.2.2 0).bind fun bt188 => (octroilaw10_BucketPlays.j1 k1 l3 x13_1 (bt188.1 != t166) bt178.2.1 bt178.2.2.1 bt178.2.2.2.1 bt178.2.2.2.2 t163 t164 t165 t166 x150000_1 x150001_1 x150002_1 x150003_1 t140 t141 t142 t143 bt188.2.1 bt188.2.2.1 bt188.2.2.2.1 bt188.2.2.2.2)) else (octroilaw10_BucketPlays.j1 k1 l3 x13_1 true bt178.2.1 bt178.2.2.1 bt178.2.2.2.1 bt178.2.2.2.2 t163 t164 t165 t166 x150000_1 x150001_1 x150002_1 x150003_1 t140 t141 t142 t143 bt183.2.1 bt183.2.2.1 bt183.2.2.2.1 bt183.2.2.2.2))) else (octroilaw10_BucketPlays.j1 k1 l3 x13_1 true bt178.2.1 bt178.2.2.1 bt178.2.2.2.1 bt178.2.2.2.2 t163 t164 t165 t166 x150000_1 x150001_1 x150002_1 x150003_1 t140 t141 t142 t143 t173 t174 t175 t176))) = some r := by rw [if_pos rfl] at H; exact H
                clear H
                have H := H1
                clear H1
                replace H := Option.bind_eq_some_iff.mp H
                obtain ⟨⟨t178, t179, t180, t181, t182⟩, A480, H⟩ := H
                replace H : (if t178 = t165 then ((bucket_Bucket_Tick.f t173 t174 t175 t176).bind fun bt183 => (if bt183.1 = t165 then ((bucket_Bucket_Level.f bt183.2.1 bt183.2.2.1 bt183.2.2.2.1 bt183.2.2.2.2 0).bind fun bt188 => (octroilaw10_BucketPlays.j1 k1 l3 x13_1 (bt188.1 != t166) t179 t180 t181 t182 t163 t164 t165 t166 x150000_1 x150001_1 x150002_1 x150003_1 t140 t141 t142 t143 bt188.2.1 bt188.2.2.1 bt188.2.2.2.1 bt188.2.2.2.2)) else (octroilaw10_BucketPlays.j1 k1 l3 x13_1 true t179 t180 t181 t182 t163 t164 t165 t166 x150000_1 x150001_1 x150002_1 x150003_1 t140 t141 t142 t143 bt183.2.1 bt183.2.2.1 bt183.2.2.2.1 bt183.2.2.2.2))) else (octroilaw10_BucketPlays.j1 k1 l3 x13_1 true t179 t180 t181 t182 t163 t164 t165 t166 x150000_1 x150001_1 x150002_1 x150003_1 t140 t141 t142 t143 t173 t174 t175 t176)) = some r := H
                have A48 := Aside0.mk A480
                clear A480
                by_cases c49 : t178 = t165
                · rw [if_pos c49] at H
                  have c49b0 : (t178 == t165) = true := beq_iff_eq.mpr c49
                  have c49b1 : (t178 != t165) = false := bne_eq_false_iff_eq.mpr c49
                  clear c49
                  (first | rw [c49b0] | (simp only [i64_w, i32_w]; rw [c49b0]) | rw [c49b1] | skip)
                  replace H := Option.bind_eq_some_iff.mp H
                  obtain ⟨⟨t183, t184, t185, t186, t187⟩, A500, H⟩ := H
                  replace H : (if t183 = t165 then ((bucket_Bucket_Level.f t184 t185 t186 t187 0).bind fun bt188 => (octroilaw10_BucketPlays.j1 k1 l3 x13_1 (bt188.1 != t166) t179 t180 t181 t182 t163 t164 t165 t166 x150000_1 x150001_1 x150002_1 x150003_1 t140 t141 t142 t143 bt188.2.1 bt188.2.2.1 bt188.2.2.2.1 bt188.2.2.2.2)) else (octroilaw10_BucketPlays.j1 k1 l3 x13_1 true t179 t180 t181 t182 t163 t164 t165 t166 x150000_1 x150001_1 x150002_1 x150003_1 t140 t141 t142 t143 t184 t185 t186 t187)) = some r := H
                  have A50 := Aside0.mk A500
                  clear A500
                  by_cases c51 : t183 = t165
                  · rw [if_pos c51] at H
                    have c51b0 : (t183 == t165) = true := beq_iff_eq.mpr c51
                    have c51b1 : (t183 != t165) = false := bne_eq_false_iff_eq.mpr c51
                    clear c51
                    replace H := Option.bind_eq_some_iff.mp H
                    obtain ⟨⟨t188, t189, t190, t191, t192⟩, A520, H⟩ := H
                    replace H : (octroilaw10_BucketPlays.j1 k1 l3 x13_1 (t188 != t166) t179 t180 t181 t182 t163 t164 t165 t166 x150000_1 x150001_1 x150002_1 x150003_1 t140 t141 t142 t143 t189 t190 t191 t192) = some r := H
                    have A52 := Aside0.mk A520
                    clear A520
                    have H' := Aside0.mk H
                    clear H
                    try go_wp2
                    have n0_ := Aside0.mk (blk_drew BK144.out)
                    have n1_ := Aside0.mk (blk_drew BK150.out)
                    have n2_ := Aside0.mk (blk_drew BK172.out)
                    have n3_ := Aside0.mk (IsS47.drew HI139.out)
                    have n4_ := Aside0.mk (IsS47.drew HI149.out)
                    have n5_ := Aside0.mk (IsS47.drew HI177.out)
                    have n6_ := Aside0.mk (below_drew1 HB.out)
                    clear BK144
                    clear BK150
                    clear BK172
                    clear HI139
                    clear HI149
                    clear HI177
                    clear HB
                    have BK144 := n0_
                    have BK150 := n1_
                    have BK172 := n2_
                    have HI139 := n3_
                    have HI149 := n4_
                    have HI177 := n5_
                    have HB := n6_
                    clear n0_ n1_ n2_ n3_ n4_ n5_ n6_
                    refine start_ (n := 23) (S := fun w' => w'.cell? ⟨gb144, 0, none⟩ = some (.int .u64 t163) ∧ w'.cell? ⟨gb144, 1, none⟩ = some (.int .u64 t164) ∧ w'.cell? ⟨gb144, 2, none⟩ = some (.int .u64 t165) ∧ w'.cell? ⟨gb144, 3, none⟩ = some (.int .u64 t166)) (ds := []) #[false, false, false, false, false, false, false, false, false, false, false, false, false, false, false, false, false, false, false, false, false, false, false] (by kernel_rfl) rfl rfl ⟨(blk_cell BK144.out 0).trans rfl, (blk_cell BK144.out 1).trans rfl, (blk_cell BK144.out 2).trans rfl, (blk_cell BK144.out 3).trans rfl⟩ (fun hHeld => ?_); refine with_tabW octroilaw10_BucketPlays.tab13 octroilaw10_BucketPlays.bits13 (fun HT_ HW_ => ?_)
                    generalize w46.drew = w53 at BK144 BK150 BK172 HI139 HI149 HI177 HB hHeld ⊢
                    refine pure_ (i := 0) (N := some 53) (v := ?_) (a' := ?_) #[true, false, false, false, false, false, false, false, false, false, false, false, false, false, false, false, false, false, false, false, false, false, false] rfl rfl (any_of HT_.out (by kernel_rfl)) (fun _ _ _ h => h) (Or.inl ⟨by rfl, ?_⟩) ?_ ?_
                    rotate_left
                    · intro w'
                      go_simp
                      with_reducible rfl
                    rotate_left
                    · simp only [Act.put, List.setIfInBounds_toArray, List.set_cons_zero, List.set_cons_succ, i64_w, i32_w]
                      rfl
                    refine pure_ (i := 1) (N := some 54) (v := ?_) (a' := ?_) #[true, true, false, false, false, false, false, false, false, false, false, false, false, false, false, false, false, false, false, false, false, false, false] rfl rfl (any_of HT_.out (by kernel_rfl)) (fun _ _ _ h => h) (Or.inl ⟨by rfl, ?_⟩) ?_ ?_
                    rotate_left
                    · intro w'
                      go_simp
                      with_reducible rfl
                    rotate_left
                    · simp only [Act.put, List.setIfInBounds_toArray, List.set_cons_zero, List.set_cons_succ, i64_w, i32_w]
                      rfl
                    refine pure_ (i := 2) (N := some 55) (v := ?_) (a' := ?_) #[true, true, true, false, false, false, false, false, false, false, false, false, false, false, false, false, false, false, false, false, false, false, false] rfl rfl (any_of HT_.out (by kernel_rfl)) (fun _ _ _ h => h) (Or.inl ⟨by rfl, ?_⟩) ?_ ?_
                    rotate_left
                    · intro w'
                      go_simp
                      with_reducible rfl
                    rotate_left
                    · simp only [Act.put, List.setIfInBounds_toArray, List.set_cons_zero, List.set_cons_succ, i64_w, i32_w]
                      rfl
                    refine pure_ (i := 3) (N := some 56) (v := ?_) (a' := ?_) #[true, true, true, true, false, false, false, false, false, false, false, false, false, false, false, false, false, false, false, false, false, false, false] rfl rfl (any_of HT_.out (by kernel_rfl)) (fun _ _ _ h => h) (Or.inl ⟨by rfl, ?_⟩) ?_ ?_
                    rotate_left
                    · intro w'
                      go_simp
                      with_reducible rfl
                    rotate_left
                    · simp only [Act.put, List.setIfInBounds_toArray, List.set_cons_zero, List.set_cons_succ, i64_w, i32_w]
                      rfl
                    refine pure_ (i := 5) (N := some 58) (v := ?_) (a' := ?_) #[true, true, true, true, false, true, false, false, false, false, false, false, false, false, false, false, false, false, false, false, false, false, false] rfl rfl (any_of HT_.out (by kernel_rfl)) (fun _ _ _ h => h) (Or.inl ⟨by rfl, ?_⟩) ?_ ?_
                    rotate_left
                    · intro w'
                      go_simp
                      with_reducible rfl
                    rotate_left
                    · simp only [Act.put, List.setIfInBounds_toArray, List.set_cons_zero, List.set_cons_succ, i64_w, i32_w]
                      rfl
                    refine take_ (i := 6) (N := some 59) (v := ?_) (a' := ?_) #[true, true, true, true, false, true, true, false, false, false, false, false, false, false, false, false, false, false, false, false, false, false, false] rfl rfl (take_ofW HT_.out HW_.out (by kernel_rfl)) (fun _ _ _ h => h) (Or.inl ⟨by rfl, ?_⟩) hHeld ?_ ?_
                    rotate_left
                    · rintro w' ⟨s0, s1, s2, s3⟩
                      go_simp
                      with_reducible rfl
                    rotate_left
                    · simp only [Act.put, List.setIfInBounds_toArray, List.set_cons_zero, List.set_cons_succ, i64_w, i32_w]
                      rfl
                    refine one_ (i := 4) (N := some 57) #[true, true, true, true, true, true, true, false, false, false, false, false, false, false, false, false, false, false, false, false, false, false, false] rfl rfl (one_of HT_.out (by kernel_rfl)) (by decide) (fun K hK => ?_)
                    refine goes_ Try.func15 (by kernel_rfl) rfl #[.pointer (some ⟨g139, 0, none⟩)] (by rfl) rfl rfl (by (try simp only [List.map_toArray, List.map_cons, List.map_nil]); first | done | rfl | (simp only [List.length_drop, List.length_take]; rfl)) ?_
                    with_reducible refine (bucket_Bucket_Tick.calls g139 t168 t169 t170 t171 t178 t179 t180 t181 t182 w _ ?side1 ?side2 A48.out).mono ?_
                    (case side1 => repeat (first | (with_reducible first | exact HI139.out | apply IsS47.alloc | apply IsS47.drewN | apply IsS47.drew | apply IsS47.set_0 | apply IsS47.set_1 | apply IsS47.set_2 | apply IsS47.set_3 | refine IsS47.far ?_ NB139_144.out _ | refine IsS47.far ?_ NB139_150.out _ | refine IsS47.far ?_ NB139_172.out _) | exact HI139.out))
                    (case side2 => repeat (first | (with_reducible first | exact HB.out | apply below_alloc | apply pw_below_drewN | apply below_drew1 | refine below_set ?_ (IsS47.ge HI139.out) | refine below_set ?_ (IsS47.ge HI149.out) | refine below_set ?_ (IsS47.ge HI177.out) | refine below_set ?_ GE144.out | refine below_set ?_ GE150.out | refine below_set ?_ GE172.out) | exact HB.out))
                    rintro e w54 ⟨rfl, hi, hb, hk⟩
                    refine ⟨_, rfl, ?_⟩
                    have n0_ := Aside0.mk (KeepBut.blk hk (g' := gb144) (o := .cells #[.int .u64 t163, .int .u64 t164, .int .u64 t165, .int .u64 t166] 34 (0, 0)) (by (with_reducible repeat (first | refine blk_drewN ?_ _ | refine blk_drew ?_ | refine blk_alloc ?_ _)); exact BK144.out) NB144_139.out (by simp))
                    have n1_ := Aside0.mk (KeepBut.blk hk (g' := gb150) (o := .cells #[.int .u64 t140, .int .u64 t141, .int .u64 t142, .int .u64 t143] 34 (0, 0)) (by (with_reducible repeat (first | refine blk_drewN ?_ _ | refine blk_drew ?_ | refine blk_alloc ?_ _)); exact BK150.out) NB150_139.out (by simp))
                    have n2_ := Aside0.mk (IsS47.keepG (by repeat (first | (with_reducible first | exact HI149.out | apply IsS47.alloc | apply IsS47.drewN | apply IsS47.drew | apply IsS47.set_0 | apply IsS47.set_1 | apply IsS47.set_2 | apply IsS47.set_3 | refine IsS47.far ?_ NB149_144.out _ | refine IsS47.far ?_ NB149_150.out _ | refine IsS47.far ?_ NB149_172.out _) | exact HI149.out)) hk NB149_139.out)
                    have n3_ := Aside0.mk (KeepBut.blk hk (g' := gb172) (o := .cells #[.int .u64 t163, .int .u64 t164, .int .u64 t165, .int .u64 t166] 34 (0, 0)) (by (with_reducible repeat (first | refine blk_drewN ?_ _ | refine blk_drew ?_ | refine blk_alloc ?_ _)); exact BK172.out) NB172_139.out (by simp))
                    have n4_ := Aside0.mk (IsS47.keepG (by repeat (first | (with_reducible first | exact HI177.out | apply IsS47.alloc | apply IsS47.drewN | apply IsS47.drew | apply IsS47.set_0 | apply IsS47.set_1 | apply IsS47.set_2 | apply IsS47.set_3 | refine IsS47.far ?_ NB177_144.out _ | refine IsS47.far ?_ NB177_150.out _ | refine IsS47.far ?_ NB177_172.out _) | exact HI177.out)) hk NB177_139.out)
                    have n5_ := Aside0.mk (hb)
                    have n6_ := Aside0.mk (hi)
                    clear BK144
                    clear BK150
                    clear HI149
                    clear BK172
                    clear HI177
                    clear HB
                    clear HI139
                    have BK144 := n0_
                    have BK150 := n1_
                    have HI149 := n2_
                    have BK172 := n3_
                    have HI177 := n4_
                    have HB := n5_
                    have HI139 := n6_
                    clear n0_ n1_ n2_ n3_ n4_ n5_ n6_
                    (try clear hb)
                    (try clear hb2)
                    (try clear hk)
                    (try clear hi)
                    (try clear hge)
                    refine hK.out _ _ ⟨(blk_cell BK144.out 0).trans rfl, (blk_cell BK144.out 1).trans rfl, (blk_cell BK144.out 2).trans rfl, (blk_cell BK144.out 3).trans rfl⟩ (fun hHeld => ?_)
                    clear hK K
                    refine norm_ (a' := ?_) ?_ ?_
                    rotate_left
                    · show Act.put _ (some 57) _ = _
                      simp only [Act.put, List.setIfInBounds_toArray, List.set_cons_zero, List.set_cons_succ, i64_w, i32_w]
                      rfl
                    refine pure_ (i := 7) (N := some 60) (v := ?_) (a' := ?_) #[true, true, true, true, true, true, true, true, false, false, false, false, false, false, false, false, false, false, false, false, false, false, false] rfl rfl (any_of HT_.out (by kernel_rfl)) (fun _ _ _ h => h) (Or.inl ⟨by rfl, ?_⟩) ?_ ?_
                    rotate_left
                    · intro w'
                      go_simp
                      with_reducible rfl
                    rotate_left
                    · simp only [Act.put, List.setIfInBounds_toArray, List.set_cons_zero, List.set_cons_succ, i64_w, i32_w]
                      rfl
                    refine pure_ (i := 8) (N := some 61) (v := ?_) (a' := ?_) #[true, true, true, true, true, true, true, true, true, false, false, false, false, false, false, false, false, false, false, false, false, false, false] rfl rfl (any_of HT_.out (by kernel_rfl)) (fun _ _ _ h => h) (Or.inl ⟨by rfl, ?_⟩) ?_ ?_
                    rotate_left
                    · intro w'
                      go_simp
                      with_reducible rfl
                    rotate_left
                    · simp only [Act.put, List.setIfInBounds_toArray, List.set_cons_zero, List.set_cons_succ, i64_w, i32_w]
                      rfl
                    refine pure_ (i := 9) (N := some 62) (v := ?_) (a' := ?_) #[true, true, true, true, true, true, true, true, true, true, false, false, false, false, false, false, false, false, false, false, false, false, false] rfl rfl (any_of HT_.out (by kernel_rfl)) (fun _ _ _ h => h) (Or.inl ⟨by rfl, ?_⟩) ?_ ?_
                    rotate_left
                    · intro w'
                      go_simp
                      with_reducible rfl
                    rotate_left
                    · simp only [Act.put, List.setIfInBounds_toArray, List.set_cons_zero, List.set_cons_succ, i64_w, i32_w]
                      rfl
                    refine pure_ (i := 10) (N := some 63) (v := ?_) (a' := ?_) #[true, true, true, true, true, true, true, true, true, true, true, false, false, false, false, false, false, false, false, false, false, false, false] rfl rfl (any_of HT_.out (by kernel_rfl)) (fun _ _ _ h => h) (Or.inl ⟨by rfl, ?_⟩) ?_ ?_
                    rotate_left
                    · intro w'
                      go_simp
                      with_reducible rfl
                    rotate_left
                    · simp only [Act.put, List.setIfInBounds_toArray, List.set_cons_zero, List.set_cons_succ, i64_w, i32_w]
                      rfl
                    refine pure_ (i := 12) (N := some 65) (v := ?_) (a' := ?_) #[true, true, true, true, true, true, true, true, true, true, true, false, true, false, false, false, false, false, false, false, false, false, false] rfl rfl (any_of HT_.out (by kernel_rfl)) (fun _ _ _ h => h) (Or.inl ⟨by rfl, ?_⟩) ?_ ?_
                    rotate_left
                    · intro w'
                      go_simp
                      with_reducible rfl
                    rotate_left
                    · simp only [Act.put, List.setIfInBounds_toArray, List.set_cons_zero, List.set_cons_succ, i64_w, i32_w]
                      rfl
                    refine take_ (i := 13) (N := some 66) (v := ?_) (a' := ?_) #[true, true, true, true, true, true, true, true, true, true, true, false, true, true, false, false, false, false, false, false, false, false, false] rfl rfl (take_ofW HT_.out HW_.out (by kernel_rfl)) (fun _ _ _ h => h) (Or.inl ⟨by rfl, ?_⟩) hHeld ?_ ?_
                    rotate_left
                    · rintro w' ⟨s0, s1, s2, s3⟩
                      go_simp
                      with_reducible rfl
                    rotate_left
                    · simp only [Act.put, List.setIfInBounds_toArray, List.set_cons_zero, List.set_cons_succ, i64_w, i32_w]
                      rfl
                    refine one_ (i := 11) (N := some 64) #[true, true, true, true, true, true, true, true, true, true, true, true, true, true, false, false, false, false, false, false, false, false, false] rfl rfl (one_of HT_.out (by kernel_rfl)) (by decide) (fun K hK => ?_)
                    refine goes_ Try.func15 (by kernel_rfl) rfl #[.pointer (some ⟨g177, 0, none⟩)] (by rfl) rfl rfl (by (try simp only [List.map_toArray, List.map_cons, List.map_nil]); first | done | rfl | (simp only [List.length_drop, List.length_take]; rfl)) ?_
                    with_reducible refine (bucket_Bucket_Tick.calls g177 t173 t174 t175 t176 t183 t184 t185 t186 t187 w _ ?side1 ?side2 A50.out).mono ?_
                    (case side1 => repeat (first | (with_reducible first | exact HI177.out | apply IsS47.alloc | apply IsS47.drewN | apply IsS47.drew | apply IsS47.set_0 | apply IsS47.set_1 | apply IsS47.set_2 | apply IsS47.set_3 | refine IsS47.far ?_ NB177_144.out _ | refine IsS47.far ?_ NB177_150.out _ | refine IsS47.far ?_ NB177_172.out _) | exact HI177.out))
                    (case side2 => repeat (first | (with_reducible first | exact HB.out | apply below_alloc | apply pw_below_drewN | apply below_drew1 | refine below_set ?_ (IsS47.ge HI139.out) | refine below_set ?_ (IsS47.ge HI149.out) | refine below_set ?_ (IsS47.ge HI177.out) | refine below_set ?_ GE144.out | refine below_set ?_ GE150.out | refine below_set ?_ GE172.out) | exact HB.out))
                    rintro e w55 ⟨rfl, hi, hb, hk⟩
                    refine ⟨_, rfl, ?_⟩
                    have n0_ := Aside0.mk (KeepBut.blk hk (g' := gb144) (o := .cells #[.int .u64 t163, .int .u64 t164, .int .u64 t165, .int .u64 t166] 34 (0, 0)) (by (with_reducible repeat (first | refine blk_drewN ?_ _ | refine blk_drew ?_ | refine blk_alloc ?_ _)); exact BK144.out) NB144_177.out (by simp))
                    have n1_ := Aside0.mk (KeepBut.blk hk (g' := gb150) (o := .cells #[.int .u64 t140, .int .u64 t141, .int .u64 t142, .int .u64 t143] 34 (0, 0)) (by (with_reducible repeat (first | refine blk_drewN ?_ _ | refine blk_drew ?_ | refine blk_alloc ?_ _)); exact BK150.out) NB150_177.out (by simp))
                    have n2_ := Aside0.mk (IsS47.keepG (by repeat (first | (with_reducible first | exact HI139.out | apply IsS47.alloc | apply IsS47.drewN | apply IsS47.drew | apply IsS47.set_0 | apply IsS47.set_1 | apply IsS47.set_2 | apply IsS47.set_3 | refine IsS47.far ?_ NB139_144.out _ | refine IsS47.far ?_ NB139_150.out _ | refine IsS47.far ?_ NB139_172.out _) | exact HI139.out)) hk NB139_177.out)
                    have n3_ := Aside0.mk (IsS47.keepG (by repeat (first | (with_reducible first | exact HI149.out | apply IsS47.alloc | apply IsS47.drewN | apply IsS47.drew | apply IsS47.set_0 | apply IsS47.set_1 | apply IsS47.set_2 | apply IsS47.set_3 | refine IsS47.far ?_ NB149_144.out _ | refine IsS47.far ?_ NB149_150.out _ | refine IsS47.far ?_ NB149_172.out _) | exact HI149.out)) hk NB149_177.out)
                    have n4_ := Aside0.mk (KeepBut.blk hk (g' := gb172) (o := .cells #[.int .u64 t163, .int .u64 t164, .int .u64 t165, .int .u64 t166] 34 (0, 0)) (by (with_reducible repeat (first | refine blk_drewN ?_ _ | refine blk_drew ?_ | refine blk_alloc ?_ _)); exact BK172.out) NB172_177.out (by simp))
                    have n5_ := Aside0.mk (hb)
                    have n6_ := Aside0.mk (hi)
                    clear BK144
                    clear BK150
                    clear HI139
                    clear HI149
                    clear BK172
                    clear HB
                    clear HI177
                    have BK144 := n0_
                    have BK150 := n1_
                    have HI139 := n2_
                    have HI149 := n3_
                    have BK172 := n4_
                    have HB := n5_
                    have HI177 := n6_
                    clear n0_ n1_ n2_ n3_ n4_ n5_ n6_
                    (try clear hb)
                    (try clear hb2)
                    (try clear hk)
                    (try clear hi)
                    (try clear hge)
                    refine hK.out _ _ ⟨(blk_cell BK144.out 0).trans rfl, (blk_cell BK144.out 1).trans rfl, (blk_cell BK144.out 2).trans rfl, (blk_cell BK144.out 3).trans rfl⟩ (fun hHeld => ?_)
                    clear hK K
                    refine norm_ (a' := ?_) ?_ ?_
                    rotate_left
                    · show Act.put _ (some 64) _ = _
                      simp only [Act.put, List.setIfInBounds_toArray, List.set_cons_zero, List.set_cons_succ, i64_w, i32_w]
                      rfl
                    refine pure_ (i := 14) (N := some 67) (v := ?_) (a' := ?_) #[true, true, true, true, true, true, true, true, true, true, true, true, true, true, true, false, false, false, false, false, false, false, false] rfl rfl (any_of HT_.out (by kernel_rfl)) (fun _ _ _ h => h) (Or.inl ⟨by rfl, ?_⟩) ?_ ?_
                    rotate_left
                    · intro w'
                      go_simp
                      with_reducible rfl
                    rotate_left
                    · simp only [Act.put, List.setIfInBounds_toArray, List.set_cons_zero, List.set_cons_succ, i64_w, i32_w]
                      rfl
                    refine pure_ (i := 15) (N := some 68) (v := ?_) (a' := ?_) #[true, true, true, true, true, true, true, true, true, true, true, true, true, true, true, true, false, false, false, false, false, false, false] rfl rfl (any_of HT_.out (by kernel_rfl)) (fun _ _ _ h => h) (Or.inl ⟨by rfl, ?_⟩) ?_ ?_
                    rotate_left
                    · intro w'
                      go_simp
                      with_reducible rfl
                    rotate_left
                    · simp only [Act.put, List.setIfInBounds_toArray, List.set_cons_zero, List.set_cons_succ, i64_w, i32_w]
                      rfl
                    refine pure_ (i := 16) (N := some 69) (v := ?_) (a' := ?_) #[true, true, true, true, true, true, true, true, true, true, true, true, true, true, true, true, true, false, false, false, false, false, false] rfl rfl (any_of HT_.out (by kernel_rfl)) (fun _ _ _ h => h) (Or.inl ⟨by rfl, ?_⟩) ?_ ?_
                    rotate_left
                    · intro w'
                      go_simp
                      with_reducible rfl
                    rotate_left
                    · simp only [Act.put, List.setIfInBounds_toArray, List.set_cons_zero, List.set_cons_succ, i64_w, i32_w]
                      rfl
                    refine pure_ (i := 17) (N := some 70) (v := ?_) (a' := ?_) #[true, true, true, true, true, true, true, true, true, true, true, true, true, true, true, true, true, true, false, false, false, false, false] rfl rfl (any_of HT_.out (by kernel_rfl)) (fun _ _ _ h => h) (Or.inl ⟨by rfl, ?_⟩) ?_ ?_
                    rotate_left
                    · intro w'
                      go_simp
                      with_reducible rfl
                    rotate_left
                    · simp only [Act.put, List.setIfInBounds_toArray, List.set_cons_zero, List.set_cons_succ, i64_w, i32_w]
                      rfl
                    refine pure_ (i := 19) (N := some 72) (v := ?_) (a' := ?_) #[true, true, true, true, true, true, true, true, true, true, true, true, true, true, true, true, true, true, false, true, false, false, false] rfl rfl (any_of HT_.out (by kernel_rfl)) (fun _ _ _ h => h) (Or.inl ⟨by rfl, ?_⟩) ?_ ?_
                    rotate_left
                    · intro w'
                      go_simp
                      with_reducible rfl
                    rotate_left
                    · simp only [Act.put, List.setIfInBounds_toArray, List.set_cons_zero, List.set_cons_succ, i64_w, i32_w]
                      rfl
                    refine take_ (i := 20) (N := some 73) (v := ?_) (a' := ?_) #[true, true, true, true, true, true, true, true, true, true, true, true, true, true, true, true, true, true, false, true, true, false, false] rfl rfl (take_ofW HT_.out HW_.out (by kernel_rfl)) (fun _ _ _ h => h) (Or.inl ⟨by rfl, ?_⟩) hHeld ?_ ?_
                    rotate_left
                    · rintro w' ⟨s0, s1, s2, s3⟩
                      go_simp
                      with_reducible rfl
                    rotate_left
                    · simp only [Act.put, List.setIfInBounds_toArray, List.set_cons_zero, List.set_cons_succ, i64_w, i32_w]
                      rfl
                    refine one_ (i := 18) (N := some 71) #[true, true, true, true, true, true, true, true, true, true, true, true, true, true, true, true, true, true, true, true, true, false, false] rfl rfl (one_of HT_.out (by kernel_rfl)) (by decide) (fun K hK => ?_)
                    refine goes_ Try.func11 (by kernel_rfl) rfl #[.pointer (some ⟨g177, 0, none⟩), .int .u64 0] (by rfl) rfl rfl (by (try simp only [List.map_toArray, List.map_cons, List.map_nil]); first | done | rfl | (simp only [List.length_drop, List.length_take]; rfl)) ?_
                    with_reducible refine (bucket_Bucket_Level.calls g177 t184 t185 t186 t187 0 t188 t189 t190 t191 t192 w _ ?side1 ?side2 A52.out).mono ?_
                    (case side1 => repeat (first | (with_reducible first | exact HI177.out | apply IsS47.alloc | apply IsS47.drewN | apply IsS47.drew | apply IsS47.set_0 | apply IsS47.set_1 | apply IsS47.set_2 | apply IsS47.set_3 | refine IsS47.far ?_ NB177_144.out _ | refine IsS47.far ?_ NB177_150.out _ | refine IsS47.far ?_ NB177_172.out _) | exact HI177.out))
                    (case side2 => repeat (first | (with_reducible first | exact HB.out | apply below_alloc | apply pw_below_drewN | apply below_drew1 | refine below_set ?_ (IsS47.ge HI139.out) | refine below_set ?_ (IsS47.ge HI149.out) | refine below_set ?_ (IsS47.ge HI177.out) | refine below_set ?_ GE144.out | refine below_set ?_ GE150.out | refine below_set ?_ GE172.out) | exact HB.out))
                    rintro e w56 ⟨rfl, hi, hb, hk⟩
                    refine ⟨_, rfl, ?_⟩
                    have n0_ := Aside0.mk (KeepBut.blk hk (g' := gb144) (o := .cells #[.int .u64 t163, .int .u64 t164, .int .u64 t165, .int .u64 t166] 34 (0, 0)) (by (with_reducible repeat (first | refine blk_drewN ?_ _ | refine blk_drew ?_ | refine blk_alloc ?_ _)); exact BK144.out) NB144_177.out (by simp))
                    have n1_ := Aside0.mk (KeepBut.blk hk (g' := gb150) (o := .cells #[.int .u64 t140, .int .u64 t141, .int .u64 t142, .int .u64 t143] 34 (0, 0)) (by (with_reducible repeat (first | refine blk_drewN ?_ _ | refine blk_drew ?_ | refine blk_alloc ?_ _)); exact BK150.out) NB150_177.out (by simp))
                    have n2_ := Aside0.mk (IsS47.keepG (by repeat (first | (with_reducible first | exact HI139.out | apply IsS47.alloc | apply IsS47.drewN | apply IsS47.drew | apply IsS47.set_0 | apply IsS47.set_1 | apply IsS47.set_2 | apply IsS47.set_3 | refine IsS47.far ?_ NB139_144.out _ | refine IsS47.far ?_ NB139_150.out _ | refine IsS47.far ?_ NB139_172.out _) | exact HI139.out)) hk NB139_177.out)
                    have n3_ := Aside0.mk (IsS47.keepG (by repeat (first | (with_reducible first | exact HI149.out | apply IsS47.alloc | apply IsS47.drewN | apply IsS47.drew | apply IsS47.set_0 | apply IsS47.set_1 | apply IsS47.set_2 | apply IsS47.set_3 | refine IsS47.far ?_ NB149_144.out _ | refine IsS47.far ?_ NB149_150.out _ | refine IsS47.far ?_ NB149_172.out _) | exact HI149.out)) hk NB149_177.out)
                    have n4_ := Aside0.mk (KeepBut.blk hk (g' := gb172) (o := .cells #[.int .u64 t163, .int .u64 t164, .int .u64 t165, .int .u64 t166] 34 (0, 0)) (by (with_reducible repeat (first | refine blk_drewN ?_ _ | refine blk_drew ?_ | refine blk_alloc ?_ _)); exact BK172.out) NB172_177.out (by simp))
                    have n5_ := Aside0.mk (hb)
                    have n6_ := Aside0.mk (hi)
                    clear BK144
                    clear BK150
                    clear HI139
                    clear HI149
                    clear BK172
                    clear HB
                    clear HI177
                    have BK144 := n0_
                    have BK150 := n1_
                    have HI139 := n2_
                    have HI149 := n3_
                    have BK172 := n4_
                    have HB := n5_
                    have HI177 := n6_
                    clear n0_ n1_ n2_ n3_ n4_ n5_ n6_
                    (try clear hb)
                    (try clear hb2)
                    (try clear hk)
                    (try clear hi)
                    (try clear hge)
                    refine hK.out _ _ ⟨(blk_cell BK144.out 0).trans rfl, (blk_cell BK144.out 1).trans rfl, (blk_cell BK144.out 2).trans rfl, (blk_cell BK144.out 3).trans rfl⟩ (fun hHeld => ?_)
                    clear hK K
                    refine norm_ (a' := ?_) ?_ ?_
                    rotate_left
                    · show Act.put _ (some 71) _ = _
                      simp only [Act.put, List.setIfInBounds_toArray, List.set_cons_zero, List.set_cons_succ, i64_w, i32_w]
                      rfl
                    refine pure_ (i := 21) (N := some 74) (v := ?_) (a' := ?_) #[true, true, true, true, true, true, true, true, true, true, true, true, true, true, true, true, true, true, true, true, true, true, false] rfl rfl (any_of HT_.out (by kernel_rfl)) (fun _ _ _ h => h) (Or.inl ⟨by rfl, ?_⟩) ?_ ?_
                    rotate_left
                    · intro w'
                      go_simp
                      with_reducible rfl
                    rotate_left
                    · simp only [Act.put, List.setIfInBounds_toArray, List.set_cons_zero, List.set_cons_succ, i64_w, i32_w]
                      rfl
                    refine pure_ (i := 22) (N := some 75) (v := ?_) (a' := ?_) #[true, true, true, true, true, true, true, true, true, true, true, true, true, true, true, true, true, true, true, true, true, true, true] rfl rfl (any_of HT_.out (by kernel_rfl)) (fun _ _ _ h => h) (Or.inl ⟨by rfl, ?_⟩) ?_ ?_
                    rotate_left
                    · intro w'
                      go_simp
                      with_reducible rfl
                    rotate_left
                    · simp only [Act.put, List.setIfInBounds_toArray, List.set_cons_zero, List.set_cons_succ, i64_w, i32_w]
                      rfl
                    refine done_ (done_of HT_.out (by kernel_rfl)) ?_
                    try go_wp2
                    go_meet
                    case rel => exact ⟨_, ((t188 != t166)), (t179), (t180), (t181), (t182), (t189), (t190), (t191), (t192), (by first | rfl | (simp; done) | (simp [*]; done)), H', ⟨by have := HK1.out; first | omega | exact Nat.le_refl _⟩, ⟨by (with_reducible repeat (first | refine blk_drewN ?_ _ | refine blk_drew ?_ | refine blk_alloc ?_ _)); exact BK144.out⟩, ⟨by (with_reducible repeat (first | refine blk_drewN ?_ _ | refine blk_drew ?_ | refine blk_alloc ?_ _)); exact BK150.out⟩, ⟨by (with_reducible repeat (first | refine blk_drewN ?_ _ | refine blk_drew ?_ | refine blk_alloc ?_ _)); exact BK172.out⟩, ⟨by repeat (first | (with_reducible first | exact HI139.out | apply IsS47.alloc | apply IsS47.drewN | apply IsS47.drew | apply IsS47.set_0 | apply IsS47.set_1 | apply IsS47.set_2 | apply IsS47.set_3 | refine IsS47.far ?_ NB139_144.out _ | refine IsS47.far ?_ NB139_150.out _ | refine IsS47.far ?_ NB139_172.out _) | exact HI139.out)⟩, ⟨by repeat (first | (with_reducible first | exact HI149.out | apply IsS47.alloc | apply IsS47.drewN | apply IsS47.drew | apply IsS47.set_0 | apply IsS47.set_1 | apply IsS47.set_2 | apply IsS47.set_3 | refine IsS47.far ?_ NB149_144.out _ | refine IsS47.far ?_ NB149_150.out _ | refine IsS47.far ?_ NB149_172.out _) | exact HI149.out)⟩, ⟨by repeat (first | (with_reducible first | exact HI177.out | apply IsS47.alloc | apply IsS47.drewN | apply IsS47.drew | apply IsS47.set_0 | apply IsS47.set_1 | apply IsS47.set_2 | apply IsS47.set_3 | refine IsS47.far ?_ NB177_144.out _ | refine IsS47.far ?_ NB177_150.out _ | refine IsS47.far ?_ NB177_172.out _) | exact HI177.out)⟩, ⟨by repeat (first | (with_reducible first | exact HB.out | apply below_alloc | apply pw_below_drewN | apply below_drew1 | refine below_set ?_ (IsS47.ge HI139.out) | refine below_set ?_ (IsS47.ge HI149.out) | refine below_set ?_ (IsS47.ge HI177.out) | refine below_set ?_ GE144.out | refine below_set ?_ GE150.out | refine below_set ?_ GE172.out) | exact HB.out)⟩⟩
                  · rw [if_neg c51] at H
                    have c51b0 : (t183 == t165) = false := beq_eq_false_iff_ne.mpr c51
                    have c51b1 : (t183 != t165) = true := bne_iff_ne.mpr c51
                    have H' := Aside0.mk H
                    clear H
                    try go_wp2
                    have n0_ := Aside0.mk (blk_drew BK144.out)
                    have n1_ := Aside0.mk (blk_drew BK150.out)
                    have n2_ := Aside0.mk (blk_drew BK172.out)
                    have n3_ := Aside0.mk (IsS47.drew HI139.out)
                    have n4_ := Aside0.mk (IsS47.drew HI149.out)
                    have n5_ := Aside0.mk (IsS47.drew HI177.out)
                    have n6_ := Aside0.mk (below_drew1 HB.out)
                    clear BK144
                    clear BK150
                    clear BK172
                    clear HI139
                    clear HI149
                    clear HI177
                    clear HB
                    have BK144 := n0_
                    have BK150 := n1_
                    have BK172 := n2_
                    have HI139 := n3_
                    have HI149 := n4_
                    have HI177 := n5_
                    have HB := n6_
                    clear n0_ n1_ n2_ n3_ n4_ n5_ n6_
                    refine start_ (n := 23) (S := fun w' => w'.cell? ⟨gb144, 0, none⟩ = some (.int .u64 t163) ∧ w'.cell? ⟨gb144, 1, none⟩ = some (.int .u64 t164) ∧ w'.cell? ⟨gb144, 2, none⟩ = some (.int .u64 t165) ∧ w'.cell? ⟨gb144, 3, none⟩ = some (.int .u64 t166)) (ds := []) #[false, false, false, false, false, false, false, false, false, false, false, false, false, false, false, false, false, false, false, false, false, false, false] (by kernel_rfl) rfl rfl ⟨(blk_cell BK144.out 0).trans rfl, (blk_cell BK144.out 1).trans rfl, (blk_cell BK144.out 2).trans rfl, (blk_cell BK144.out 3).trans rfl⟩ (fun hHeld => ?_); refine with_tabW octroilaw10_BucketPlays.tab13 octroilaw10_BucketPlays.bits13 (fun HT_ HW_ => ?_)
                    generalize w46.drew = w57 at BK144 BK150 BK172 HI139 HI149 HI177 HB hHeld ⊢
                    refine pure_ (i := 0) (N := some 53) (v := ?_) (a' := ?_) #[true, false, false, false, false, false, false, false, false, false, false, false, false, false, false, false, false, false, false, false, false, false, false] rfl rfl (any_of HT_.out (by kernel_rfl)) (fun _ _ _ h => h) (Or.inl ⟨by rfl, ?_⟩) ?_ ?_
                    rotate_left
                    · intro w'
                      go_simp
                      with_reducible rfl
                    rotate_left
                    · simp only [Act.put, List.setIfInBounds_toArray, List.set_cons_zero, List.set_cons_succ, i64_w, i32_w]
                      rfl
                    refine pure_ (i := 1) (N := some 54) (v := ?_) (a' := ?_) #[true, true, false, false, false, false, false, false, false, false, false, false, false, false, false, false, false, false, false, false, false, false, false] rfl rfl (any_of HT_.out (by kernel_rfl)) (fun _ _ _ h => h) (Or.inl ⟨by rfl, ?_⟩) ?_ ?_
                    rotate_left
                    · intro w'
                      go_simp
                      with_reducible rfl
                    rotate_left
                    · simp only [Act.put, List.setIfInBounds_toArray, List.set_cons_zero, List.set_cons_succ, i64_w, i32_w]
                      rfl
                    refine pure_ (i := 2) (N := some 55) (v := ?_) (a' := ?_) #[true, true, true, false, false, false, false, false, false, false, false, false, false, false, false, false, false, false, false, false, false, false, false] rfl rfl (any_of HT_.out (by kernel_rfl)) (fun _ _ _ h => h) (Or.inl ⟨by rfl, ?_⟩) ?_ ?_
                    rotate_left
                    · intro w'
                      go_simp
                      with_reducible rfl
                    rotate_left
                    · simp only [Act.put, List.setIfInBounds_toArray, List.set_cons_zero, List.set_cons_succ, i64_w, i32_w]
                      rfl
                    refine pure_ (i := 3) (N := some 56) (v := ?_) (a' := ?_) #[true, true, true, true, false, false, false, false, false, false, false, false, false, false, false, false, false, false, false, false, false, false, false] rfl rfl (any_of HT_.out (by kernel_rfl)) (fun _ _ _ h => h) (Or.inl ⟨by rfl, ?_⟩) ?_ ?_
                    rotate_left
                    · intro w'
                      go_simp
                      with_reducible rfl
                    rotate_left
                    · simp only [Act.put, List.setIfInBounds_toArray, List.set_cons_zero, List.set_cons_succ, i64_w, i32_w]
                      rfl
                    refine pure_ (i := 5) (N := some 58) (v := ?_) (a' := ?_) #[true, true, true, true, false, true, false, false, false, false, false, false, false, false, false, false, false, false, false, false, false, false, false] rfl rfl (any_of HT_.out (by kernel_rfl)) (fun _ _ _ h => h) (Or.inl ⟨by rfl, ?_⟩) ?_ ?_
                    rotate_left
                    · intro w'
                      go_simp
                      with_reducible rfl
                    rotate_left
                    · simp only [Act.put, List.setIfInBounds_toArray, List.set_cons_zero, List.set_cons_succ, i64_w, i32_w]
                      rfl
                    refine take_ (i := 6) (N := some 59) (v := ?_) (a' := ?_) #[true, true, true, true, false, true, true, false, false, false, false, false, false, false, false, false, false, false, false, false, false, false, false] rfl rfl (take_ofW HT_.out HW_.out (by kernel_rfl)) (fun _ _ _ h => h) (Or.inl ⟨by rfl, ?_⟩) hHeld ?_ ?_
                    rotate_left
                    · rintro w' ⟨s0, s1, s2, s3⟩
                      go_simp
                      with_reducible rfl
                    rotate_left
                    · simp only [Act.put, List.setIfInBounds_toArray, List.set_cons_zero, List.set_cons_succ, i64_w, i32_w]
                      rfl
                    refine one_ (i := 4) (N := some 57) #[true, true, true, true, true, true, true, false, false, false, false, false, false, false, false, false, false, false, false, false, false, false, false] rfl rfl (one_of HT_.out (by kernel_rfl)) (by decide) (fun K hK => ?_)
                    refine goes_ Try.func15 (by kernel_rfl) rfl #[.pointer (some ⟨g139, 0, none⟩)] (by rfl) rfl rfl (by (try simp only [List.map_toArray, List.map_cons, List.map_nil]); first | done | rfl | (simp only [List.length_drop, List.length_take]; rfl)) ?_
                    with_reducible refine (bucket_Bucket_Tick.calls g139 t168 t169 t170 t171 t178 t179 t180 t181 t182 w _ ?side1 ?side2 A48.out).mono ?_
                    (case side1 => repeat (first | (with_reducible first | exact HI139.out | apply IsS47.alloc | apply IsS47.drewN | apply IsS47.drew | apply IsS47.set_0 | apply IsS47.set_1 | apply IsS47.set_2 | apply IsS47.set_3 | refine IsS47.far ?_ NB139_144.out _ | refine IsS47.far ?_ NB139_150.out _ | refine IsS47.far ?_ NB139_172.out _) | exact HI139.out))
                    (case side2 => repeat (first | (with_reducible first | exact HB.out | apply below_alloc | apply pw_below_drewN | apply below_drew1 | refine below_set ?_ (IsS47.ge HI139.out) | refine below_set ?_ (IsS47.ge HI149.out) | refine below_set ?_ (IsS47.ge HI177.out) | refine below_set ?_ GE144.out | refine below_set ?_ GE150.out | refine below_set ?_ GE172.out) | exact HB.out))
                    rintro e w58 ⟨rfl, hi, hb, hk⟩
                    refine ⟨_, rfl, ?_⟩
                    have n0_ := Aside0.mk (KeepBut.blk hk (g' := gb144) (o := .cells #[.int .u64 t163, .int .u64 t164, .int .u64 t165, .int .u64 t166] 34 (0, 0)) (by (with_reducible repeat (first | refine blk_drewN ?_ _ | refine blk_drew ?_ | refine blk_alloc ?_ _)); exact BK144.out) NB144_139.out (by simp))
                    have n1_ := Aside0.mk (KeepBut.blk hk (g' := gb150) (o := .cells #[.int .u64 t140, .int .u64 t141, .int .u64 t142, .int .u64 t143] 34 (0, 0)) (by (with_reducible repeat (first | refine blk_drewN ?_ _ | refine blk_drew ?_ | refine blk_alloc ?_ _)); exact BK150.out) NB150_139.out (by simp))
                    have n2_ := Aside0.mk (IsS47.keepG (by repeat (first | (with_reducible first | exact HI149.out | apply IsS47.alloc | apply IsS47.drewN | apply IsS47.drew | apply IsS47.set_0 | apply IsS47.set_1 | apply IsS47.set_2 | apply IsS47.set_3 | refine IsS47.far ?_ NB149_144.out _ | refine IsS47.far ?_ NB149_150.out _ | refine IsS47.far ?_ NB149_172.out _) | exact HI149.out)) hk NB149_139.out)
                    have n3_ := Aside0.mk (KeepBut.blk hk (g' := gb172) (o := .cells #[.int .u64 t163, .int .u64 t164, .int .u64 t165, .int .u64 t166] 34 (0, 0)) (by (with_reducible repeat (first | refine blk_drewN ?_ _ | refine blk_drew ?_ | refine blk_alloc ?_ _)); exact BK172.out) NB172_139.out (by simp))
                    have n4_ := Aside0.mk (IsS47.keepG (by repeat (first | (with_reducible first | exact HI177.out | apply IsS47.alloc | apply IsS47.drewN | apply IsS47.drew | apply IsS47.set_0 | apply IsS47.set_1 | apply IsS47.set_2 | apply IsS47.set_3 | refine IsS47.far ?_ NB177_144.out _ | refine IsS47.far ?_ NB177_150.out _ | refine IsS47.far ?_ NB177_172.out _) | exact HI177.out)) hk NB177_139.out)
                    have n5_ := Aside0.mk (hb)
                    have n6_ := Aside0.mk (hi)
                    clear BK144
                    clear BK150
                    clear HI149
                    clear BK172
                    clear HI177
                    clear HB
                    clear HI139
                    have BK144 := n0_
                    have BK150 := n1_
                    have HI149 := n2_
                    have BK172 := n3_
                    have HI177 := n4_
                    have HB := n5_
                    have HI139 := n6_
                    clear n0_ n1_ n2_ n3_ n4_ n5_ n6_
                    (try clear hb)
                    (try clear hb2)
                    (try clear hk)
                    (try clear hi)
                    (try clear hge)
                    refine hK.out _ _ ⟨(blk_cell BK144.out 0).trans rfl, (blk_cell BK144.out 1).trans rfl, (blk_cell BK144.out 2).trans rfl, (blk_cell BK144.out 3).trans rfl⟩ (fun hHeld => ?_)
                    clear hK K
                    refine norm_ (a' := ?_) ?_ ?_
                    rotate_left
                    · show Act.put _ (some 57) _ = _
                      simp only [Act.put, List.setIfInBounds_toArray, List.set_cons_zero, List.set_cons_succ, i64_w, i32_w]
                      rfl
                    refine pure_ (i := 7) (N := some 60) (v := ?_) (a' := ?_) #[true, true, true, true, true, true, true, true, false, false, false, false, false, false, false, false, false, false, false, false, false, false, false] rfl rfl (any_of HT_.out (by kernel_rfl)) (fun _ _ _ h => h) (Or.inl ⟨by rfl, ?_⟩) ?_ ?_
                    rotate_left
                    · intro w'
                      go_simp
                      with_reducible rfl
                    rotate_left
                    · simp only [Act.put, List.setIfInBounds_toArray, List.set_cons_zero, List.set_cons_succ, i64_w, i32_w]
                      rfl
                    refine pure_ (i := 8) (N := some 61) (v := ?_) (a' := ?_) #[true, true, true, true, true, true, true, true, true, false, false, false, false, false, false, false, false, false, false, false, false, false, false] rfl rfl (any_of HT_.out (by kernel_rfl)) (fun _ _ _ h => h) (Or.inl ⟨by rfl, ?_⟩) ?_ ?_
                    rotate_left
                    · intro w'
                      go_simp
                      with_reducible rfl
                    rotate_left
                    · simp only [Act.put, List.setIfInBounds_toArray, List.set_cons_zero, List.set_cons_succ, i64_w, i32_w]
                      rfl
                    refine pure_ (i := 9) (N := some 62) (v := ?_) (a' := ?_) #[true, true, true, true, true, true, true, true, true, true, false, false, false, false, false, false, false, false, false, false, false, false, false] rfl rfl (any_of HT_.out (by kernel_rfl)) (fun _ _ _ h => h) (Or.inl ⟨by rfl, ?_⟩) ?_ ?_
                    rotate_left
                    · intro w'
                      go_simp
                      with_reducible rfl
                    rotate_left
                    · simp only [Act.put, List.setIfInBounds_toArray, List.set_cons_zero, List.set_cons_succ, i64_w, i32_w]
                      rfl
                    refine pure_ (i := 10) (N := some 63) (v := ?_) (a' := ?_) #[true, true, true, true, true, true, true, true, true, true, true, false, false, false, false, false, false, false, false, false, false, false, false] rfl rfl (any_of HT_.out (by kernel_rfl)) (fun _ _ _ h => h) (Or.inl ⟨by rfl, ?_⟩) ?_ ?_
                    rotate_left
                    · intro w'
                      go_simp
                      with_reducible rfl
                    rotate_left
                    · simp only [Act.put, List.setIfInBounds_toArray, List.set_cons_zero, List.set_cons_succ, i64_w, i32_w]
                      rfl
                    refine pure_ (i := 12) (N := some 65) (v := ?_) (a' := ?_) #[true, true, true, true, true, true, true, true, true, true, true, false, true, false, false, false, false, false, false, false, false, false, false] rfl rfl (any_of HT_.out (by kernel_rfl)) (fun _ _ _ h => h) (Or.inl ⟨by rfl, ?_⟩) ?_ ?_
                    rotate_left
                    · intro w'
                      go_simp
                      with_reducible rfl
                    rotate_left
                    · simp only [Act.put, List.setIfInBounds_toArray, List.set_cons_zero, List.set_cons_succ, i64_w, i32_w]
                      rfl
                    refine take_ (i := 13) (N := some 66) (v := ?_) (a' := ?_) #[true, true, true, true, true, true, true, true, true, true, true, false, true, true, false, false, false, false, false, false, false, false, false] rfl rfl (take_ofW HT_.out HW_.out (by kernel_rfl)) (fun _ _ _ h => h) (Or.inl ⟨by rfl, ?_⟩) hHeld ?_ ?_
                    rotate_left
                    · rintro w' ⟨s0, s1, s2, s3⟩
                      go_simp
                      with_reducible rfl
                    rotate_left
                    · simp only [Act.put, List.setIfInBounds_toArray, List.set_cons_zero, List.set_cons_succ, i64_w, i32_w]
                      rfl
                    refine one_ (i := 11) (N := some 64) #[true, true, true, true, true, true, true, true, true, true, true, true, true, true, false, false, false, false, false, false, false, false, false] rfl rfl (one_of HT_.out (by kernel_rfl)) (by decide) (fun K hK => ?_)
                    refine goes_ Try.func15 (by kernel_rfl) rfl #[.pointer (some ⟨g177, 0, none⟩)] (by rfl) rfl rfl (by (try simp only [List.map_toArray, List.map_cons, List.map_nil]); first | done | rfl | (simp only [List.length_drop, List.length_take]; rfl)) ?_
                    with_reducible refine (bucket_Bucket_Tick.calls g177 t173 t174 t175 t176 t183 t184 t185 t186 t187 w _ ?side1 ?side2 A50.out).mono ?_
                    (case side1 => repeat (first | (with_reducible first | exact HI177.out | apply IsS47.alloc | apply IsS47.drewN | apply IsS47.drew | apply IsS47.set_0 | apply IsS47.set_1 | apply IsS47.set_2 | apply IsS47.set_3 | refine IsS47.far ?_ NB177_144.out _ | refine IsS47.far ?_ NB177_150.out _ | refine IsS47.far ?_ NB177_172.out _) | exact HI177.out))
                    (case side2 => repeat (first | (with_reducible first | exact HB.out | apply below_alloc | apply pw_below_drewN | apply below_drew1 | refine below_set ?_ (IsS47.ge HI139.out) | refine below_set ?_ (IsS47.ge HI149.out) | refine below_set ?_ (IsS47.ge HI177.out) | refine below_set ?_ GE144.out | refine below_set ?_ GE150.out | refine below_set ?_ GE172.out) | exact HB.out))
                    rintro e w59 ⟨rfl, hi, hb, hk⟩
                    refine ⟨_, rfl, ?_⟩
                    have n0_ := Aside0.mk (KeepBut.blk hk (g' := gb144) (o := .cells #[.int .u64 t163, .int .u64 t164, .int .u64 t165, .int .u64 t166] 34 (0, 0)) (by (with_reducible repeat (first | refine blk_drewN ?_ _ | refine blk_drew ?_ | refine blk_alloc ?_ _)); exact BK144.out) NB144_177.out (by simp))
                    have n1_ := Aside0.mk (KeepBut.blk hk (g' := gb150) (o := .cells #[.int .u64 t140, .int .u64 t141, .int .u64 t142, .int .u64 t143] 34 (0, 0)) (by (with_reducible repeat (first | refine blk_drewN ?_ _ | refine blk_drew ?_ | refine blk_alloc ?_ _)); exact BK150.out) NB150_177.out (by simp))
                    have n2_ := Aside0.mk (IsS47.keepG (by repeat (first | (with_reducible first | exact HI139.out | apply IsS47.alloc | apply IsS47.drewN | apply IsS47.drew | apply IsS47.set_0 | apply IsS47.set_1 | apply IsS47.set_2 | apply IsS47.set_3 | refine IsS47.far ?_ NB139_144.out _ | refine IsS47.far ?_ NB139_150.out _ | refine IsS47.far ?_ NB139_172.out _) | exact HI139.out)) hk NB139_177.out)
                    have n3_ := Aside0.mk (IsS47.keepG (by repeat (first | (with_reducible first | exact HI149.out | apply IsS47.alloc | apply IsS47.drewN | apply IsS47.drew | apply IsS47.set_0 | apply IsS47.set_1 | apply IsS47.set_2 | apply IsS47.set_3 | refine IsS47.far ?_ NB149_144.out _ | refine IsS47.far ?_ NB149_150.out _ | refine IsS47.far ?_ NB149_172.out _) | exact HI149.out)) hk NB149_177.out)
                    have n4_ := Aside0.mk (KeepBut.blk hk (g' := gb172) (o := .cells #[.int .u64 t163, .int .u64 t164, .int .u64 t165, .int .u64 t166] 34 (0, 0)) (by (with_reducible repeat (first | refine blk_drewN ?_ _ | refine blk_drew ?_ | refine blk_alloc ?_ _)); exact BK172.out) NB172_177.out (by simp))
                    have n5_ := Aside0.mk (hb)
                    have n6_ := Aside0.mk (hi)
                    clear BK144
                    clear BK150
                    clear HI139
                    clear HI149
                    clear BK172
                    clear HB
                    clear HI177
                    have BK144 := n0_
                    have BK150 := n1_
                    have HI139 := n2_
                    have HI149 := n3_
                    have BK172 := n4_
                    have HB := n5_
                    have HI177 := n6_
                    clear n0_ n1_ n2_ n3_ n4_ n5_ n6_
                    (try clear hb)
                    (try clear hb2)
                    (try clear hk)
                    (try clear hi)
                    (try clear hge)
                    refine hK.out _ _ ⟨(blk_cell BK144.out 0).trans rfl, (blk_cell BK144.out 1).trans rfl, (blk_cell BK144.out 2).trans rfl, (blk_cell BK144.out 3).trans rfl⟩ (fun hHeld => ?_)
                    clear hK K
                    refine norm_ (a' := ?_) ?_ ?_
                    rotate_left
                    · show Act.put _ (some 64) _ = _
                      simp only [Act.put, List.setIfInBounds_toArray, List.set_cons_zero, List.set_cons_succ, i64_w, i32_w]
                      rfl
                    refine pure_ (i := 14) (N := some 67) (v := ?_) (a' := ?_) #[true, true, true, true, true, true, true, true, true, true, true, true, true, true, true, false, false, false, false, false, false, false, false] rfl rfl (any_of HT_.out (by kernel_rfl)) (fun _ _ _ h => h) (Or.inl ⟨by rfl, ?_⟩) ?_ ?_
                    rotate_left
                    · intro w'
                      go_simp
                      with_reducible rfl
                    rotate_left
                    · simp only [Act.put, List.setIfInBounds_toArray, List.set_cons_zero, List.set_cons_succ, i64_w, i32_w]
                      rfl
                    refine pure_ (i := 15) (N := some 68) (v := ?_) (a' := ?_) #[true, true, true, true, true, true, true, true, true, true, true, true, true, true, true, true, false, false, false, false, false, false, false] rfl rfl (any_of HT_.out (by kernel_rfl)) (fun _ _ _ h => h) (Or.inl ⟨by rfl, ?_⟩) ?_ ?_
                    rotate_left
                    · intro w'
                      go_simp
                      with_reducible rfl
                    rotate_left
                    · simp only [Act.put, List.setIfInBounds_toArray, List.set_cons_zero, List.set_cons_succ, i64_w, i32_w]
                      rfl
                    refine pure_ (i := 16) (N := some 69) (v := ?_) (a' := ?_) #[true, true, true, true, true, true, true, true, true, true, true, true, true, true, true, true, true, false, false, false, false, false, false] rfl rfl (any_of HT_.out (by kernel_rfl)) (fun _ _ _ h => h) (Or.inl ⟨by rfl, ?_⟩) ?_ ?_
                    rotate_left
                    · intro w'
                      go_simp
                      with_reducible rfl
                    rotate_left
                    · simp only [Act.put, List.setIfInBounds_toArray, List.set_cons_zero, List.set_cons_succ, i64_w, i32_w]
                      rfl
                    refine pure_ (i := 17) (N := some 70) (v := undef) (a' := ?_) #[true, true, true, true, true, true, true, true, true, true, true, true, true, true, true, true, true, true, false, false, false, false, false] rfl rfl (any_of HT_.out (by kernel_rfl)) (fun _ _ _ h => h) (Or.inr ⟨by rfl, rfl⟩) ?_ ?_
                    rotate_left
                    · simp only [Act.put, List.setIfInBounds_toArray, List.set_cons_zero, List.set_cons_succ, i64_w, i32_w]
                      rfl
                    refine pure_ (i := 18) (N := some 71) (v := undef) (a' := ?_) #[true, true, true, true, true, true, true, true, true, true, true, true, true, true, true, true, true, true, true, false, false, false, false] rfl rfl (any_of HT_.out (by kernel_rfl)) (fun _ _ _ h => h) (Or.inr ⟨by rfl, rfl⟩) ?_ ?_
                    rotate_left
                    · simp only [Act.put, List.setIfInBounds_toArray, List.set_cons_zero, List.set_cons_succ, i64_w, i32_w]
                      rfl
                    refine pure_ (i := 19) (N := some 72) (v := undef) (a' := ?_) #[true, true, true, true, true, true, true, true, true, true, true, true, true, true, true, true, true, true, true, true, false, false, false] rfl rfl (any_of HT_.out (by kernel_rfl)) (fun _ _ _ h => h) (Or.inr ⟨by rfl, rfl⟩) ?_ ?_
                    rotate_left
                    · simp only [Act.put, List.setIfInBounds_toArray, List.set_cons_zero, List.set_cons_succ, i64_w, i32_w]
                      rfl
                    refine pure_ (i := 20) (N := some 73) (v := undef) (a' := ?_) #[true, true, true, true, true, true, true, true, true, true, true, true, true, true, true, true, true, true, true, true, true, false, false] rfl rfl (any_of HT_.out (by kernel_rfl)) (fun _ _ _ h => h) (Or.inr ⟨by rfl, rfl⟩) ?_ ?_
                    rotate_left
                    · simp only [Act.put, List.setIfInBounds_toArray, List.set_cons_zero, List.set_cons_succ, i64_w, i32_w]
                      rfl
                    refine pure_ (i := 21) (N := some 74) (v := undef) (a' := ?_) #[true, true, true, true, true, true, true, true, true, true, true, true, true, true, true, true, true, true, true, true, true, true, false] rfl rfl (any_of HT_.out (by kernel_rfl)) (fun _ _ _ h => h) (Or.inr ⟨by rfl, rfl⟩) ?_ ?_
                    rotate_left
                    · simp only [Act.put, List.setIfInBounds_toArray, List.set_cons_zero, List.set_cons_succ, i64_w, i32_w]
                      rfl
                    refine pure_ (i := 22) (N := some 75) (v := ?_) (a' := ?_) #[true, true, true, true, true, true, true, true, true, true, true, true, true, true, true, true, true, true, true, true, true, true, true] rfl rfl (any_of HT_.out (by kernel_rfl)) (fun _ _ _ h => h) (Or.inl ⟨by rfl, ?_⟩) ?_ ?_
                    rotate_left
                    · intro w'
                      go_simp
                      with_reducible rfl
                    rotate_left
                    · simp only [Act.put, List.setIfInBounds_toArray, List.set_cons_zero, List.set_cons_succ, i64_w, i32_w]
                      rfl
                    refine done_ (done_of HT_.out (by kernel_rfl)) ?_
                    try go_wp2
                    go_meet
                    case rel => exact ⟨_, (true), (t179), (t180), (t181), (t182), (t184), (t185), (t186), (t187), (by first | rfl | (simp; done) | (simp [*]; done)), H', ⟨by have := HK1.out; first | omega | exact Nat.le_refl _⟩, ⟨by (with_reducible repeat (first | refine blk_drewN ?_ _ | refine blk_drew ?_ | refine blk_alloc ?_ _)); exact BK144.out⟩, ⟨by (with_reducible repeat (first | refine blk_drewN ?_ _ | refine blk_drew ?_ | refine blk_alloc ?_ _)); exact BK150.out⟩, ⟨by (with_reducible repeat (first | refine blk_drewN ?_ _ | refine blk_drew ?_ | refine blk_alloc ?_ _)); exact BK172.out⟩, ⟨by repeat (first | (with_reducible first | exact HI139.out | apply IsS47.alloc | apply IsS47.drewN | apply IsS47.drew | apply IsS47.set_0 | apply IsS47.set_1 | apply IsS47.set_2 | apply IsS47.set_3 | refine IsS47.far ?_ NB139_144.out _ | refine IsS47.far ?_ NB139_150.out _ | refine IsS47.far ?_ NB139_172.out _) | exact HI139.out)⟩, ⟨by repeat (first | (with_reducible first | exact HI149.out | apply IsS47.alloc | apply IsS47.drewN | apply IsS47.drew | apply IsS47.set_0 | apply IsS47.set_1 | apply IsS47.set_2 | apply IsS47.set_3 | refine IsS47.far ?_ NB149_144.out _ | refine IsS47.far ?_ NB149_150.out _ | refine IsS47.far ?_ NB149_172.out _) | exact HI149.out)⟩, ⟨by repeat (first | (with_reducible first | exact HI177.out | apply IsS47.alloc | apply IsS47.drewN | apply IsS47.drew | apply IsS47.set_0 | apply IsS47.set_1 | apply IsS47.set_2 | apply IsS47.set_3 | refine IsS47.far ?_ NB177_144.out _ | refine IsS47.far ?_ NB177_150.out _ | refine IsS47.far ?_ NB177_172.out _) | exact HI177.out)⟩, ⟨by repeat (first | (with_reducible first | exact HB.out | apply below_alloc | apply pw_below_drewN | apply below_drew1 | refine below_set ?_ (IsS47.ge HI139.out) | refine below_set ?_ (IsS47.ge HI149.out) | refine below_set ?_ (IsS47.ge HI177.out) | refine below_set ?_ GE144.out | refine below_set ?_ GE150.out | refine below_set ?_ GE172.out) | exact HB.out)⟩⟩
                · rw [if_neg c49] at H
                  have c49b0 : (t178 == t165) = false := beq_eq_false_iff_ne.mpr c49
                  have c49b1 : (t178 != t165) = true := bne_iff_ne.mpr c49
                  (first | rw [c49b0] | (simp only [i64_w, i32_w]; rw [c49b0]) | rw [c49b1] | skip)
                  have H' := Aside0.mk H
                  clear H
                  try go_wp2
                  have n0_ := Aside0.mk (blk_drew BK144.out)
                  have n1_ := Aside0.mk (blk_drew BK150.out)
                  have n2_ := Aside0.mk (blk_drew BK172.out)
                  have n3_ := Aside0.mk (IsS47.drew HI139.out)
                  have n4_ := Aside0.mk (IsS47.drew HI149.out)
                  have n5_ := Aside0.mk (IsS47.drew HI177.out)
                  have n6_ := Aside0.mk (below_drew1 HB.out)
                  clear BK144
                  clear BK150
                  clear BK172
                  clear HI139
                  clear HI149
                  clear HI177
                  clear HB
                  have BK144 := n0_
                  have BK150 := n1_
                  have BK172 := n2_
                  have HI139 := n3_
                  have HI149 := n4_
                  have HI177 := n5_
                  have HB := n6_
                  clear n0_ n1_ n2_ n3_ n4_ n5_ n6_
                  refine start_ (n := 23) (S := fun w' => w'.cell? ⟨gb144, 0, none⟩ = some (.int .u64 t163) ∧ w'.cell? ⟨gb144, 1, none⟩ = some (.int .u64 t164) ∧ w'.cell? ⟨gb144, 2, none⟩ = some (.int .u64 t165) ∧ w'.cell? ⟨gb144, 3, none⟩ = some (.int .u64 t166)) (ds := []) #[false, false, false, false, false, false, false, false, false, false, false, false, false, false, false, false, false, false, false, false, false, false, false] (by kernel_rfl) rfl rfl ⟨(blk_cell BK144.out 0).trans rfl, (blk_cell BK144.out 1).trans rfl, (blk_cell BK144.out 2).trans rfl, (blk_cell BK144.out 3).trans rfl⟩ (fun hHeld => ?_); refine with_tabW octroilaw10_BucketPlays.tab13 octroilaw10_BucketPlays.bits13 (fun HT_ HW_ => ?_)
                  generalize w46.drew = w60 at BK144 BK150 BK172 HI139 HI149 HI177 HB hHeld ⊢
                  refine pure_ (i := 0) (N := some 53) (v := ?_) (a' := ?_) #[true, false, false, false, false, false, false, false, false, false, false, false, false, false, false, false, false, false, false, false, false, false, false] rfl rfl (any_of HT_.out (by kernel_rfl)) (fun _ _ _ h => h) (Or.inl ⟨by rfl, ?_⟩) ?_ ?_
                  rotate_left
                  · intro w'
                    go_simp
                    with_reducible rfl
                  rotate_left
                  · simp only [Act.put, List.setIfInBounds_toArray, List.set_cons_zero, List.set_cons_succ, i64_w, i32_w]
                    rfl
                  refine pure_ (i := 1) (N := some 54) (v := ?_) (a' := ?_) #[true, true, false, false, false, false, false, false, false, false, false, false, false, false, false, false, false, false, false, false, false, false, false] rfl rfl (any_of HT_.out (by kernel_rfl)) (fun _ _ _ h => h) (Or.inl ⟨by rfl, ?_⟩) ?_ ?_
                  rotate_left
                  · intro w'
                    go_simp
                    with_reducible rfl
                  rotate_left
                  · simp only [Act.put, List.setIfInBounds_toArray, List.set_cons_zero, List.set_cons_succ, i64_w, i32_w]
                    rfl
                  refine pure_ (i := 2) (N := some 55) (v := ?_) (a' := ?_) #[true, true, true, false, false, false, false, false, false, false, false, false, false, false, false, false, false, false, false, false, false, false, false] rfl rfl (any_of HT_.out (by kernel_rfl)) (fun _ _ _ h => h) (Or.inl ⟨by rfl, ?_⟩) ?_ ?_
                  rotate_left
                  · intro w'
                    go_simp
                    with_reducible rfl
                  rotate_left
                  · simp only [Act.put, List.setIfInBounds_toArray, List.set_cons_zero, List.set_cons_succ, i64_w, i32_w]
                    rfl
                  refine pure_ (i := 3) (N := some 56) (v := ?_) (a' := ?_) #[true, true, true, true, false, false, false, false, false, false, false, false, false, false, false, false, false, false, false, false, false, false, false] rfl rfl (any_of HT_.out (by kernel_rfl)) (fun _ _ _ h => h) (Or.inl ⟨by rfl, ?_⟩) ?_ ?_
                  rotate_left
                  · intro w'
                    go_simp
                    with_reducible rfl
                  rotate_left
                  · simp only [Act.put, List.setIfInBounds_toArray, List.set_cons_zero, List.set_cons_succ, i64_w, i32_w]
                    rfl
                  refine pure_ (i := 5) (N := some 58) (v := ?_) (a' := ?_) #[true, true, true, true, false, true, false, false, false, false, false, false, false, false, false, false, false, false, false, false, false, false, false] rfl rfl (any_of HT_.out (by kernel_rfl)) (fun _ _ _ h => h) (Or.inl ⟨by rfl, ?_⟩) ?_ ?_
                  rotate_left
                  · intro w'
                    go_simp
                    with_reducible rfl
                  rotate_left
                  · simp only [Act.put, List.setIfInBounds_toArray, List.set_cons_zero, List.set_cons_succ, i64_w, i32_w]
                    rfl
                  refine take_ (i := 6) (N := some 59) (v := ?_) (a' := ?_) #[true, true, true, true, false, true, true, false, false, false, false, false, false, false, false, false, false, false, false, false, false, false, false] rfl rfl (take_ofW HT_.out HW_.out (by kernel_rfl)) (fun _ _ _ h => h) (Or.inl ⟨by rfl, ?_⟩) hHeld ?_ ?_
                  rotate_left
                  · rintro w' ⟨s0, s1, s2, s3⟩
                    go_simp
                    with_reducible rfl
                  rotate_left
                  · simp only [Act.put, List.setIfInBounds_toArray, List.set_cons_zero, List.set_cons_succ, i64_w, i32_w]
                    rfl
                  refine one_ (i := 4) (N := some 57) #[true, true, true, true, true, true, true, false, false, false, false, false, false, false, false, false, false, false, false, false, false, false, false] rfl rfl (one_of HT_.out (by kernel_rfl)) (by decide) (fun K hK => ?_)
                  refine goes_ Try.func15 (by kernel_rfl) rfl #[.pointer (some ⟨g139, 0, none⟩)] (by rfl) rfl rfl (by (try simp only [List.map_toArray, List.map_cons, List.map_nil]); first | done | rfl | (simp only [List.length_drop, List.length_take]; rfl)) ?_
                  with_reducible refine (bucket_Bucket_Tick.calls g139 t168 t169 t170 t171 t178 t179 t180 t181 t182 w _ ?side1 ?side2 A48.out).mono ?_
                  (case side1 => repeat (first | (with_reducible first | exact HI139.out | apply IsS47.alloc | apply IsS47.drewN | apply IsS47.drew | apply IsS47.set_0 | apply IsS47.set_1 | apply IsS47.set_2 | apply IsS47.set_3 | refine IsS47.far ?_ NB139_144.out _ | refine IsS47.far ?_ NB139_150.out _ | refine IsS47.far ?_ NB139_172.out _) | exact HI139.out))
                  (case side2 => repeat (first | (with_reducible first | exact HB.out | apply below_alloc | apply pw_below_drewN | apply below_drew1 | refine below_set ?_ (IsS47.ge HI139.out) | refine below_set ?_ (IsS47.ge HI149.out) | refine below_set ?_ (IsS47.ge HI177.out) | refine below_set ?_ GE144.out | refine below_set ?_ GE150.out | refine below_set ?_ GE172.out) | exact HB.out))
                  rintro e w61 ⟨rfl, hi, hb, hk⟩
                  refine ⟨_, rfl, ?_⟩
                  have n0_ := Aside0.mk (KeepBut.blk hk (g' := gb144) (o := .cells #[.int .u64 t163, .int .u64 t164, .int .u64 t165, .int .u64 t166] 34 (0, 0)) (by (with_reducible repeat (first | refine blk_drewN ?_ _ | refine blk_drew ?_ | refine blk_alloc ?_ _)); exact BK144.out) NB144_139.out (by simp))
                  have n1_ := Aside0.mk (KeepBut.blk hk (g' := gb150) (o := .cells #[.int .u64 t140, .int .u64 t141, .int .u64 t142, .int .u64 t143] 34 (0, 0)) (by (with_reducible repeat (first | refine blk_drewN ?_ _ | refine blk_drew ?_ | refine blk_alloc ?_ _)); exact BK150.out) NB150_139.out (by simp))
                  have n2_ := Aside0.mk (IsS47.keepG (by repeat (first | (with_reducible first | exact HI149.out | apply IsS47.alloc | apply IsS47.drewN | apply IsS47.drew | apply IsS47.set_0 | apply IsS47.set_1 | apply IsS47.set_2 | apply IsS47.set_3 | refine IsS47.far ?_ NB149_144.out _ | refine IsS47.far ?_ NB149_150.out _ | refine IsS47.far ?_ NB149_172.out _) | exact HI149.out)) hk NB149_139.out)
                  have n3_ := Aside0.mk (KeepBut.blk hk (g' := gb172) (o := .cells #[.int .u64 t163, .int .u64 t164, .int .u64 t165, .int .u64 t166] 34 (0, 0)) (by (with_reducible repeat (first | refine blk_drewN ?_ _ | refine blk_drew ?_ | refine blk_alloc ?_ _)); exact BK172.out) NB172_139.out (by simp))
                  have n4_ := Aside0.mk (IsS47.keepG (by repeat (first | (with_reducible first | exact HI177.out | apply IsS47.alloc | apply IsS47.drewN | apply IsS47.drew | apply IsS47.set_0 | apply IsS47.set_1 | apply IsS47.set_2 | apply IsS47.set_3 | refine IsS47.far ?_ NB177_144.out _ | refine IsS47.far ?_ NB177_150.out _ | refine IsS47.far ?_ NB177_172.out _) | exact HI177.out)) hk NB177_139.out)
                  have n5_ := Aside0.mk (hb)
                  have n6_ := Aside0.mk (hi)
                  clear BK144
                  clear BK150
                  clear HI149
                  clear BK172
                  clear HI177
                  clear HB
                  clear HI139
                  have BK144 := n0_
                  have BK150 := n1_
                  have HI149 := n2_
                  have BK172 := n3_
                  have HI177 := n4_
                  have HB := n5_
                  have HI139 := n6_
                  clear n0_ n1_ n2_ n3_ n4_ n5_ n6_
                  (try clear hb)
                  (try clear hb2)
                  (try clear hk)
                  (try clear hi)
                  (try clear hge)
                  refine hK.out _ _ ⟨(blk_cell BK144.out 0).trans rfl, (blk_cell BK144.out 1).trans rfl, (blk_cell BK144.out 2).trans rfl, (blk_cell BK144.out 3).trans rfl⟩ (fun hHeld => ?_)
                  clear hK K
                  refine norm_ (a' := ?_) ?_ ?_
                  rotate_left
                  · show Act.put _ (some 57) _ = _
                    simp only [Act.put, List.setIfInBounds_toArray, List.set_cons_zero, List.set_cons_succ, i64_w, i32_w]
                    rfl
                  refine pure_ (i := 7) (N := some 60) (v := ?_) (a' := ?_) #[true, true, true, true, true, true, true, true, false, false, false, false, false, false, false, false, false, false, false, false, false, false, false] rfl rfl (any_of HT_.out (by kernel_rfl)) (fun _ _ _ h => h) (Or.inl ⟨by rfl, ?_⟩) ?_ ?_
                  rotate_left
                  · intro w'
                    go_simp
                    with_reducible rfl
                  rotate_left
                  · simp only [Act.put, List.setIfInBounds_toArray, List.set_cons_zero, List.set_cons_succ, i64_w, i32_w]
                    rfl
                  refine pure_ (i := 8) (N := some 61) (v := ?_) (a' := ?_) #[true, true, true, true, true, true, true, true, true, false, false, false, false, false, false, false, false, false, false, false, false, false, false] rfl rfl (any_of HT_.out (by kernel_rfl)) (fun _ _ _ h => h) (Or.inl ⟨by rfl, ?_⟩) ?_ ?_
                  rotate_left
                  · intro w'
                    go_simp
                    with_reducible rfl
                  rotate_left
                  · simp only [Act.put, List.setIfInBounds_toArray, List.set_cons_zero, List.set_cons_succ, i64_w, i32_w]
                    rfl
                  refine pure_ (i := 9) (N := some 62) (v := ?_) (a' := ?_) #[true, true, true, true, true, true, true, true, true, true, false, false, false, false, false, false, false, false, false, false, false, false, false] rfl rfl (any_of HT_.out (by kernel_rfl)) (fun _ _ _ h => h) (Or.inl ⟨by rfl, ?_⟩) ?_ ?_
                  rotate_left
                  · intro w'
                    go_simp
                    with_reducible rfl
                  rotate_left
                  · simp only [Act.put, List.setIfInBounds_toArray, List.set_cons_zero, List.set_cons_succ, i64_w, i32_w]
                    rfl
                  refine pure_ (i := 10) (N := some 63) (v := undef) (a' := ?_) #[true, true, true, true, true, true, true, true, true, true, true, false, false, false, false, false, false, false, false, false, false, false, false] rfl rfl (any_of HT_.out (by kernel_rfl)) (fun _ _ _ h => h) (Or.inr ⟨by rfl, rfl⟩) ?_ ?_
                  rotate_left
                  · simp only [Act.put, List.setIfInBounds_toArray, List.set_cons_zero, List.set_cons_succ, i64_w, i32_w]
                    rfl
                  refine pure_ (i := 11) (N := some 64) (v := undef) (a' := ?_) #[true, true, true, true, true, true, true, true, true, true, true, true, false, false, false, false, false, false, false, false, false, false, false] rfl rfl (any_of HT_.out (by kernel_rfl)) (fun _ _ _ h => h) (Or.inr ⟨by rfl, rfl⟩) ?_ ?_
                  rotate_left
                  · simp only [Act.put, List.setIfInBounds_toArray, List.set_cons_zero, List.set_cons_succ, i64_w, i32_w]
                    rfl
                  refine pure_ (i := 12) (N := some 65) (v := undef) (a' := ?_) #[true, true, true, true, true, true, true, true, true, true, true, true, true, false, false, false, false, false, false, false, false, false, false] rfl rfl (any_of HT_.out (by kernel_rfl)) (fun _ _ _ h => h) (Or.inr ⟨by rfl, rfl⟩) ?_ ?_
                  rotate_left
                  · simp only [Act.put, List.setIfInBounds_toArray, List.set_cons_zero, List.set_cons_succ, i64_w, i32_w]
                    rfl
                  refine pure_ (i := 13) (N := some 66) (v := undef) (a' := ?_) #[true, true, true, true, true, true, true, true, true, true, true, true, true, true, false, false, false, false, false, false, false, false, false] rfl rfl (any_of HT_.out (by kernel_rfl)) (fun _ _ _ h => h) (Or.inr ⟨by rfl, rfl⟩) ?_ ?_
                  rotate_left
                  · simp only [Act.put, List.setIfInBounds_toArray, List.set_cons_zero, List.set_cons_succ, i64_w, i32_w]
                    rfl
                  refine pure_ (i := 14) (N := some 67) (v := undef) (a' := ?_) #[true, true, true, true, true, true, true, true, true, true, true, true, true, true, true, false, false, false, false, false, false, false, false] rfl rfl (any_of HT_.out (by kernel_rfl)) (fun _ _ _ h => h) (Or.inr ⟨by rfl, rfl⟩) ?_ ?_
                  rotate_left
                  · simp only [Act.put, List.setIfInBounds_toArray, List.set_cons_zero, List.set_cons_succ, i64_w, i32_w]
                    rfl
                  refine pure_ (i := 15) (N := some 68) (v := ?_) (a' := ?_) #[true, true, true, true, true, true, true, true, true, true, true, true, true, true, true, true, false, false, false, false, false, false, false] rfl rfl (any_of HT_.out (by kernel_rfl)) (fun _ _ _ h => h) (Or.inl ⟨by rfl, ?_⟩) ?_ ?_
                  rotate_left
                  · intro w'
                    go_simp
                    with_reducible rfl
                  rotate_left
                  · simp only [Act.put, List.setIfInBounds_toArray, List.set_cons_zero, List.set_cons_succ, i64_w, i32_w]
                    rfl
                  refine pure_ (i := 16) (N := some 69) (v := ?_) (a' := ?_) #[true, true, true, true, true, true, true, true, true, true, true, true, true, true, true, true, true, false, false, false, false, false, false] rfl rfl (any_of HT_.out (by kernel_rfl)) (fun _ _ _ h => h) (Or.inl ⟨by rfl, ?_⟩) ?_ ?_
                  rotate_left
                  · intro w'
                    go_simp
                    with_reducible rfl
                  rotate_left
                  · simp only [Act.put, List.setIfInBounds_toArray, List.set_cons_zero, List.set_cons_succ, i64_w, i32_w]
                    rfl
                  refine pure_ (i := 17) (N := some 70) (v := undef) (a' := ?_) #[true, true, true, true, true, true, true, true, true, true, true, true, true, true, true, true, true, true, false, false, false, false, false] rfl rfl (any_of HT_.out (by kernel_rfl)) (fun _ _ _ h => h) (Or.inr ⟨by rfl, rfl⟩) ?_ ?_
                  rotate_left
                  · simp only [Act.put, List.setIfInBounds_toArray, List.set_cons_zero, List.set_cons_succ, i64_w, i32_w]
                    rfl
                  refine pure_ (i := 18) (N := some 71) (v := undef) (a' := ?_) #[true, true, true, true, true, true, true, true, true, true, true, true, true, true, true, true, true, true, true, false, false, false, false] rfl rfl (any_of HT_.out (by kernel_rfl)) (fun _ _ _ h => h) (Or.inr ⟨by rfl, rfl⟩) ?_ ?_
                  rotate_left
                  · simp only [Act.put, List.setIfInBounds_toArray, List.set_cons_zero, List.set_cons_succ, i64_w, i32_w]
                    rfl
                  refine pure_ (i := 19) (N := some 72) (v := undef) (a' := ?_) #[true, true, true, true, true, true, true, true, true, true, true, true, true, true, true, true, true, true, true, true, false, false, false] rfl rfl (any_of HT_.out (by kernel_rfl)) (fun _ _ _ h => h) (Or.inr ⟨by rfl, rfl⟩) ?_ ?_
                  rotate_left
                  · simp only [Act.put, List.setIfInBounds_toArray, List.set_cons_zero, List.set_cons_succ, i64_w, i32_w]
                    rfl
                  refine pure_ (i := 20) (N := some 73) (v := undef) (a' := ?_) #[true, true, true, true, true, true, true, true, true, true, true, true, true, true, true, true, true, true, true, true, true, false, false] rfl rfl (any_of HT_.out (by kernel_rfl)) (fun _ _ _ h => h) (Or.inr ⟨by rfl, rfl⟩) ?_ ?_
                  rotate_left
                  · simp only [Act.put, List.setIfInBounds_toArray, List.set_cons_zero, List.set_cons_succ, i64_w, i32_w]
                    rfl
                  refine pure_ (i := 21) (N := some 74) (v := undef) (a' := ?_) #[true, true, true, true, true, true, true, true, true, true, true, true, true, true, true, true, true, true, true, true, true, true, false] rfl rfl (any_of HT_.out (by kernel_rfl)) (fun _ _ _ h => h) (Or.inr ⟨by rfl, rfl⟩) ?_ ?_
                  rotate_left
                  · simp only [Act.put, List.setIfInBounds_toArray, List.set_cons_zero, List.set_cons_succ, i64_w, i32_w]
                    rfl
                  refine pure_ (i := 22) (N := some 75) (v := ?_) (a' := ?_) #[true, true, true, true, true, true, true, true, true, true, true, true, true, true, true, true, true, true, true, true, true, true, true] rfl rfl (any_of HT_.out (by kernel_rfl)) (fun _ _ _ h => h) (Or.inl ⟨by rfl, ?_⟩) ?_ ?_
                  rotate_left
                  · intro w'
                    go_simp
                    with_reducible rfl
                  rotate_left
                  · simp only [Act.put, List.setIfInBounds_toArray, List.set_cons_zero, List.set_cons_succ, i64_w, i32_w]
                    rfl
                  refine done_ (done_of HT_.out (by kernel_rfl)) ?_
                  try go_wp2
                  go_meet
                  case rel => exact ⟨_, (true), (t179), (t180), (t181), (t182), (t173), (t174), (t175), (t176), (by first | rfl | (simp; done) | (simp [*]; done)), H', ⟨by have := HK1.out; first | omega | exact Nat.le_refl _⟩, ⟨by (with_reducible repeat (first | refine blk_drewN ?_ _ | refine blk_drew ?_ | refine blk_alloc ?_ _)); exact BK144.out⟩, ⟨by (with_reducible repeat (first | refine blk_drewN ?_ _ | refine blk_drew ?_ | refine blk_alloc ?_ _)); exact BK150.out⟩, ⟨by (with_reducible repeat (first | refine blk_drewN ?_ _ | refine blk_drew ?_ | refine blk_alloc ?_ _)); exact BK172.out⟩, ⟨by repeat (first | (with_reducible first | exact HI139.out | apply IsS47.alloc | apply IsS47.drewN | apply IsS47.drew | apply IsS47.set_0 | apply IsS47.set_1 | apply IsS47.set_2 | apply IsS47.set_3 | refine IsS47.far ?_ NB139_144.out _ | refine IsS47.far ?_ NB139_150.out _ | refine IsS47.far ?_ NB139_172.out _) | exact HI139.out)⟩, ⟨by repeat (first | (with_reducible first | exact HI149.out | apply IsS47.alloc | apply IsS47.drewN | apply IsS47.drew | apply IsS47.set_0 | apply IsS47.set_1 | apply IsS47.set_2 | apply IsS47.set_3 | refine IsS47.far ?_ NB149_144.out _ | refine IsS47.far ?_ NB149_150.out _ | refine IsS47.far ?_ NB149_172.out _) | exact HI149.out)⟩, ⟨by repeat (first | (with_reducible first | exact HI177.out | apply IsS47.alloc | apply IsS47.drewN | apply IsS47.drew | apply IsS47.set_0 | apply IsS47.set_1 | apply IsS47.set_2 | apply IsS47.set_3 | refine IsS47.far ?_ NB177_144.out _ | refine IsS47.far ?_ NB177_150.out _ | refine IsS47.far ?_ NB177_172.out _) | exact HI177.out)⟩, ⟨by repeat (first | (with_reducible first | exact HB.out | apply below_alloc | apply pw_below_drewN | apply below_drew1 | refine below_set ?_ (IsS47.ge HI139.out) | refine below_set ?_ (IsS47.ge HI149.out) | refine below_set ?_ (IsS47.ge HI177.out) | refine below_set ?_ GE144.out | refine below_set ?_ GE150.out | refine below_set ?_ GE172.out) | exact HB.out)⟩⟩
              · replace c47 := Bool.eq_false_iff.mpr c47
                subst c47
                have H1 : (octroilaw10_BucketPlays.j1 k1 l3 x13_1 true t168 t169 t170 t171 t163 t164 t165 t166 x150000_1 x150001_1 x150002_1 x150003_1 t140 t141 t142 t143 t173 t174 t175 t176) = some r := by rw [if_neg (show ¬ (false = true) by decide)] at H; exact H
                clear H
                have H := H1
                clear H1
                have H' := Aside0.mk H
                clear H
                try go_wp2
                have n0_ := Aside0.mk (blk_drew BK144.out)
                have n1_ := Aside0.mk (blk_drew BK150.out)
                have n2_ := Aside0.mk (blk_drew BK172.out)
                have n3_ := Aside0.mk (IsS47.drew HI139.out)
                have n4_ := Aside0.mk (IsS47.drew HI149.out)
                have n5_ := Aside0.mk (IsS47.drew HI177.out)
                have n6_ := Aside0.mk (below_drew1 HB.out)
                clear BK144
                clear BK150
                clear BK172
                clear HI139
                clear HI149
                clear HI177
                clear HB
                have BK144 := n0_
                have BK150 := n1_
                have BK172 := n2_
                have HI139 := n3_
                have HI149 := n4_
                have HI177 := n5_
                have HB := n6_
                clear n0_ n1_ n2_ n3_ n4_ n5_ n6_
                refine start_ (n := 23) (S := fun w' => True) (ds := []) #[false, false, false, false, false, false, false, false, false, false, false, false, false, false, false, false, false, false, false, false, false, false, false] (by kernel_rfl) rfl rfl trivial (fun hHeld => ?_); refine with_tabW octroilaw10_BucketPlays.tab13 octroilaw10_BucketPlays.bits13 (fun HT_ HW_ => ?_)
                generalize w46.drew = w62 at BK144 BK150 BK172 HI139 HI149 HI177 HB hHeld ⊢
                refine pure_ (i := 0) (N := some 53) (v := ?_) (a' := ?_) #[true, false, false, false, false, false, false, false, false, false, false, false, false, false, false, false, false, false, false, false, false, false, false] rfl rfl (any_of HT_.out (by kernel_rfl)) (fun _ _ _ h => h) (Or.inl ⟨by rfl, ?_⟩) ?_ ?_
                rotate_left
                · intro w'
                  go_simp
                  with_reducible rfl
                rotate_left
                · simp only [Act.put, List.setIfInBounds_toArray, List.set_cons_zero, List.set_cons_succ, i64_w, i32_w]
                  rfl
                refine pure_ (i := 1) (N := some 54) (v := ?_) (a' := ?_) #[true, true, false, false, false, false, false, false, false, false, false, false, false, false, false, false, false, false, false, false, false, false, false] rfl rfl (any_of HT_.out (by kernel_rfl)) (fun _ _ _ h => h) (Or.inl ⟨by rfl, ?_⟩) ?_ ?_
                rotate_left
                · intro w'
                  go_simp
                  with_reducible rfl
                rotate_left
                · simp only [Act.put, List.setIfInBounds_toArray, List.set_cons_zero, List.set_cons_succ, i64_w, i32_w]
                  rfl
                refine pure_ (i := 2) (N := some 55) (v := ?_) (a' := ?_) #[true, true, true, false, false, false, false, false, false, false, false, false, false, false, false, false, false, false, false, false, false, false, false] rfl rfl (any_of HT_.out (by kernel_rfl)) (fun _ _ _ h => h) (Or.inl ⟨by rfl, ?_⟩) ?_ ?_
                rotate_left
                · intro w'
                  go_simp
                  with_reducible rfl
                rotate_left
                · simp only [Act.put, List.setIfInBounds_toArray, List.set_cons_zero, List.set_cons_succ, i64_w, i32_w]
                  rfl
                refine pure_ (i := 3) (N := some 56) (v := undef) (a' := ?_) #[true, true, true, true, false, false, false, false, false, false, false, false, false, false, false, false, false, false, false, false, false, false, false] rfl rfl (any_of HT_.out (by kernel_rfl)) (fun _ _ _ h => h) (Or.inr ⟨by rfl, rfl⟩) ?_ ?_
                rotate_left
                · simp only [Act.put, List.setIfInBounds_toArray, List.set_cons_zero, List.set_cons_succ, i64_w, i32_w]
                  rfl
                refine pure_ (i := 4) (N := some 57) (v := undef) (a' := ?_) #[true, true, true, true, true, false, false, false, false, false, false, false, false, false, false, false, false, false, false, false, false, false, false] rfl rfl (any_of HT_.out (by kernel_rfl)) (fun _ _ _ h => h) (Or.inr ⟨by rfl, rfl⟩) ?_ ?_
                rotate_left
                · simp only [Act.put, List.setIfInBounds_toArray, List.set_cons_zero, List.set_cons_succ, i64_w, i32_w]
                  rfl
                refine pure_ (i := 5) (N := some 58) (v := undef) (a' := ?_) #[true, true, true, true, true, true, false, false, false, false, false, false, false, false, false, false, false, false, false, false, false, false, false] rfl rfl (any_of HT_.out (by kernel_rfl)) (fun _ _ _ h => h) (Or.inr ⟨by rfl, rfl⟩) ?_ ?_
                rotate_left
                · simp only [Act.put, List.setIfInBounds_toArray, List.set_cons_zero, List.set_cons_succ, i64_w, i32_w]
                  rfl
                refine pure_ (i := 6) (N := some 59) (v := undef) (a' := ?_) #[true, true, true, true, true, true, true, false, false, false, false, false, false, false, false, false, false, false, false, false, false, false, false] rfl rfl (any_of HT_.out (by kernel_rfl)) (fun _ _ _ h => h) (Or.inr ⟨by rfl, rfl⟩) ?_ ?_
                rotate_left
                · simp only [Act.put, List.setIfInBounds_toArray, List.set_cons_zero, List.set_cons_succ, i64_w, i32_w]
                  rfl
                refine pure_ (i := 7) (N := some 60) (v := undef) (a' := ?_) #[true, true, true, true, true, true, true, true, false, false, false, false, false, false, false, false, false, false, false, false, false, false, false] rfl rfl (any_of HT_.out (by kernel_rfl)) (fun _ _ _ h => h) (Or.inr ⟨by rfl, rfl⟩) ?_ ?_
                rotate_left
                · simp only [Act.put, List.setIfInBounds_toArray, List.set_cons_zero, List.set_cons_succ, i64_w, i32_w]
                  rfl
                refine pure_ (i := 8) (N := some 61) (v := ?_) (a' := ?_) #[true, true, true, true, true, true, true, true, true, false, false, false, false, false, false, false, false, false, false, false, false, false, false] rfl rfl (any_of HT_.out (by kernel_rfl)) (fun _ _ _ h => h) (Or.inl ⟨by rfl, ?_⟩) ?_ ?_
                rotate_left
                · intro w'
                  go_simp
                  with_reducible rfl
                rotate_left
                · simp only [Act.put, List.setIfInBounds_toArray, List.set_cons_zero, List.set_cons_succ, i64_w, i32_w]
                  rfl
                refine pure_ (i := 9) (N := some 62) (v := ?_) (a' := ?_) #[true, true, true, true, true, true, true, true, true, true, false, false, false, false, false, false, false, false, false, false, false, false, false] rfl rfl (any_of HT_.out (by kernel_rfl)) (fun _ _ _ h => h) (Or.inl ⟨by rfl, ?_⟩) ?_ ?_
                rotate_left
                · intro w'
                  go_simp
                  with_reducible rfl
                rotate_left
                · simp only [Act.put, List.setIfInBounds_toArray, List.set_cons_zero, List.set_cons_succ, i64_w, i32_w]
                  rfl
                refine pure_ (i := 10) (N := some 63) (v := undef) (a' := ?_) #[true, true, true, true, true, true, true, true, true, true, true, false, false, false, false, false, false, false, false, false, false, false, false] rfl rfl (any_of HT_.out (by kernel_rfl)) (fun _ _ _ h => h) (Or.inr ⟨by rfl, rfl⟩) ?_ ?_
                rotate_left
                · simp only [Act.put, List.setIfInBounds_toArray, List.set_cons_zero, List.set_cons_succ, i64_w, i32_w]
                  rfl
                refine pure_ (i := 11) (N := some 64) (v := undef) (a' := ?_) #[true, true, true, true, true, true, true, true, true, true, true, true, false, false, false, false, false, false, false, false, false, false, false] rfl rfl (any_of HT_.out (by kernel_rfl)) (fun _ _ _ h => h) (Or.inr ⟨by rfl, rfl⟩) ?_ ?_
                rotate_left
                · simp only [Act.put, List.setIfInBounds_toArray, List.set_cons_zero, List.set_cons_succ, i64_w, i32_w]
                  rfl
                refine pure_ (i := 12) (N := some 65) (v := undef) (a' := ?_) #[true, true, true, true, true, true, true, true, true, true, true, true, true, false, false, false, false, false, false, false, false, false, false] rfl rfl (any_of HT_.out (by kernel_rfl)) (fun _ _ _ h => h) (Or.inr ⟨by rfl, rfl⟩) ?_ ?_
                rotate_left
                · simp only [Act.put, List.setIfInBounds_toArray, List.set_cons_zero, List.set_cons_succ, i64_w, i32_w]
                  rfl
                refine pure_ (i := 13) (N := some 66) (v := undef) (a' := ?_) #[true, true, true, true, true, true, true, true, true, true, true, true, true, true, false, false, false, false, false, false, false, false, false] rfl rfl (any_of HT_.out (by kernel_rfl)) (fun _ _ _ h => h) (Or.inr ⟨by rfl, rfl⟩) ?_ ?_
                rotate_left
                · simp only [Act.put, List.setIfInBounds_toArray, List.set_cons_zero, List.set_cons_succ, i64_w, i32_w]
                  rfl
                refine pure_ (i := 14) (N := some 67) (v := undef) (a' := ?_) #[true, true, true, true, true, true, true, true, true, true, true, true, true, true, true, false, false, false, false, false, false, false, false] rfl rfl (any_of HT_.out (by kernel_rfl)) (fun _ _ _ h => h) (Or.inr ⟨by rfl, rfl⟩) ?_ ?_
                rotate_left
                · simp only [Act.put, List.setIfInBounds_toArray, List.set_cons_zero, List.set_cons_succ, i64_w, i32_w]
                  rfl
                refine pure_ (i := 15) (N := some 68) (v := ?_) (a' := ?_) #[true, true, true, true, true, true, true, true, true, true, true, true, true, true, true, true, false, false, false, false, false, false, false] rfl rfl (any_of HT_.out (by kernel_rfl)) (fun _ _ _ h => h) (Or.inl ⟨by rfl, ?_⟩) ?_ ?_
                rotate_left
                · intro w'
                  go_simp
                  with_reducible rfl
                rotate_left
                · simp only [Act.put, List.setIfInBounds_toArray, List.set_cons_zero, List.set_cons_succ, i64_w, i32_w]
                  rfl
                refine pure_ (i := 16) (N := some 69) (v := ?_) (a' := ?_) #[true, true, true, true, true, true, true, true, true, true, true, true, true, true, true, true, true, false, false, false, false, false, false] rfl rfl (any_of HT_.out (by kernel_rfl)) (fun _ _ _ h => h) (Or.inl ⟨by rfl, ?_⟩) ?_ ?_
                rotate_left
                · intro w'
                  go_simp
                  with_reducible rfl
                rotate_left
                · simp only [Act.put, List.setIfInBounds_toArray, List.set_cons_zero, List.set_cons_succ, i64_w, i32_w]
                  rfl
                refine pure_ (i := 17) (N := some 70) (v := undef) (a' := ?_) #[true, true, true, true, true, true, true, true, true, true, true, true, true, true, true, true, true, true, false, false, false, false, false] rfl rfl (any_of HT_.out (by kernel_rfl)) (fun _ _ _ h => h) (Or.inr ⟨by rfl, rfl⟩) ?_ ?_
                rotate_left
                · simp only [Act.put, List.setIfInBounds_toArray, List.set_cons_zero, List.set_cons_succ, i64_w, i32_w]
                  rfl
                refine pure_ (i := 18) (N := some 71) (v := undef) (a' := ?_) #[true, true, true, true, true, true, true, true, true, true, true, true, true, true, true, true, true, true, true, false, false, false, false] rfl rfl (any_of HT_.out (by kernel_rfl)) (fun _ _ _ h => h) (Or.inr ⟨by rfl, rfl⟩) ?_ ?_
                rotate_left
                · simp only [Act.put, List.setIfInBounds_toArray, List.set_cons_zero, List.set_cons_succ, i64_w, i32_w]
                  rfl
                refine pure_ (i := 19) (N := some 72) (v := undef) (a' := ?_) #[true, true, true, true, true, true, true, true, true, true, true, true, true, true, true, true, true, true, true, true, false, false, false] rfl rfl (any_of HT_.out (by kernel_rfl)) (fun _ _ _ h => h) (Or.inr ⟨by rfl, rfl⟩) ?_ ?_
                rotate_left
                · simp only [Act.put, List.setIfInBounds_toArray, List.set_cons_zero, List.set_cons_succ, i64_w, i32_w]
                  rfl
                refine pure_ (i := 20) (N := some 73) (v := undef) (a' := ?_) #[true, true, true, true, true, true, true, true, true, true, true, true, true, true, true, true, true, true, true, true, true, false, false] rfl rfl (any_of HT_.out (by kernel_rfl)) (fun _ _ _ h => h) (Or.inr ⟨by rfl, rfl⟩) ?_ ?_
                rotate_left
                · simp only [Act.put, List.setIfInBounds_toArray, List.set_cons_zero, List.set_cons_succ, i64_w, i32_w]
                  rfl
                refine pure_ (i := 21) (N := some 74) (v := undef) (a' := ?_) #[true, true, true, true, true, true, true, true, true, true, true, true, true, true, true, true, true, true, true, true, true, true, false] rfl rfl (any_of HT_.out (by kernel_rfl)) (fun _ _ _ h => h) (Or.inr ⟨by rfl, rfl⟩) ?_ ?_
                rotate_left
                · simp only [Act.put, List.setIfInBounds_toArray, List.set_cons_zero, List.set_cons_succ, i64_w, i32_w]
                  rfl
                refine pure_ (i := 22) (N := some 75) (v := ?_) (a' := ?_) #[true, true, true, true, true, true, true, true, true, true, true, true, true, true, true, true, true, true, true, true, true, true, true] rfl rfl (any_of HT_.out (by kernel_rfl)) (fun _ _ _ h => h) (Or.inl ⟨by rfl, ?_⟩) ?_ ?_
                rotate_left
                · intro w'
                  go_simp
                  with_reducible rfl
                rotate_left
                · simp only [Act.put, List.setIfInBounds_toArray, List.set_cons_zero, List.set_cons_succ, i64_w, i32_w]
                  rfl
                refine done_ (done_of HT_.out (by kernel_rfl)) ?_
                try go_wp2
                go_meet
                case rel => exact ⟨_, (true), (t168), (t169), (t170), (t171), (t173), (t174), (t175), (t176), (by first | rfl | (simp; done) | (simp [*]; done)), H', ⟨by have := HK1.out; first | omega | exact Nat.le_refl _⟩, ⟨by (with_reducible repeat (first | refine blk_drewN ?_ _ | refine blk_drew ?_ | refine blk_alloc ?_ _)); exact BK144.out⟩, ⟨by (with_reducible repeat (first | refine blk_drewN ?_ _ | refine blk_drew ?_ | refine blk_alloc ?_ _)); exact BK150.out⟩, ⟨by (with_reducible repeat (first | refine blk_drewN ?_ _ | refine blk_drew ?_ | refine blk_alloc ?_ _)); exact BK172.out⟩, ⟨by repeat (first | (with_reducible first | exact HI139.out | apply IsS47.alloc | apply IsS47.drewN | apply IsS47.drew | apply IsS47.set_0 | apply IsS47.set_1 | apply IsS47.set_2 | apply IsS47.set_3 | refine IsS47.far ?_ NB139_144.out _ | refine IsS47.far ?_ NB139_150.out _ | refine IsS47.far ?_ NB139_172.out _) | exact HI139.out)⟩, ⟨by repeat (first | (with_reducible first | exact HI149.out | apply IsS47.alloc | apply IsS47.drewN | apply IsS47.drew | apply IsS47.set_0 | apply IsS47.set_1 | apply IsS47.set_2 | apply IsS47.set_3 | refine IsS47.far ?_ NB149_144.out _ | refine IsS47.far ?_ NB149_150.out _ | refine IsS47.far ?_ NB149_172.out _) | exact HI149.out)⟩, ⟨by repeat (first | (with_reducible first | exact HI177.out | apply IsS47.alloc | apply IsS47.drewN | apply IsS47.drew | apply IsS47.set_0 | apply IsS47.set_1 | apply IsS47.set_2 | apply IsS47.set_3 | refine IsS47.far ?_ NB177_144.out _ | refine IsS47.far ?_ NB177_150.out _ | refine IsS47.far ?_ NB177_172.out _) | exact HI177.out)⟩, ⟨by repeat (first | (with_reducible first | exact HB.out | apply below_alloc | apply pw_below_drewN | apply below_drew1 | refine below_set ?_ (IsS47.ge HI139.out) | refine below_set ?_ (IsS47.ge HI149.out) | refine below_set ?_ (IsS47.ge HI177.out) | refine below_set ?_ GE144.out | refine below_set ?_ GE150.out | refine below_set ?_ GE172.out) | exact HB.out)⟩⟩
            case rest =>
              clear HC28
              try clear c1
              try clear p2
              try clear c4
              try clear c15
              try clear c47
              try clear c49
              try clear c49b0
              try clear c49b1
              obtain ⟨kq, x75_27, x140000_27, x140001_27, x140002_27, x140003_27, x178000_27, x178001_27, x178002_27, x178003_27, rfl, HA, HJ27, BK144, BK150, BK172, HI139, HI149, HI177, HB⟩ := hcut
              cases kq with
              | zero => exact absurd HA.out (by simp [octroilaw10_BucketPlays.j1])
              | succ kj27 =>
                have H := HA.out
                clear HA
                simp only [octroilaw10_BucketPlays.j1] at H
                by_cases c63 : x75_27 = true
                · subst c63
                  have H1 : (none) = some r := by rw [if_pos rfl] at H; exact H
                  clear H
                  have H := H1
                  clear H1
                  exact absurd H (by simp)
                · replace c63 := Bool.eq_false_iff.mpr c63
                  subst c63
                  have H1 : ((bucket_Bucket_Take.f x178000_27 x178001_27 x178002_27 x178003_27 0 t166).bind fun bt193 => (if bt193.1 = true then ((bucket_Bucket_Level.f bt193.2.1 bt193.2.2.1 bt193.2.2.2.1 bt193.2.2.2.2 0).bind fun bt198 => (if bt198.1 = 0 then ((bucket_Bucket_Level.f x140000_27 x140001_27 x140002_27 x140003_27 0).bind fun bt203 => (if bt203.1 = t166 then (octroilaw10_BucketPlays.l0 kj27 l3 (wrap64 (x13_1 + 1)) bt203.2.1 bt203.2.2.1 bt203.2.2.2.1 bt203.2.2.2.2 t163 t164 t165 t166 x150000_1 x150001_1 x150002_1 x150003_1 t140 t141 t142 t143) else (none))) else (none))) else (none))) = some r := by rw [if_neg (show ¬ (false = true) by decide)] at H; exact H
                  clear H
                  have H := H1
                  clear H1
                  replace H := Option.bind_eq_some_iff.mp H
                  obtain ⟨⟨t193, t194, t195, t196, t197⟩, A640, H⟩ := H
                  replace H : (if t193 = true then ((bucket_Bucket_Level.f t194 t195 t196 t197 0).bind fun bt198 => (if bt198.1 = 0 then ((bucket_Bucket_Level.f x140000_27 x140001_27 x140002_27 x140003_27 0).bind fun bt203 => (if bt203.1 = t166 then (octroilaw10_BucketPlays.l0 kj27 l3 (wrap64 (x13_1 + 1)) bt203.2.1 bt203.2.2.1 bt203.2.2.2.1 bt203.2.2.2.2 t163 t164 t165 t166 x150000_1 x150001_1 x150002_1 x150003_1 t140 t141 t142 t143) else (none))) else (none))) else (none)) = some r := H
                  have A64 := Aside0.mk A640
                  clear A640
                  by_cases c65 : t193 = true
                  · subst c65
                    have H1 : ((bucket_Bucket_Level.f t194 t195 t196 t197 0).bind fun bt198 => (if bt198.1 = 0 then ((bucket_Bucket_Level.f x140000_27 x140001_27 x140002_27 x140003_27 0).bind fun bt203 => (if bt203.1 = t166 then (octroilaw10_BucketPlays.l0 kj27 l3 (wrap64 (x13_1 + 1)) bt203.2.1 bt203.2.2.1 bt203.2.2.2.1 bt203.2.2.2.2 t163 t164 t165 t166 x150000_1 x150001_1 x150002_1 x150003_1 t140 t141 t142 t143) else (none))) else (none))) = some r := by rw [if_pos rfl] at H; exact H
                    clear H
                    have H := H1
                    clear H1
                    replace H := Option.bind_eq_some_iff.mp H
                    obtain ⟨⟨t198, t199, t200, t201, t202⟩, A660, H⟩ := H
                    replace H : (if t198 = 0 then ((bucket_Bucket_Level.f x140000_27 x140001_27 x140002_27 x140003_27 0).bind fun bt203 => (if bt203.1 = t166 then (octroilaw10_BucketPlays.l0 kj27 l3 (wrap64 (x13_1 + 1)) bt203.2.1 bt203.2.2.1 bt203.2.2.2.1 bt203.2.2.2.2 t163 t164 t165 t166 x150000_1 x150001_1 x150002_1 x150003_1 t140 t141 t142 t143) else (none))) else (none)) = some r := H
                    have A66 := Aside0.mk A660
                    clear A660
                    by_cases c67 : t198 = 0
                    · rw [if_pos c67] at H
                      have c67b0 : (t198 == 0) = true := beq_iff_eq.mpr c67
                      have c67b1 : (t198 != 0) = false := bne_eq_false_iff_eq.mpr c67
                      clear c67
                      replace H := Option.bind_eq_some_iff.mp H
                      obtain ⟨⟨t203, t204, t205, t206, t207⟩, A680, H⟩ := H
                      replace H : (if t203 = t166 then (octroilaw10_BucketPlays.l0 kj27 l3 (wrap64 (x13_1 + 1)) t204 t205 t206 t207 t163 t164 t165 t166 x150000_1 x150001_1 x150002_1 x150003_1 t140 t141 t142 t143) else (none)) = some r := H
                      have A68 := Aside0.mk A680
                      clear A680
                      by_cases c69 : t203 = t166
                      · rw [if_pos c69] at H
                        have c69b0 : (t203 == t166) = true := beq_iff_eq.mpr c69
                        have c69b1 : (t203 != t166) = false := bne_eq_false_iff_eq.mpr c69
                        clear c69
                        have H' := Aside0.mk H
                        clear H
                        try go_wp2
                        have n0_ := Aside0.mk (blk_drew BK144.out)
                        have n1_ := Aside0.mk (blk_drew BK150.out)
                        have n2_ := Aside0.mk (blk_drew BK172.out)
                        have n3_ := Aside0.mk (IsS47.drew HI139.out)
                        have n4_ := Aside0.mk (IsS47.drew HI149.out)
                        have n5_ := Aside0.mk (IsS47.drew HI177.out)
                        have n6_ := Aside0.mk (below_drew1 HB.out)
                        clear BK144
                        clear BK150
                        clear BK172
                        clear HI139
                        clear HI149
                        clear HI177
                        clear HB
                        have BK144 := n0_
                        have BK150 := n1_
                        have BK172 := n2_
                        have HI139 := n3_
                        have HI149 := n4_
                        have HI177 := n5_
                        have HB := n6_
                        clear n0_ n1_ n2_ n3_ n4_ n5_ n6_
                        refine start_ (n := 17) (S := fun w' => w'.cell? ⟨gb144, 0, none⟩ = some (.int .u64 t163) ∧ w'.cell? ⟨gb144, 1, none⟩ = some (.int .u64 t164) ∧ w'.cell? ⟨gb144, 2, none⟩ = some (.int .u64 t165) ∧ w'.cell? ⟨gb144, 3, none⟩ = some (.int .u64 t166)) (ds := []) #[false, false, false, false, false, false, false, false, false, false, false, false, false, false, false, false, false] (by kernel_rfl) rfl rfl ⟨(blk_cell BK144.out 0).trans rfl, (blk_cell BK144.out 1).trans rfl, (blk_cell BK144.out 2).trans rfl, (blk_cell BK144.out 3).trans rfl⟩ (fun hHeld => ?_); refine with_tabW octroilaw10_BucketPlays.tab15 octroilaw10_BucketPlays.bits15 (fun HT_ HW_ => ?_)
                        generalize wc.drew = w70 at BK144 BK150 BK172 HI139 HI149 HI177 HB hHeld ⊢
                        refine pure_ (i := 0) (N := some 76) (v := ?_) (a' := ?_) #[true, false, false, false, false, false, false, false, false, false, false, false, false, false, false, false, false] rfl rfl (any_of HT_.out (by kernel_rfl)) (fun _ _ _ h => h) (Or.inl ⟨by rfl, ?_⟩) ?_ ?_
                        rotate_left
                        · intro w'
                          go_simp
                          with_reducible rfl
                        rotate_left
                        · simp only [Act.put, List.setIfInBounds_toArray, List.set_cons_zero, List.set_cons_succ, i64_w, i32_w]
                          rfl
                        refine pure_ (i := 1) (N := some 77) (v := ?_) (a' := ?_) #[true, true, false, false, false, false, false, false, false, false, false, false, false, false, false, false, false] rfl rfl (any_of HT_.out (by kernel_rfl)) (fun _ _ _ h => h) (Or.inl ⟨by rfl, ?_⟩) ?_ ?_
                        rotate_left
                        · intro w'
                          go_simp
                          with_reducible rfl
                        rotate_left
                        · simp only [Act.put, List.setIfInBounds_toArray, List.set_cons_zero, List.set_cons_succ, i64_w, i32_w]
                          rfl
                        refine take_ (i := 2) (N := some 78) (v := ?_) (a' := ?_) #[true, true, true, false, false, false, false, false, false, false, false, false, false, false, false, false, false] rfl rfl (take_ofW HT_.out HW_.out (by kernel_rfl)) (fun _ _ _ h => h) (Or.inl ⟨by rfl, ?_⟩) hHeld ?_ ?_
                        rotate_left
                        · rintro w' ⟨s0, s1, s2, s3⟩
                          go_simp
                          with_reducible rfl
                        rotate_left
                        · simp only [Act.put, List.setIfInBounds_toArray, List.set_cons_zero, List.set_cons_succ, i64_w, i32_w]
                          rfl
                        refine one_ (i := 3) (N := some 79) #[true, true, true, true, false, false, false, false, false, false, false, false, false, false, false, false, false] rfl rfl (one_of HT_.out (by kernel_rfl)) (by decide) (fun K hK => ?_)
                        refine goes_ Try.func10 (by kernel_rfl) rfl #[.pointer (some ⟨g177, 0, none⟩), .int .u64 0, .int .u64 t166] (by rfl) rfl rfl (by (try simp only [List.map_toArray, List.map_cons, List.map_nil]); first | done | rfl | (simp only [List.length_drop, List.length_take]; rfl)) ?_
                        with_reducible refine (bucket_Bucket_Take.calls g177 x178000_27 x178001_27 x178002_27 x178003_27 0 t166 true t194 t195 t196 t197 w _ ?side1 ?side2 A64.out).mono ?_
                        (case side1 => repeat (first | (with_reducible first | exact HI177.out | apply IsS47.alloc | apply IsS47.drewN | apply IsS47.drew | apply IsS47.set_0 | apply IsS47.set_1 | apply IsS47.set_2 | apply IsS47.set_3 | refine IsS47.far ?_ NB177_144.out _ | refine IsS47.far ?_ NB177_150.out _ | refine IsS47.far ?_ NB177_172.out _) | exact HI177.out))
                        (case side2 => repeat (first | (with_reducible first | exact HB.out | apply below_alloc | apply pw_below_drewN | apply below_drew1 | refine below_set ?_ (IsS47.ge HI139.out) | refine below_set ?_ (IsS47.ge HI149.out) | refine below_set ?_ (IsS47.ge HI177.out) | refine below_set ?_ GE144.out | refine below_set ?_ GE150.out | refine below_set ?_ GE172.out) | exact HB.out))
                        rintro e w71 ⟨rfl, hi, hb, hk⟩
                        refine ⟨_, rfl, ?_⟩
                        have n0_ := Aside0.mk (KeepBut.blk hk (g' := gb144) (o := .cells #[.int .u64 t163, .int .u64 t164, .int .u64 t165, .int .u64 t166] 34 (0, 0)) (by (with_reducible repeat (first | refine blk_drewN ?_ _ | refine blk_drew ?_ | refine blk_alloc ?_ _)); exact BK144.out) NB144_177.out (by simp))
                        have n1_ := Aside0.mk (KeepBut.blk hk (g' := gb150) (o := .cells #[.int .u64 t140, .int .u64 t141, .int .u64 t142, .int .u64 t143] 34 (0, 0)) (by (with_reducible repeat (first | refine blk_drewN ?_ _ | refine blk_drew ?_ | refine blk_alloc ?_ _)); exact BK150.out) NB150_177.out (by simp))
                        have n2_ := Aside0.mk (KeepBut.blk hk (g' := gb172) (o := .cells #[.int .u64 t163, .int .u64 t164, .int .u64 t165, .int .u64 t166] 34 (0, 0)) (by (with_reducible repeat (first | refine blk_drewN ?_ _ | refine blk_drew ?_ | refine blk_alloc ?_ _)); exact BK172.out) NB172_177.out (by simp))
                        have n3_ := Aside0.mk (IsS47.keepG (by repeat (first | (with_reducible first | exact HI139.out | apply IsS47.alloc | apply IsS47.drewN | apply IsS47.drew | apply IsS47.set_0 | apply IsS47.set_1 | apply IsS47.set_2 | apply IsS47.set_3 | refine IsS47.far ?_ NB139_144.out _ | refine IsS47.far ?_ NB139_150.out _ | refine IsS47.far ?_ NB139_172.out _) | exact HI139.out)) hk NB139_177.out)
                        have n4_ := Aside0.mk (IsS47.keepG (by repeat (first | (with_reducible first | exact HI149.out | apply IsS47.alloc | apply IsS47.drewN | apply IsS47.drew | apply IsS47.set_0 | apply IsS47.set_1 | apply IsS47.set_2 | apply IsS47.set_3 | refine IsS47.far ?_ NB149_144.out _ | refine IsS47.far ?_ NB149_150.out _ | refine IsS47.far ?_ NB149_172.out _) | exact HI149.out)) hk NB149_177.out)
                        have n5_ := Aside0.mk (hb)
                        have n6_ := Aside0.mk (hi)
                        clear BK144
                        clear BK150
                        clear BK172
                        clear HI139
                        clear HI149
                        clear HB
                        clear HI177
                        have BK144 := n0_
                        have BK150 := n1_
                        have BK172 := n2_
                        have HI139 := n3_
                        have HI149 := n4_
                        have HB := n5_
                        have HI177 := n6_
                        clear n0_ n1_ n2_ n3_ n4_ n5_ n6_
                        (try clear hb)
                        (try clear hb2)
                        (try clear hk)
                        (try clear hi)
                        (try clear hge)
                        refine hK.out _ _ ⟨(blk_cell BK144.out 0).trans rfl, (blk_cell BK144.out 1).trans rfl, (blk_cell BK144.out 2).trans rfl, (blk_cell BK144.out 3).trans rfl⟩ (fun hHeld => ?_)
                        clear hK K
                        refine norm_ (a' := ?_) ?_ ?_
                        rotate_left
                        · show Act.put _ (some 79) _ = _
                          simp only [Act.put, List.setIfInBounds_toArray, List.set_cons_zero, List.set_cons_succ, i64_w, i32_w]
                          rfl
                        refine pure_ (i := 4) (N := some 80) (v := ?_) (a' := ?_) #[true, true, true, true, true, false, false, false, false, false, false, false, false, false, false, false, false] rfl rfl (any_of HT_.out (by kernel_rfl)) (fun _ _ _ h => h) (Or.inl ⟨by rfl, ?_⟩) ?_ ?_
                        rotate_left
                        · intro w'
                          go_simp
                          with_reducible rfl
                        rotate_left
                        · simp only [Act.put, List.setIfInBounds_toArray, List.set_cons_zero, List.set_cons_succ, i64_w, i32_w]
                          rfl
                        refine pure_ (i := 5) (N := some 81) (v := ?_) (a' := ?_) #[true, true, true, true, true, true, false, false, false, false, false, false, false, false, false, false, false] rfl rfl (any_of HT_.out (by kernel_rfl)) (fun _ _ _ h => h) (Or.inl ⟨by rfl, ?_⟩) ?_ ?_
                        rotate_left
                        · intro w'
                          go_simp
                          with_reducible rfl
                        rotate_left
                        · simp only [Act.put, List.setIfInBounds_toArray, List.set_cons_zero, List.set_cons_succ, i64_w, i32_w]
                          rfl
                        refine pure_ (i := 6) (N := some 82) (v := ?_) (a' := ?_) #[true, true, true, true, true, true, true, false, false, false, false, false, false, false, false, false, false] rfl rfl (any_of HT_.out (by kernel_rfl)) (fun _ _ _ h => h) (Or.inl ⟨by rfl, ?_⟩) ?_ ?_
                        rotate_left
                        · intro w'
                          go_simp
                          with_reducible rfl
                        rotate_left
                        · simp only [Act.put, List.setIfInBounds_toArray, List.set_cons_zero, List.set_cons_succ, i64_w, i32_w]
                          rfl
                        refine one_ (i := 7) (N := some 83) #[true, true, true, true, true, true, true, true, false, false, false, false, false, false, false, false, false] rfl rfl (one_of HT_.out (by kernel_rfl)) (by decide) (fun K hK => ?_)
                        refine goes_ Try.func11 (by kernel_rfl) rfl #[.pointer (some ⟨g177, 0, none⟩), .int .u64 0] (by rfl) rfl rfl (by (try simp only [List.map_toArray, List.map_cons, List.map_nil]); first | done | rfl | (simp only [List.length_drop, List.length_take]; rfl)) ?_
                        with_reducible refine (bucket_Bucket_Level.calls g177 t194 t195 t196 t197 0 t198 t199 t200 t201 t202 w _ ?side1 ?side2 A66.out).mono ?_
                        (case side1 => repeat (first | (with_reducible first | exact HI177.out | apply IsS47.alloc | apply IsS47.drewN | apply IsS47.drew | apply IsS47.set_0 | apply IsS47.set_1 | apply IsS47.set_2 | apply IsS47.set_3 | refine IsS47.far ?_ NB177_144.out _ | refine IsS47.far ?_ NB177_150.out _ | refine IsS47.far ?_ NB177_172.out _) | exact HI177.out))
                        (case side2 => repeat (first | (with_reducible first | exact HB.out | apply below_alloc | apply pw_below_drewN | apply below_drew1 | refine below_set ?_ (IsS47.ge HI139.out) | refine below_set ?_ (IsS47.ge HI149.out) | refine below_set ?_ (IsS47.ge HI177.out) | refine below_set ?_ GE144.out | refine below_set ?_ GE150.out | refine below_set ?_ GE172.out) | exact HB.out))
                        rintro e w72 ⟨rfl, hi, hb, hk⟩
                        refine ⟨_, rfl, ?_⟩
                        have n0_ := Aside0.mk (KeepBut.blk hk (g' := gb144) (o := .cells #[.int .u64 t163, .int .u64 t164, .int .u64 t165, .int .u64 t166] 34 (0, 0)) (by (with_reducible repeat (first | refine blk_drewN ?_ _ | refine blk_drew ?_ | refine blk_alloc ?_ _)); exact BK144.out) NB144_177.out (by simp))
                        have n1_ := Aside0.mk (KeepBut.blk hk (g' := gb150) (o := .cells #[.int .u64 t140, .int .u64 t141, .int .u64 t142, .int .u64 t143] 34 (0, 0)) (by (with_reducible repeat (first | refine blk_drewN ?_ _ | refine blk_drew ?_ | refine blk_alloc ?_ _)); exact BK150.out) NB150_177.out (by simp))
                        have n2_ := Aside0.mk (KeepBut.blk hk (g' := gb172) (o := .cells #[.int .u64 t163, .int .u64 t164, .int .u64 t165, .int .u64 t166] 34 (0, 0)) (by (with_reducible repeat (first | refine blk_drewN ?_ _ | refine blk_drew ?_ | refine blk_alloc ?_ _)); exact BK172.out) NB172_177.out (by simp))
                        have n3_ := Aside0.mk (IsS47.keepG (by repeat (first | (with_reducible first | exact HI139.out | apply IsS47.alloc | apply IsS47.drewN | apply IsS47.drew | apply IsS47.set_0 | apply IsS47.set_1 | apply IsS47.set_2 | apply IsS47.set_3 | refine IsS47.far ?_ NB139_144.out _ | refine IsS47.far ?_ NB139_150.out _ | refine IsS47.far ?_ NB139_172.out _) | exact HI139.out)) hk NB139_177.out)
                        have n4_ := Aside0.mk (IsS47.keepG (by repeat (first | (with_reducible first | exact HI149.out | apply IsS47.alloc | apply IsS47.drewN | apply IsS47.drew | apply IsS47.set_0 | apply IsS47.set_1 | apply IsS47.set_2 | apply IsS47.set_3 | refine IsS47.far ?_ NB149_144.out _ | refine IsS47.far ?_ NB149_150.out _ | refine IsS47.far ?_ NB149_172.out _) | exact HI149.out)) hk NB149_177.out)
                        have n5_ := Aside0.mk (hb)
                        have n6_ := Aside0.mk (hi)
                        clear BK144
                        clear BK150
                        clear BK172
                        clear HI139
                        clear HI149
                        clear HB
                        clear HI177
                        have BK144 := n0_
                        have BK150 := n1_
                        have BK172 := n2_
                        have HI139 := n3_
                        have HI149 := n4_
                        have HB := n5_
                        have HI177 := n6_
                        clear n0_ n1_ n2_ n3_ n4_ n5_ n6_
                        (try clear hb)
                        (try clear hb2)
                        (try clear hk)
                        (try clear hi)
                        (try clear hge)
                        refine hK.out _ _ ⟨(blk_cell BK144.out 0).trans rfl, (blk_cell BK144.out 1).trans rfl, (blk_cell BK144.out 2).trans rfl, (blk_cell BK144.out 3).trans rfl⟩ (fun hHeld => ?_)
                        clear hK K
                        refine norm_ (a' := ?_) ?_ ?_
                        rotate_left
                        · show Act.put _ (some 83) _ = _
                          simp only [Act.put, List.setIfInBounds_toArray, List.set_cons_zero, List.set_cons_succ, i64_w, i32_w]
                          rfl
                        refine pure_ (i := 8) (N := some 84) (v := ?_) (a' := ?_) #[true, true, true, true, true, true, true, true, true, false, false, false, false, false, false, false, false] rfl rfl (any_of HT_.out (by kernel_rfl)) (fun _ _ _ h => h) (Or.inl ⟨by rfl, ?_⟩) ?_ ?_
                        rotate_left
                        · intro w'
                          go_simp
                          with_reducible rfl
                        rotate_left
                        · simp only [Act.put, List.setIfInBounds_toArray, List.set_cons_zero, List.set_cons_succ, i64_w, i32_w]
                          rfl
                        refine pure_ (i := 9) (N := some 85) (v := ?_) (a' := ?_) #[true, true, true, true, true, true, true, true, true, true, false, false, false, false, false, false, false] rfl rfl (any_of HT_.out (by kernel_rfl)) (fun _ _ _ h => h) (Or.inl ⟨by rfl, ?_⟩) ?_ ?_
                        rotate_left
                        · intro w'
                          go_simp
                          with_reducible rfl
                        rotate_left
                        · simp only [Act.put, List.setIfInBounds_toArray, List.set_cons_zero, List.set_cons_succ, i64_w, i32_w]
                          rfl
                        refine pure_ (i := 10) (N := some 86) (v := ?_) (a' := ?_) #[true, true, true, true, true, true, true, true, true, true, true, false, false, false, false, false, false] rfl rfl (any_of HT_.out (by kernel_rfl)) (fun _ _ _ h => h) (Or.inl ⟨by rfl, ?_⟩) ?_ ?_
                        rotate_left
                        · intro w'
                          go_simp
                          with_reducible rfl
                        rotate_left
                        · simp only [Act.put, List.setIfInBounds_toArray, List.set_cons_zero, List.set_cons_succ, i64_w, i32_w]
                          rfl
                        refine pure_ (i := 11) (N := some 87) (v := ?_) (a' := ?_) #[true, true, true, true, true, true, true, true, true, true, true, true, false, false, false, false, false] rfl rfl (any_of HT_.out (by kernel_rfl)) (fun _ _ _ h => h) (Or.inl ⟨by rfl, ?_⟩) ?_ ?_
                        rotate_left
                        · intro w'
                          go_simp
                          with_reducible rfl
                        rotate_left
                        · simp only [Act.put, List.setIfInBounds_toArray, List.set_cons_zero, List.set_cons_succ, i64_w, i32_w]
                          rfl
                        refine pure_ (i := 13) (N := some 89) (v := ?_) (a' := ?_) #[true, true, true, true, true, true, true, true, true, true, true, true, false, true, false, false, false] rfl rfl (any_of HT_.out (by kernel_rfl)) (fun _ _ _ h => h) (Or.inl ⟨by rfl, ?_⟩) ?_ ?_
                        rotate_left
                        · intro w'
                          go_simp
                          with_reducible rfl
                        rotate_left
                        · simp only [Act.put, List.setIfInBounds_toArray, List.set_cons_zero, List.set_cons_succ, i64_w, i32_w]
                          rfl
                        refine take_ (i := 14) (N := some 90) (v := ?_) (a' := ?_) #[true, true, true, true, true, true, true, true, true, true, true, true, false, true, true, false, false] rfl rfl (take_ofW HT_.out HW_.out (by kernel_rfl)) (fun _ _ _ h => h) (Or.inl ⟨by rfl, ?_⟩) hHeld ?_ ?_
                        rotate_left
                        · rintro w' ⟨s0, s1, s2, s3⟩
                          go_simp
                          with_reducible rfl
                        rotate_left
                        · simp only [Act.put, List.setIfInBounds_toArray, List.set_cons_zero, List.set_cons_succ, i64_w, i32_w]
                          rfl
                        refine one_ (i := 12) (N := some 88) #[true, true, true, true, true, true, true, true, true, true, true, true, true, true, true, false, false] rfl rfl (one_of HT_.out (by kernel_rfl)) (by decide) (fun K hK => ?_)
                        refine goes_ Try.func11 (by kernel_rfl) rfl #[.pointer (some ⟨g139, 0, none⟩), .int .u64 0] (by rfl) rfl rfl (by (try simp only [List.map_toArray, List.map_cons, List.map_nil]); first | done | rfl | (simp only [List.length_drop, List.length_take]; rfl)) ?_
                        with_reducible refine (bucket_Bucket_Level.calls g139 x140000_27 x140001_27 x140002_27 x140003_27 0 t203 t204 t205 t206 t207 w _ ?side1 ?side2 A68.out).mono ?_
                        (case side1 => repeat (first | (with_reducible first | exact HI139.out | apply IsS47.alloc | apply IsS47.drewN | apply IsS47.drew | apply IsS47.set_0 | apply IsS47.set_1 | apply IsS47.set_2 | apply IsS47.set_3 | refine IsS47.far ?_ NB139_144.out _ | refine IsS47.far ?_ NB139_150.out _ | refine IsS47.far ?_ NB139_172.out _) | exact HI139.out))
                        (case side2 => repeat (first | (with_reducible first | exact HB.out | apply below_alloc | apply pw_below_drewN | apply below_drew1 | refine below_set ?_ (IsS47.ge HI139.out) | refine below_set ?_ (IsS47.ge HI149.out) | refine below_set ?_ (IsS47.ge HI177.out) | refine below_set ?_ GE144.out | refine below_set ?_ GE150.out | refine below_set ?_ GE172.out) | exact HB.out))
                        rintro e w73 ⟨rfl, hi, hb, hk⟩
                        refine ⟨_, rfl, ?_⟩
                        have n0_ := Aside0.mk (KeepBut.blk hk (g' := gb144) (o := .cells #[.int .u64 t163, .int .u64 t164, .int .u64 t165, .int .u64 t166] 34 (0, 0)) (by (with_reducible repeat (first | refine blk_drewN ?_ _ | refine blk_drew ?_ | refine blk_alloc ?_ _)); exact BK144.out) NB144_139.out (by simp))
                        have n1_ := Aside0.mk (KeepBut.blk hk (g' := gb150) (o := .cells #[.int .u64 t140, .int .u64 t141, .int .u64 t142, .int .u64 t143] 34 (0, 0)) (by (with_reducible repeat (first | refine blk_drewN ?_ _ | refine blk_drew ?_ | refine blk_alloc ?_ _)); exact BK150.out) NB150_139.out (by simp))
                        have n2_ := Aside0.mk (KeepBut.blk hk (g' := gb172) (o := .cells #[.int .u64 t163, .int .u64 t164, .int .u64 t165, .int .u64 t166] 34 (0, 0)) (by (with_reducible repeat (first | refine blk_drewN ?_ _ | refine blk_drew ?_ | refine blk_alloc ?_ _)); exact BK172.out) NB172_139.out (by simp))
                        have n3_ := Aside0.mk (IsS47.keepG (by repeat (first | (with_reducible first | exact HI149.out | apply IsS47.alloc | apply IsS47.drewN | apply IsS47.drew | apply IsS47.set_0 | apply IsS47.set_1 | apply IsS47.set_2 | apply IsS47.set_3 | refine IsS47.far ?_ NB149_144.out _ | refine IsS47.far ?_ NB149_150.out _ | refine IsS47.far ?_ NB149_172.out _) | exact HI149.out)) hk NB149_139.out)
                        have n4_ := Aside0.mk (IsS47.keepG (by repeat (first | (with_reducible first | exact HI177.out | apply IsS47.alloc | apply IsS47.drewN | apply IsS47.drew | apply IsS47.set_0 | apply IsS47.set_1 | apply IsS47.set_2 | apply IsS47.set_3 | refine IsS47.far ?_ NB177_144.out _ | refine IsS47.far ?_ NB177_150.out _ | refine IsS47.far ?_ NB177_172.out _) | exact HI177.out)) hk NB177_139.out)
                        have n5_ := Aside0.mk (hb)
                        have n6_ := Aside0.mk (hi)
                        clear BK144
                        clear BK150
                        clear BK172
                        clear HI149
                        clear HI177
                        clear HB
                        clear HI139
                        have BK144 := n0_
                        have BK150 := n1_
                        have BK172 := n2_
                        have HI149 := n3_
                        have HI177 := n4_
                        have HB := n5_
                        have HI139 := n6_
                        clear n0_ n1_ n2_ n3_ n4_ n5_ n6_
                        (try clear hb)
                        (try clear hb2)
                        (try clear hk)
                        (try clear hi)
                        (try clear hge)
                        refine hK.out _ _ ⟨(blk_cell BK144.out 0).trans rfl, (blk_cell BK144.out 1).trans rfl, (blk_cell BK144.out 2).trans rfl, (blk_cell BK144.out 3).trans rfl⟩ (fun hHeld => ?_)
                        clear hK K
                        refine norm_ (a' := ?_) ?_ ?_
                        rotate_left
                        · show Act.put _ (some 88) _ = _
                          simp only [Act.put, List.setIfInBounds_toArray, List.set_cons_zero, List.set_cons_succ, i64_w, i32_w]
                          rfl
                        refine pure_ (i := 15) (N := some 91) (v := ?_) (a' := ?_) #[true, true, true, true, true, true, true, true, true, true, true, true, true, true, true, true, false] rfl rfl (any_of HT_.out (by kernel_rfl)) (fun _ _ _ h => h) (Or.inl ⟨by rfl, ?_⟩) ?_ ?_
                        rotate_left
                        · intro w'
                          go_simp
                          with_reducible rfl
                        rotate_left
                        · simp only [Act.put, List.setIfInBounds_toArray, List.set_cons_zero, List.set_cons_succ, i64_w, i32_w]
                          rfl
                        refine pure_ (i := 16) (N := some 92) (v := ?_) (a' := ?_) #[true, true, true, true, true, true, true, true, true, true, true, true, true, true, true, true, true] rfl rfl (any_of HT_.out (by kernel_rfl)) (fun _ _ _ h => h) (Or.inl ⟨by rfl, ?_⟩) ?_ ?_
                        rotate_left
                        · intro w'
                          go_simp
                          with_reducible rfl
                        rotate_left
                        · simp only [Act.put, List.setIfInBounds_toArray, List.set_cons_zero, List.set_cons_succ, i64_w, i32_w]
                          rfl
                        refine done_ (done_of HT_.out (by kernel_rfl)) ?_
                        try go_wp2
                        go_roundg kj27
                        case measure => have := HK1.out; have := HJ27.out; omega
                        case rel => exact ⟨(wrap64 (x13_1 + 1)), (t204), (t205), (t206), (t207), (t163), (t164), (t165), (t166), (x150000_1), (x150001_1), (x150002_1), (x150003_1), (by first | rfl | (simp; done) | (simp [*]; done)), H', ⟨by have := HK1.out; have := HJ27.out; omega⟩, ⟨by (with_reducible repeat (first | refine blk_drewN ?_ _ | refine blk_drew ?_ | refine blk_alloc ?_ _)); exact BK144.out⟩, ⟨by (with_reducible repeat (first | refine blk_drewN ?_ _ | refine blk_drew ?_ | refine blk_alloc ?_ _)); exact BK150.out⟩, ⟨by repeat (first | (with_reducible first | exact HI139.out | apply IsS47.alloc | apply IsS47.drewN | apply IsS47.drew | apply IsS47.set_0 | apply IsS47.set_1 | apply IsS47.set_2 | apply IsS47.set_3 | refine IsS47.far ?_ NB139_144.out _ | refine IsS47.far ?_ NB139_150.out _ | refine IsS47.far ?_ NB139_172.out _) | exact HI139.out)⟩, ⟨by repeat (first | (with_reducible first | exact HI149.out | apply IsS47.alloc | apply IsS47.drewN | apply IsS47.drew | apply IsS47.set_0 | apply IsS47.set_1 | apply IsS47.set_2 | apply IsS47.set_3 | refine IsS47.far ?_ NB149_144.out _ | refine IsS47.far ?_ NB149_150.out _ | refine IsS47.far ?_ NB149_172.out _) | exact HI149.out)⟩, ⟨by repeat (first | (with_reducible first | exact HB.out | apply below_alloc | apply pw_below_drewN | apply below_drew1 | refine below_set ?_ (IsS47.ge HI139.out) | refine below_set ?_ (IsS47.ge HI149.out) | refine below_set ?_ (IsS47.ge HI177.out) | refine below_set ?_ GE144.out | refine below_set ?_ GE150.out | refine below_set ?_ GE172.out) | exact HB.out)⟩⟩
                      · rw [if_neg c69] at H
                        exact absurd H (by simp)
                    · rw [if_neg c67] at H
                      exact absurd H (by simp)
                  · replace c65 := Bool.eq_false_iff.mpr c65
                    subst c65
                    have H1 : (none) = some r := by rw [if_neg (show ¬ (false = true) by decide)] at H; exact H
                    clear H
                    have H := H1
                    clear H1
                    exact absurd H (by simp)
          · rw [if_neg c25] at H
            exact absurd H (by simp)
        · rw [if_neg c24] at H
          have c24b0 : decide (x13_1 < (l3.length : Int)) = false := decide_eq_false c24
          clear c24
          replace H := Option.bind_eq_some_iff.mp H
          obtain ⟨⟨t151, t152, t153, t154, t155⟩, A740, H⟩ := H
          replace H : (if t151 = t142 then ((bucket_Bucket_Level.f t152 t153 t154 t155 0).bind fun bt156 => (if bt156.1 = t143 then ((octroilaw10_works.f).bind fun t161 => (some t161)) else (none))) else (none)) = some r := H
          have A74 := Aside0.mk A740
          clear A740
          by_cases c75 : t151 = t142
          · rw [if_pos c75] at H
            have c75b0 : (t151 == t142) = true := beq_iff_eq.mpr c75
            have c75b1 : (t151 != t142) = false := bne_eq_false_iff_eq.mpr c75
            clear c75
            replace H := Option.bind_eq_some_iff.mp H
            obtain ⟨⟨t156, t157, t158, t159, t160⟩, A760, H⟩ := H
            replace H : (if t156 = t143 then ((octroilaw10_works.f).bind fun t161 => (some t161)) else (none)) = some r := H
            have A76 := Aside0.mk A760
            clear A760
            by_cases c77 : t156 = t143
            · rw [if_pos c77] at H
              have c77b0 : (t156 == t143) = true := beq_iff_eq.mpr c77
              have c77b1 : (t156 != t143) = false := bne_eq_false_iff_eq.mpr c77
              clear c77
              replace H := Option.bind_eq_some_iff.mp H
              obtain ⟨t161, A780, H⟩ := H
              replace H : (some t161) = some r := H
              have A78 := Aside0.mk A780
              clear A780
              obtain rfl := Option.some.inj H
              try go_wp2
              have n0_ := Aside0.mk (blk_drew BK144.out)
              have n1_ := Aside0.mk (blk_drew BK150.out)
              have n2_ := Aside0.mk (IsS47.drew HI139.out)
              have n3_ := Aside0.mk (IsS47.drew HI149.out)
              have n4_ := Aside0.mk (below_drew1 HB.out)
              clear BK144
              clear BK150
              clear HI139
              clear HI149
              clear HB
              have BK144 := n0_
              have BK150 := n1_
              have HI139 := n2_
              have HI149 := n3_
              have HB := n4_
              clear n0_ n1_ n2_ n3_ n4_
              refine start_ (n := 16) (S := fun w' => w'.cell? ⟨gb150, 0, none⟩ = some (.int .u64 t140) ∧ w'.cell? ⟨gb150, 1, none⟩ = some (.int .u64 t141) ∧ w'.cell? ⟨gb150, 2, none⟩ = some (.int .u64 t142) ∧ w'.cell? ⟨gb150, 3, none⟩ = some (.int .u64 t143)) (ds := []) #[false, false, false, false, false, false, false, false, false, false, false, false, false, false, false, false] (by kernel_rfl) rfl rfl ⟨(blk_cell BK150.out 0).trans rfl, (blk_cell BK150.out 1).trans rfl, (blk_cell BK150.out 2).trans rfl, (blk_cell BK150.out 3).trans rfl⟩ (fun hHeld => ?_); refine with_tabW octroilaw10_BucketPlays.tab17 octroilaw10_BucketPlays.bits17 (fun HT_ HW_ => ?_)
              generalize wr.drew = w79 at BK144 BK150 HI139 HI149 HB hHeld ⊢
              refine pure_ (i := 0) (N := some 93) (v := ?_) (a' := ?_) #[true, false, false, false, false, false, false, false, false, false, false, false, false, false, false, false] rfl rfl (any_of HT_.out (by kernel_rfl)) (fun _ _ _ h => h) (Or.inl ⟨by rfl, ?_⟩) ?_ ?_
              rotate_left
              · intro w'
                go_simp
                with_reducible rfl
              rotate_left
              · simp only [Act.put, List.setIfInBounds_toArray, List.set_cons_zero, List.set_cons_succ, i64_w, i32_w]
                rfl
              refine pure_ (i := 2) (N := some 95) (v := ?_) (a' := ?_) #[true, false, true, false, false, false, false, false, false, false, false, false, false, false, false, false] rfl rfl (any_of HT_.out (by kernel_rfl)) (fun _ _ _ h => h) (Or.inl ⟨by rfl, ?_⟩) ?_ ?_
              rotate_left
              · intro w'
                go_simp
                with_reducible rfl
              rotate_left
              · simp only [Act.put, List.setIfInBounds_toArray, List.set_cons_zero, List.set_cons_succ, i64_w, i32_w]
                rfl
              refine take_ (i := 3) (N := some 96) (v := ?_) (a' := ?_) #[true, false, true, true, false, false, false, false, false, false, false, false, false, false, false, false] rfl rfl (take_ofW HT_.out HW_.out (by kernel_rfl)) (fun _ _ _ h => h) (Or.inl ⟨by rfl, ?_⟩) hHeld ?_ ?_
              rotate_left
              · rintro w' ⟨s0, s1, s2, s3⟩
                go_simp
                with_reducible rfl
              rotate_left
              · simp only [Act.put, List.setIfInBounds_toArray, List.set_cons_zero, List.set_cons_succ, i64_w, i32_w]
                rfl
              refine one_ (i := 1) (N := some 94) #[true, true, true, true, false, false, false, false, false, false, false, false, false, false, false, false] rfl rfl (one_of HT_.out (by kernel_rfl)) (by decide) (fun K hK => ?_)
              refine goes_ Try.func15 (by kernel_rfl) rfl #[.pointer (some ⟨g149, 0, none⟩)] (by rfl) rfl rfl (by (try simp only [List.map_toArray, List.map_cons, List.map_nil]); first | done | rfl | (simp only [List.length_drop, List.length_take]; rfl)) ?_
              with_reducible refine (bucket_Bucket_Tick.calls g149 x150000_1 x150001_1 x150002_1 x150003_1 t151 t152 t153 t154 t155 w _ ?side1 ?side2 A74.out).mono ?_
              (case side1 => repeat (first | (with_reducible first | exact HI149.out | apply IsS47.alloc | apply IsS47.drewN | apply IsS47.drew | apply IsS47.set_0 | apply IsS47.set_1 | apply IsS47.set_2 | apply IsS47.set_3 | refine IsS47.far ?_ NB149_144.out _ | refine IsS47.far ?_ NB149_150.out _) | exact HI149.out))
              (case side2 => repeat (first | (with_reducible first | exact HB.out | apply below_alloc | apply pw_below_drewN | apply below_drew1 | refine below_set ?_ (IsS47.ge HI139.out) | refine below_set ?_ (IsS47.ge HI149.out) | refine below_set ?_ GE144.out | refine below_set ?_ GE150.out) | exact HB.out))
              rintro e w80 ⟨rfl, hi, hb, hk⟩
              refine ⟨_, rfl, ?_⟩
              have n0_ := Aside0.mk (KeepBut.blk hk (g' := gb144) (o := .cells #[.int .u64 x145000_1, .int .u64 x145001_1, .int .u64 x145002_1, .int .u64 x145003_1] 34 (0, 0)) (by (with_reducible repeat (first | refine blk_drewN ?_ _ | refine blk_drew ?_ | refine blk_alloc ?_ _)); exact BK144.out) NB144_149.out (by simp))
              have n1_ := Aside0.mk (KeepBut.blk hk (g' := gb150) (o := .cells #[.int .u64 t140, .int .u64 t141, .int .u64 t142, .int .u64 t143] 34 (0, 0)) (by (with_reducible repeat (first | refine blk_drewN ?_ _ | refine blk_drew ?_ | refine blk_alloc ?_ _)); exact BK150.out) NB150_149.out (by simp))
              have n2_ := Aside0.mk (IsS47.keepG (by repeat (first | (with_reducible first | exact HI139.out | apply IsS47.alloc | apply IsS47.drewN | apply IsS47.drew | apply IsS47.set_0 | apply IsS47.set_1 | apply IsS47.set_2 | apply IsS47.set_3 | refine IsS47.far ?_ NB139_144.out _ | refine IsS47.far ?_ NB139_150.out _) | exact HI139.out)) hk NB139_149.out)
              have n3_ := Aside0.mk (hb)
              have n4_ := Aside0.mk (hi)
              clear BK144
              clear BK150
              clear HI139
              clear HB
              clear HI149
              have BK144 := n0_
              have BK150 := n1_
              have HI139 := n2_
              have HB := n3_
              have HI149 := n4_
              clear n0_ n1_ n2_ n3_ n4_
              (try clear hb)
              (try clear hb2)
              (try clear hk)
              (try clear hi)
              (try clear hge)
              refine hK.out _ _ ⟨(blk_cell BK150.out 0).trans rfl, (blk_cell BK150.out 1).trans rfl, (blk_cell BK150.out 2).trans rfl, (blk_cell BK150.out 3).trans rfl⟩ (fun hHeld => ?_)
              clear hK K
              refine norm_ (a' := ?_) ?_ ?_
              rotate_left
              · show Act.put _ (some 94) _ = _
                simp only [Act.put, List.setIfInBounds_toArray, List.set_cons_zero, List.set_cons_succ, i64_w, i32_w]
                rfl
              refine pure_ (i := 4) (N := some 97) (v := ?_) (a' := ?_) #[true, true, true, true, true, false, false, false, false, false, false, false, false, false, false, false] rfl rfl (any_of HT_.out (by kernel_rfl)) (fun _ _ _ h => h) (Or.inl ⟨by rfl, ?_⟩) ?_ ?_
              rotate_left
              · intro w'
                go_simp
                with_reducible rfl
              rotate_left
              · simp only [Act.put, List.setIfInBounds_toArray, List.set_cons_zero, List.set_cons_succ, i64_w, i32_w]
                rfl
              refine pure_ (i := 5) (N := some 98) (v := ?_) (a' := ?_) #[true, true, true, true, true, true, false, false, false, false, false, false, false, false, false, false] rfl rfl (any_of HT_.out (by kernel_rfl)) (fun _ _ _ h => h) (Or.inl ⟨by rfl, ?_⟩) ?_ ?_
              rotate_left
              · intro w'
                go_simp
                with_reducible rfl
              rotate_left
              · simp only [Act.put, List.setIfInBounds_toArray, List.set_cons_zero, List.set_cons_succ, i64_w, i32_w]
                rfl
              refine pure_ (i := 6) (N := some 99) (v := ?_) (a' := ?_) #[true, true, true, true, true, true, true, false, false, false, false, false, false, false, false, false] rfl rfl (any_of HT_.out (by kernel_rfl)) (fun _ _ _ h => h) (Or.inl ⟨by rfl, ?_⟩) ?_ ?_
              rotate_left
              · intro w'
                go_simp
                with_reducible rfl
              rotate_left
              · simp only [Act.put, List.setIfInBounds_toArray, List.set_cons_zero, List.set_cons_succ, i64_w, i32_w]
                rfl
              refine pure_ (i := 8) (N := some 101) (v := ?_) (a' := ?_) #[true, true, true, true, true, true, true, false, true, false, false, false, false, false, false, false] rfl rfl (any_of HT_.out (by kernel_rfl)) (fun _ _ _ h => h) (Or.inl ⟨by rfl, ?_⟩) ?_ ?_
              rotate_left
              · intro w'
                go_simp
                with_reducible rfl
              rotate_left
              · simp only [Act.put, List.setIfInBounds_toArray, List.set_cons_zero, List.set_cons_succ, i64_w, i32_w]
                rfl
              refine take_ (i := 9) (N := some 102) (v := ?_) (a' := ?_) #[true, true, true, true, true, true, true, false, true, true, false, false, false, false, false, false] rfl rfl (take_ofW HT_.out HW_.out (by kernel_rfl)) (fun _ _ _ h => h) (Or.inl ⟨by rfl, ?_⟩) hHeld ?_ ?_
              rotate_left
              · rintro w' ⟨s0, s1, s2, s3⟩
                go_simp
                with_reducible rfl
              rotate_left
              · simp only [Act.put, List.setIfInBounds_toArray, List.set_cons_zero, List.set_cons_succ, i64_w, i32_w]
                rfl
              refine one_ (i := 7) (N := some 100) #[true, true, true, true, true, true, true, true, true, true, false, false, false, false, false, false] rfl rfl (one_of HT_.out (by kernel_rfl)) (by decide) (fun K hK => ?_)
              refine goes_ Try.func11 (by kernel_rfl) rfl #[.pointer (some ⟨g149, 0, none⟩), .int .u64 0] (by rfl) rfl rfl (by (try simp only [List.map_toArray, List.map_cons, List.map_nil]); first | done | rfl | (simp only [List.length_drop, List.length_take]; rfl)) ?_
              with_reducible refine (bucket_Bucket_Level.calls g149 t152 t153 t154 t155 0 t156 t157 t158 t159 t160 w _ ?side1 ?side2 A76.out).mono ?_
              (case side1 => repeat (first | (with_reducible first | exact HI149.out | apply IsS47.alloc | apply IsS47.drewN | apply IsS47.drew | apply IsS47.set_0 | apply IsS47.set_1 | apply IsS47.set_2 | apply IsS47.set_3 | refine IsS47.far ?_ NB149_144.out _ | refine IsS47.far ?_ NB149_150.out _) | exact HI149.out))
              (case side2 => repeat (first | (with_reducible first | exact HB.out | apply below_alloc | apply pw_below_drewN | apply below_drew1 | refine below_set ?_ (IsS47.ge HI139.out) | refine below_set ?_ (IsS47.ge HI149.out) | refine below_set ?_ GE144.out | refine below_set ?_ GE150.out) | exact HB.out))
              rintro e w81 ⟨rfl, hi, hb, hk⟩
              refine ⟨_, rfl, ?_⟩
              have n0_ := Aside0.mk (KeepBut.blk hk (g' := gb144) (o := .cells #[.int .u64 x145000_1, .int .u64 x145001_1, .int .u64 x145002_1, .int .u64 x145003_1] 34 (0, 0)) (by (with_reducible repeat (first | refine blk_drewN ?_ _ | refine blk_drew ?_ | refine blk_alloc ?_ _)); exact BK144.out) NB144_149.out (by simp))
              have n1_ := Aside0.mk (KeepBut.blk hk (g' := gb150) (o := .cells #[.int .u64 t140, .int .u64 t141, .int .u64 t142, .int .u64 t143] 34 (0, 0)) (by (with_reducible repeat (first | refine blk_drewN ?_ _ | refine blk_drew ?_ | refine blk_alloc ?_ _)); exact BK150.out) NB150_149.out (by simp))
              have n2_ := Aside0.mk (IsS47.keepG (by repeat (first | (with_reducible first | exact HI139.out | apply IsS47.alloc | apply IsS47.drewN | apply IsS47.drew | apply IsS47.set_0 | apply IsS47.set_1 | apply IsS47.set_2 | apply IsS47.set_3 | refine IsS47.far ?_ NB139_144.out _ | refine IsS47.far ?_ NB139_150.out _) | exact HI139.out)) hk NB139_149.out)
              have n3_ := Aside0.mk (hb)
              have n4_ := Aside0.mk (hi)
              clear BK144
              clear BK150
              clear HI139
              clear HB
              clear HI149
              have BK144 := n0_
              have BK150 := n1_
              have HI139 := n2_
              have HB := n3_
              have HI149 := n4_
              clear n0_ n1_ n2_ n3_ n4_
              (try clear hb)
              (try clear hb2)
              (try clear hk)
              (try clear hi)
              (try clear hge)
              refine hK.out _ _ ⟨(blk_cell BK150.out 0).trans rfl, (blk_cell BK150.out 1).trans rfl, (blk_cell BK150.out 2).trans rfl, (blk_cell BK150.out 3).trans rfl⟩ (fun hHeld => ?_)
              clear hK K
              refine norm_ (a' := ?_) ?_ ?_
              rotate_left
              · show Act.put _ (some 100) _ = _
                simp only [Act.put, List.setIfInBounds_toArray, List.set_cons_zero, List.set_cons_succ, i64_w, i32_w]
                rfl
              refine pure_ (i := 10) (N := some 103) (v := ?_) (a' := ?_) #[true, true, true, true, true, true, true, true, true, true, true, false, false, false, false, false] rfl rfl (any_of HT_.out (by kernel_rfl)) (fun _ _ _ h => h) (Or.inl ⟨by rfl, ?_⟩) ?_ ?_
              rotate_left
              · intro w'
                go_simp
                with_reducible rfl
              rotate_left
              · simp only [Act.put, List.setIfInBounds_toArray, List.set_cons_zero, List.set_cons_succ, i64_w, i32_w]
                rfl
              refine pure_ (i := 11) (N := some 104) (v := ?_) (a' := ?_) #[true, true, true, true, true, true, true, true, true, true, true, true, false, false, false, false] rfl rfl (any_of HT_.out (by kernel_rfl)) (fun _ _ _ h => h) (Or.inl ⟨by rfl, ?_⟩) ?_ ?_
              rotate_left
              · intro w'
                go_simp
                with_reducible rfl
              rotate_left
              · simp only [Act.put, List.setIfInBounds_toArray, List.set_cons_zero, List.set_cons_succ, i64_w, i32_w]
                rfl
              refine pure_ (i := 12) (N := some 105) (v := ?_) (a' := ?_) #[true, true, true, true, true, true, true, true, true, true, true, true, true, false, false, false] rfl rfl (any_of HT_.out (by kernel_rfl)) (fun _ _ _ h => h) (Or.inl ⟨by rfl, ?_⟩) ?_ ?_
              rotate_left
              · intro w'
                go_simp
                with_reducible rfl
              rotate_left
              · simp only [Act.put, List.setIfInBounds_toArray, List.set_cons_zero, List.set_cons_succ, i64_w, i32_w]
                rfl
              refine one_ (i := 13) (N := some 106) #[true, true, true, true, true, true, true, true, true, true, true, true, true, true, false, false] rfl rfl (one_of HT_.out (by kernel_rfl)) (by decide) (fun K hK => ?_)
              refine goes_ Try.func8 (by kernel_rfl) rfl #[] (by rfl) rfl rfl (by (try simp only [List.map_toArray, List.map_cons, List.map_nil]); first | done | rfl | (simp only [List.length_drop, List.length_take]; rfl)) ?_
              with_reducible refine (octroilaw10_works.calls  t161 _ A78.out).mono ?_
              rintro e w82 ⟨rfl, hb⟩
              refine ⟨_, rfl, ?_⟩
              have n0_ := Aside0.mk (blk_below (g := gb144) (o := .cells #[.int .u64 x145000_1, .int .u64 x145001_1, .int .u64 x145002_1, .int .u64 x145003_1] 34 (0, 0)) (by (with_reducible repeat (first | refine blk_drewN ?_ _ | refine blk_drew ?_ | refine blk_alloc ?_ _)); exact BK144.out) hb)
              have n1_ := Aside0.mk (blk_below (g := gb150) (o := .cells #[.int .u64 t140, .int .u64 t141, .int .u64 t142, .int .u64 t143] 34 (0, 0)) (by (with_reducible repeat (first | refine blk_drewN ?_ _ | refine blk_drew ?_ | refine blk_alloc ?_ _)); exact BK150.out) hb)
              have n2_ := Aside0.mk (IsS47.below (by repeat (first | (with_reducible first | exact HI139.out | apply IsS47.alloc | apply IsS47.drewN | apply IsS47.drew | apply IsS47.set_0 | apply IsS47.set_1 | apply IsS47.set_2 | apply IsS47.set_3 | refine IsS47.far ?_ NB139_144.out _ | refine IsS47.far ?_ NB139_150.out _) | exact HI139.out)) hb)
              have n3_ := Aside0.mk (IsS47.below (by repeat (first | (with_reducible first | exact HI149.out | apply IsS47.alloc | apply IsS47.drewN | apply IsS47.drew | apply IsS47.set_0 | apply IsS47.set_1 | apply IsS47.set_2 | apply IsS47.set_3 | refine IsS47.far ?_ NB149_144.out _ | refine IsS47.far ?_ NB149_150.out _) | exact HI149.out)) hb)
              have n4_ := Aside0.mk (below_step (by repeat (first | (with_reducible first | exact HB.out | apply below_alloc | apply pw_below_drewN | apply below_drew1 | refine below_set ?_ (IsS47.ge HI139.out) | refine below_set ?_ (IsS47.ge HI149.out) | refine below_set ?_ GE144.out | refine below_set ?_ GE150.out) | exact HB.out)) hb)
              clear BK144
              clear BK150
              clear HI139
              clear HI149
              clear HB
              have BK144 := n0_
              have BK150 := n1_
              have HI139 := n2_
              have HI149 := n3_
              have HB := n4_
              clear n0_ n1_ n2_ n3_ n4_
              (try clear hb)
              (try clear hb2)
              (try clear hk)
              (try clear hi)
              (try clear hge)
              refine hK.out _ _ ⟨(blk_cell BK150.out 0).trans rfl, (blk_cell BK150.out 1).trans rfl, (blk_cell BK150.out 2).trans rfl, (blk_cell BK150.out 3).trans rfl⟩ (fun hHeld => ?_)
              clear hK K
              refine norm_ (a' := ?_) ?_ ?_
              rotate_left
              · show Act.put _ (some 106) _ = _
                simp only [Act.put, List.setIfInBounds_toArray, List.set_cons_zero, List.set_cons_succ, i64_w, i32_w]
                rfl
              refine pure_ (i := 14) (N := some 107) (v := ?_) (a' := ?_) #[true, true, true, true, true, true, true, true, true, true, true, true, true, true, true, false] rfl rfl (any_of HT_.out (by kernel_rfl)) (fun _ _ _ h => h) (Or.inl ⟨by rfl, ?_⟩) ?_ ?_
              rotate_left
              · intro w'
                go_simp
                with_reducible rfl
              rotate_left
              · simp only [Act.put, List.setIfInBounds_toArray, List.set_cons_zero, List.set_cons_succ, i64_w, i32_w]
                rfl
              refine pure_ (i := 15) (N := some 8) (v := ?_) (a' := ?_) #[true, true, true, true, true, true, true, true, true, true, true, true, true, true, true, true] rfl rfl (any_of HT_.out (by kernel_rfl)) (fun _ _ _ h => h) (Or.inl ⟨by rfl, ?_⟩) ?_ ?_
              rotate_left
              · intro w'
                go_simp
                with_reducible rfl
              rotate_left
              · simp only [Act.put, List.setIfInBounds_toArray, List.set_cons_zero, List.set_cons_succ, i64_w, i32_w]
                rfl
              refine done_ (done_of HT_.out (by kernel_rfl)) ?_
              try go_wp2
              go_ret
              exact ⟨by first | rfl | (simp [errW_none, errW_some] <;> rfl) | (simp [*, errW_none, errW_some] <;> rfl), by repeat (first | (with_reducible first | exact HB.out | apply below_alloc | apply pw_below_drewN | apply below_drew1 | refine below_set ?_ (IsS47.ge HI139.out) | refine below_set ?_ (IsS47.ge HI149.out) | refine below_set ?_ GE144.out | refine below_set ?_ GE150.out) | exact HB.out)⟩
            · rw [if_neg c77] at H
              exact absurd H (by simp)
          · rw [if_neg c75] at H
            exact absurd H (by simp)

end Go.Proofs.Ytdaiabgdlopfiaa.K
