/- The Go functions that a law reaches, each with a Lean function of the same answers and its contract; no condition but that this function answers. Written by this session's program (over the kit's printer); Lean checks it. -/
import Derived.Test.YtdaiabgdlopfiaaDx0
import Derived.Test.YtdaiabgdlopfiaaDx1
import Derived.Test.YtdaiabgdlopfiaaDx2
import Derived.Deep.RegionHeld3
import Derived.Deep.DeepCutAuto
namespace Go.Proofs.Ytdaiabgdlopfiaa.D
open Go.Proofs.Ytdaiabgdlopfiaa.B (cells4 put4 far4 below4)
open Go.RowKit Go.Proofs.YtdaiabgdlopfiaaW.PrintWords Go.Proofs.YtdaiabgdlopfiaaW.PrintLast Go.Proofs.YtdaiabgdlopfiaaW.PrintMore
attribute [local go_sem] max2_int min2_int max_two min_two max_three min_three max_four min_four   -- for this text's walks alone
set_option linter.unusedVariables false
set_option linter.unusedSimpArgs false

/-! ### octroilaw10_BucketPlays: function 4 -/
mutual
def octroilaw10_BucketPlays.l0 : Nat → List (S40) → Int → Int → Int → Int → Int → Int → Int → Int → Int → Int → Int → Int → Int → Int → Int → Int → Int → Option (Bool)
  | 0, _, _, _, _, _, _, _, _, _, _, _, _, _, _, _, _, _, _ => none
  | k + 1, x3, x13, x151000, x151001, x151002, x151003, x156000, x156001, x156002, x156003, x161000, x161001, x161002, x161003, x162000, x162001, x162002, x162003 => if x13 < (x3.length : Int) then (if 0 ≤ x13 then ((octroilaw10_does.f k x151000 x151001 x151002 x151003 x156000 x156001 x156002 x156003 ((rd_T40 x3 x13).f0) ((rd_T40 x3 x13).f1) ((rd_T40 x3 x13).f2)).bind fun bt174 => ((bucket_Bucket_Copy.f bt174.2.2.2.2.2.1 bt174.2.2.2.2.2.2.1 bt174.2.2.2.2.2.2.2.1 bt174.2.2.2.2.2.2.2.2).bind fun bt184 => (if bt174.2.2.2.2.1 = true then ((bucket_Bucket_Tick.f bt174.2.2.2.2.2.1 bt174.2.2.2.2.2.2.1 bt174.2.2.2.2.2.2.2.1 bt174.2.2.2.2.2.2.2.2).bind fun bt189 => (if bt189.1 = bt174.2.2.1 then ((bucket_Bucket_Tick.f bt184.1 bt184.2.1 bt184.2.2.1 bt184.2.2.2).bind fun bt194 => (if bt194.1 = bt174.2.2.1 then ((bucket_Bucket_Level.f bt194.2.1 bt194.2.2.1 bt194.2.2.2.1 bt194.2.2.2.2 0).bind fun bt199 => (octroilaw10_BucketPlays.j1 k x3 x13 (bt199.1 != bt174.2.2.2.1) bt189.2.1 bt189.2.2.1 bt189.2.2.2.1 bt189.2.2.2.2 bt174.1 bt174.2.1 bt174.2.2.1 bt174.2.2.2.1 x161000 x161001 x161002 x161003 x162000 x162001 x162002 x162003 bt199.2.1 bt199.2.2.1 bt199.2.2.2.1 bt199.2.2.2.2)) else (octroilaw10_BucketPlays.j1 k x3 x13 true bt189.2.1 bt189.2.2.1 bt189.2.2.2.1 bt189.2.2.2.2 bt174.1 bt174.2.1 bt174.2.2.1 bt174.2.2.2.1 x161000 x161001 x161002 x161003 x162000 x162001 x162002 x162003 bt194.2.1 bt194.2.2.1 bt194.2.2.2.1 bt194.2.2.2.2))) else (octroilaw10_BucketPlays.j1 k x3 x13 true bt189.2.1 bt189.2.2.1 bt189.2.2.2.1 bt189.2.2.2.2 bt174.1 bt174.2.1 bt174.2.2.1 bt174.2.2.2.1 x161000 x161001 x161002 x161003 x162000 x162001 x162002 x162003 bt184.1 bt184.2.1 bt184.2.2.1 bt184.2.2.2))) else (octroilaw10_BucketPlays.j1 k x3 x13 true bt174.2.2.2.2.2.1 bt174.2.2.2.2.2.2.1 bt174.2.2.2.2.2.2.2.1 bt174.2.2.2.2.2.2.2.2 bt174.1 bt174.2.1 bt174.2.2.1 bt174.2.2.2.1 x161000 x161001 x161002 x161003 x162000 x162001 x162002 x162003 bt184.1 bt184.2.1 bt184.2.2.1 bt184.2.2.2)))) else (none)) else ((bucket_Bucket_Tick.f x161000 x161001 x161002 x161003).bind fun bt162 => (if bt162.1 = x162002 then ((bucket_Bucket_Level.f bt162.2.1 bt162.2.2.1 bt162.2.2.2.1 bt162.2.2.2.2 0).bind fun bt167 => (if bt167.1 = x162003 then ((octroilaw10_works.f).bind fun t172 => (some t172)) else (none))) else (none)))
def octroilaw10_BucketPlays.j1 : Nat → List (S40) → Int → Bool → Int → Int → Int → Int → Int → Int → Int → Int → Int → Int → Int → Int → Int → Int → Int → Int → Int → Int → Int → Int → Option (Bool)
  | 0, _, _, _, _, _, _, _, _, _, _, _, _, _, _, _, _, _, _, _, _, _, _, _ => none
  | k + 1, x3, x13, x75, x151000, x151001, x151002, x151003, x156000, x156001, x156002, x156003, x161000, x161001, x161002, x161003, x162000, x162001, x162002, x162003, x189000, x189001, x189002, x189003 => if x75 = true then (none) else ((bucket_Bucket_Take.f x189000 x189001 x189002 x189003 0 x156003).bind fun bt204 => (if bt204.1 = true then ((bucket_Bucket_Level.f bt204.2.1 bt204.2.2.1 bt204.2.2.2.1 bt204.2.2.2.2 0).bind fun bt209 => (if bt209.1 = 0 then ((bucket_Bucket_Level.f x151000 x151001 x151002 x151003 0).bind fun bt214 => (if bt214.1 = x156003 then (octroilaw10_BucketPlays.l0 k x3 (wrap64 (x13 + 1)) bt214.2.1 bt214.2.2.1 bt214.2.2.2.1 bt214.2.2.2.2 x156000 x156001 x156002 x156003 x161000 x161001 x161002 x161003 x162000 x162001 x162002 x162003) else (none))) else (none))) else (none)))
end
def octroilaw10_BucketPlays.f (k : Nat) (a0 : Int) (a1 : Int) (a2 : Int) (l3 : List (S40)) : Option (Bool) := if (l3.length : Int) > 60 then ((octroilaw10_works.f).bind fun t145 => (some t145)) else ((bucket_New.f a0 a1 a2).bind fun bt146 => ((octroiref10_New.f a0 a1 a2).bind fun bt151 => ((bucket_Bucket_Copy.f bt146.1 bt146.2.1 bt146.2.2.1 bt146.2.2.2).bind fun bt156 => (octroilaw10_BucketPlays.l0 k l3 0 bt146.1 bt146.2.1 bt146.2.2.1 bt146.2.2.2 bt151.1 bt151.2.1 bt151.2.2.1 bt151.2.2.2 bt156.1 bt156.2.1 bt156.2.2.1 bt156.2.2.2 bt151.1 bt151.2.1 bt151.2.2.1 bt151.2.2.2))))
theorem octroilaw10_BucketPlays.mono_l : ∀ k, (∀ y0 y1 y2 y3 y4 y5 y6 y7 y8 y9 y10 y11 y12 y13 y14 y15 y16 y17, LeO (octroilaw10_BucketPlays.l0 k y0 y1 y2 y3 y4 y5 y6 y7 y8 y9 y10 y11 y12 y13 y14 y15 y16 y17) (octroilaw10_BucketPlays.l0 (k + 1) y0 y1 y2 y3 y4 y5 y6 y7 y8 y9 y10 y11 y12 y13 y14 y15 y16 y17)) ∧ (∀ y0 y1 y2 y3 y4 y5 y6 y7 y8 y9 y10 y11 y12 y13 y14 y15 y16 y17 y18 y19 y20 y21 y22, LeO (octroilaw10_BucketPlays.j1 k y0 y1 y2 y3 y4 y5 y6 y7 y8 y9 y10 y11 y12 y13 y14 y15 y16 y17 y18 y19 y20 y21 y22) (octroilaw10_BucketPlays.j1 (k + 1) y0 y1 y2 y3 y4 y5 y6 y7 y8 y9 y10 y11 y12 y13 y14 y15 y16 y17 y18 y19 y20 y21 y22))
  | 0 => ⟨fun _ _ _ _ _ _ _ _ _ _ _ _ _ _ _ _ _ _ r h => by simp [octroilaw10_BucketPlays.l0] at h, fun _ _ _ _ _ _ _ _ _ _ _ _ _ _ _ _ _ _ _ _ _ _ _ r h => by simp [octroilaw10_BucketPlays.j1] at h⟩
  | k + 1 => by
    obtain ⟨ih0, ih1⟩ := octroilaw10_BucketPlays.mono_l k
    refine ⟨?_, ?_⟩
    · intro y0 y1 y2 y3 y4 y5 y6 y7 y8 y9 y10 y11 y12 y13 y14 y15 y16 y17
      unfold octroilaw10_BucketPlays.l0
      repeat' first
      | (with_reducible exact ih0 _ _ _ _ _ _ _ _ _ _ _ _ _ _ _ _ _ _)
      | (with_reducible exact ih1 _ _ _ _ _ _ _ _ _ _ _ _ _ _ _ _ _ _ _ _ _ _ _)
      | (with_reducible exact octroilaw10_does.mono _ _ _ _ _ _ _ _ _ _ _ _)
      | (with_reducible exact LeO.refl _)
      | (with_reducible exact LeO.none _)
      | (with_reducible refine LeO.ite ?_ ?_)
      | (with_reducible refine LeO.bind ?_ (fun _ => ?_))
      | exact ih0 _ _ _ _ _ _ _ _ _ _ _ _ _ _ _ _ _ _
      | exact ih1 _ _ _ _ _ _ _ _ _ _ _ _ _ _ _ _ _ _ _ _ _ _ _
      | exact octroilaw10_does.mono _ _ _ _ _ _ _ _ _ _ _ _
      | exact LeO.none _
      | refine LeO.ite ?_ ?_
      | refine LeO.bind ?_ (fun _ => ?_)
    · intro y0 y1 y2 y3 y4 y5 y6 y7 y8 y9 y10 y11 y12 y13 y14 y15 y16 y17 y18 y19 y20 y21 y22
      unfold octroilaw10_BucketPlays.j1
      repeat' first
      | (with_reducible exact ih0 _ _ _ _ _ _ _ _ _ _ _ _ _ _ _ _ _ _)
      | (with_reducible exact ih1 _ _ _ _ _ _ _ _ _ _ _ _ _ _ _ _ _ _ _ _ _ _ _)
      | (with_reducible exact octroilaw10_does.mono _ _ _ _ _ _ _ _ _ _ _ _)
      | (with_reducible exact LeO.refl _)
      | (with_reducible exact LeO.none _)
      | (with_reducible refine LeO.ite ?_ ?_)
      | (with_reducible refine LeO.bind ?_ (fun _ => ?_))
      | exact ih0 _ _ _ _ _ _ _ _ _ _ _ _ _ _ _ _ _ _
      | exact ih1 _ _ _ _ _ _ _ _ _ _ _ _ _ _ _ _ _ _ _ _ _ _ _
      | exact octroilaw10_does.mono _ _ _ _ _ _ _ _ _ _ _ _
      | exact LeO.none _
      | refine LeO.ite ?_ ?_
      | refine LeO.bind ?_ (fun _ => ?_)
theorem octroilaw10_BucketPlays.mono : ∀ a0 a1 a2 a3 k, LeO (octroilaw10_BucketPlays.f k a0 a1 a2 a3) (octroilaw10_BucketPlays.f (k + 1) a0 a1 a2 a3) := by
  intro a0 a1 a2 a3 k
  obtain ⟨ih0, ih1⟩ := octroilaw10_BucketPlays.mono_l k
  unfold octroilaw10_BucketPlays.f
  repeat' first
      | (with_reducible exact ih0 _ _ _ _ _ _ _ _ _ _ _ _ _ _ _ _ _ _)
      | (with_reducible exact ih1 _ _ _ _ _ _ _ _ _ _ _ _ _ _ _ _ _ _ _ _ _ _ _)
      | (with_reducible exact octroilaw10_does.mono _ _ _ _ _ _ _ _ _ _ _ _)
      | (with_reducible exact LeO.refl _)
      | (with_reducible exact LeO.none _)
      | (with_reducible refine LeO.ite ?_ ?_)
      | (with_reducible refine LeO.bind ?_ (fun _ => ?_))
      | exact ih0 _ _ _ _ _ _ _ _ _ _ _ _ _ _ _ _ _ _
      | exact ih1 _ _ _ _ _ _ _ _ _ _ _ _ _ _ _ _ _ _ _ _ _ _ _
      | exact octroilaw10_does.mono _ _ _ _ _ _ _ _ _ _ _ _
      | exact LeO.none _
      | refine LeO.ite ?_ ?_
      | refine LeO.bind ?_ (fun _ => ?_)
def octroilaw10_BucketPlays.T10 : Bool × List (List Nat × List Nat) := (true, [([], []), ([], []), ([], []), ([], []), ([2, 3], [2, 3]), ([4], [4]), ([0, 1, 5], [0, 1, 5]), ([6], [6]), ([7], [7]), ([7], [7]), ([], []), ([10, 8, 6, 0, 1, 2, 3, 4, 5, 6, 7, 8, 10], [8, 10]), ([9, 11, 0, 1, 2, 3, 4, 5, 6, 7, 8, 9, 10, 11], [9])])
def octroilaw10_BucketPlays.B10 : List Nat := [0, 0, 0, 0, 12, 28, 63, 127, 255, 255, 0, 1535, 4095]
theorem octroilaw10_BucketPlays.tab10 : rtab .any (opsOf Try.f4 10) = octroilaw10_BucketPlays.T10 := by kernel_rfl
theorem octroilaw10_BucketPlays.bits10 : waitsOk octroilaw10_BucketPlays.T10.2 octroilaw10_BucketPlays.B10 = true := by kernel_rfl
def octroilaw10_BucketPlays.T13 : Bool × List (List Nat × List Nat) := (true, [([], []), ([0], [0]), ([1], [1]), ([2], [2]), ([3, 2, 2], [2, 3]), ([2], [2]), ([5, 2], [2, 5]), ([4, 6, 2], [2, 4, 6]), ([2, 7], [2, 7]), ([8, 4], [8]), ([9], [9]), ([10, 9, 9], [9, 10]), ([9], [9]), ([12, 9], [9, 12]), ([11, 13, 9], [9, 11, 13]), ([9, 14], [9, 14]), ([15, 11], [15]), ([16], [16]), ([17, 16, 16], [16, 17]), ([16], [16]), ([19, 16], [16, 19]), ([18, 20, 16], [16, 18, 20]), ([16, 21], [16, 21])])
def octroilaw10_BucketPlays.B13 : List Nat := [0, 1, 3, 7, 15, 7, 39, 127, 255, 511, 1023, 2047, 1023, 5119, 16383, 32767, 65535, 131071, 262143, 131071, 655359, 2097151, 4194303]
theorem octroilaw10_BucketPlays.tab13 : rtab .any (opsOf Try.f4 13) = octroilaw10_BucketPlays.T13 := by kernel_rfl
theorem octroilaw10_BucketPlays.bits13 : waitsOk octroilaw10_BucketPlays.T13.2 octroilaw10_BucketPlays.B13 = true := by kernel_rfl
def octroilaw10_BucketPlays.T15 : Bool × List (List Nat × List Nat) := (true, [([], []), ([], []), ([1], [1]), ([0, 2], [0, 2]), ([3], [3]), ([4, 3], [4]), ([5], [5]), ([6, 5, 5], [5, 6]), ([7, 5], [5, 7]), ([5, 8], [5, 8]), ([9, 7], [9]), ([10], [10]), ([11, 10, 10], [10, 11]), ([10], [10]), ([13, 10], [10, 13]), ([12, 14, 10], [10, 12, 14]), ([10, 15], [10, 15])])
def octroilaw10_BucketPlays.B15 : List Nat := [0, 0, 2, 7, 15, 31, 63, 127, 255, 511, 1023, 2047, 4095, 2047, 10239, 32767, 65535]
theorem octroilaw10_BucketPlays.tab15 : rtab .any (opsOf Try.f4 15) = octroilaw10_BucketPlays.T15 := by kernel_rfl
theorem octroilaw10_BucketPlays.bits15 : waitsOk octroilaw10_BucketPlays.T15.2 octroilaw10_BucketPlays.B15 = true := by kernel_rfl
def octroilaw10_BucketPlays.T17 : Bool × List (List Nat × List Nat) := (true, [([], []), ([0], [0]), ([], []), ([2], [2]), ([1, 3], [1, 3]), ([4, 1], [4]), ([5], [5]), ([6, 5, 5], [5, 6]), ([5], [5]), ([8, 5], [5, 8]), ([7, 9, 5], [5, 7, 9]), ([5, 10], [5, 10]), ([11, 7], [11]), ([12, 12], [12]), ([12, 13], [12, 13]), ([14, 13, 0, 1, 2, 3, 4, 5, 6, 7, 8, 9, 10, 11, 12, 13, 14], [14])])
def octroilaw10_BucketPlays.B17 : List Nat := [0, 1, 0, 4, 15, 31, 63, 127, 63, 319, 1023, 2047, 4095, 8191, 16383, 32767]
theorem octroilaw10_BucketPlays.tab17 : rtab .any (opsOf Try.f4 17) = octroilaw10_BucketPlays.T17 := by kernel_rfl
theorem octroilaw10_BucketPlays.bits17 : waitsOk octroilaw10_BucketPlays.T17.2 octroilaw10_BucketPlays.B17 = true := by kernel_rfl
theorem copyB (g : Nat) (s0_0 s0_1 s0_2 s0_3 : Int) (r1 r2 r3 r4 : Int) (w0 W : World) (n : Nat) (hn : W.heap.size = n) (hI : IsS47 w0 (W.alloc (.cells #[.int .u64 0, .int .u64 0, .int .u64 0, .int .u64 0] 34)) g s0_0 s0_1 s0_2 s0_3) (hB : Below w0.heap.size w0 (W.alloc (.cells #[.int .u64 0, .int .u64 0, .int .u64 0, .int .u64 0] 34))) (h : bucket_Bucket_Copy.f s0_0 s0_1 s0_2 s0_3 = some (r1, r2, r3, r4)) :
    Calls Try.prog 13 #[.pointer (some ⟨g, 0, none⟩)] (W.alloc (.cells #[.int .u64 0, .int .u64 0, .int .u64 0, .int .u64 0] 34)) fun e w' => ∃ g', e = .returned (.pointer (some ⟨g', 0, none⟩)) ∧ IsS47 w0 w' g' r1 r2 r3 r4 ∧ Below w0.heap.size w0 w' ∧ Below (W.alloc (.cells #[.int .u64 0, .int .u64 0, .int .u64 0, .int .u64 0] 34)).heap.size (W.alloc (.cells #[.int .u64 0, .int .u64 0, .int .u64 0, .int .u64 0] 34)) w' ∧ (W.alloc (.cells #[.int .u64 0, .int .u64 0, .int .u64 0, .int .u64 0] 34)).heap.size ≤ g' ∧
      w'.cell? ⟨n, 0, none⟩ = some (.int .u64 0) ∧ w'.cell? ⟨n, 1, none⟩ = some (.int .u64 0) ∧ w'.cell? ⟨n, 2, none⟩ = some (.int .u64 0) ∧ w'.cell? ⟨n, 3, none⟩ = some (.int .u64 0) ∧
      w'.frozen? ⟨n, 0, none⟩ = false ∧ w'.frozen? ⟨n, 1, none⟩ = false ∧ w'.frozen? ⟨n, 2, none⟩ = false ∧ w'.frozen? ⟨n, 3, none⟩ = false := by
  subst hn
  refine (bucket_Bucket_Copy.calls g s0_0 s0_1 s0_2 s0_3 r1 r2 r3 r4 w0 _ hI hB h).mono ?_
  rintro e w' ⟨g', he, hi, hb, hb2, hg⟩
  obtain ⟨⟨z0, z1, z2, z3⟩, y0, y1, y2, y3⟩ := cells4 (blk_below (blk_new W _) hb2)
  exact ⟨g', he, hi, hb, hb2, hg, z0, z1, z2, z3, y0, y1, y2, y3⟩
set_option maxHeartbeats 8000000 in
set_option maxRecDepth 100000 in
theorem octroilaw10_BucketPlays.calls (k : Nat) (a0 : Int) (a1 : Int) (a2 : Int) (A3 : Option Addr) (c3 : Nat) (l3 : List (S40)) (r : Bool) (w : World) (hr3 : Kd.C k40 w A3 l3.length l3) (hc3 : l3.length ≤ c3) (h : octroilaw10_BucketPlays.f k a0 a1 a2 l3 = some r) :
    Calls Try.prog 4 #[.int .u64 a0, .int .u64 a1, .int .u64 a2, .slice A3 l3.length c3] w fun e w' => e = .returned (.bool r) ∧ Below w.heap.size w w' := by
  have hu34 := Try.underlying34
  have hu40 := Try.underlying40
  have HR3 := Aside0.mk hr3
  have HC3 := Aside0.mk hc3
  clear hr3 hc3
  have HB := Aside0.mk (Below.refl w.heap.size w)
  have H : (if (l3.length : Int) > 60 then ((octroilaw10_works.f).bind fun t145 => (some t145)) else ((bucket_New.f a0 a1 a2).bind fun bt146 => ((octroiref10_New.f a0 a1 a2).bind fun bt151 => ((bucket_Bucket_Copy.f bt146.1 bt146.2.1 bt146.2.2.1 bt146.2.2.2).bind fun bt156 => (octroilaw10_BucketPlays.l0 k l3 0 bt146.1 bt146.2.1 bt146.2.2.1 bt146.2.2.2 bt151.1 bt151.2.1 bt151.2.2.1 bt151.2.2.2 bt156.1 bt156.2.1 bt156.2.2.1 bt156.2.2.2 bt151.1 bt151.2.1 bt151.2.2.1 bt151.2.2.2))))) = some r := h
  clear h
  by_cases c5 : (l3.length : Int) > 60
  · rw [if_pos c5] at H
    have c5b0 : decide (60 < (l3.length : Int)) = true := decide_eq_true c5
    have c5b1 : decide (60 < l3.length) = true := decide_eq_true (by omega)
    clear c5
    replace H := Option.bind_eq_some_iff.mp H
    obtain ⟨t145, A60, H⟩ := H
    replace H : (some t145) = some r := H
    have A6 := Aside0.mk A60
    clear A60
    obtain rfl := Option.some.inj H
    go_enter Try.func4, Try.ntmps4
    go_wp2_with (first | ((with_reducible refine gate_callee (f := 8) rfl ?_); refine goesL_ (some 20) rfl rfl Try.func8 (by kernel_rfl) rfl #[] rfl (by (try simp only [List.map_toArray, List.map_cons, List.map_nil]); first | done | rfl | (simp only [List.length_drop, List.length_take]; rfl)) ?_; (with_reducible refine (octroilaw10_works.calls  t145 _ A6.out).mono ?_); rintro e w7 ⟨rfl, hb⟩; refine ⟨_, rfl, ?_⟩; have n0_ := Aside0.mk (below_step (by repeat (first | (with_reducible first | exact HB.out | apply below_alloc | apply pw_below_drewN | apply below_drew1) | exact HB.out)) hb); clear HB; have HB := n0_; clear n0_; (try clear hb); (try clear hb2); (try clear hk); (try clear hi); (try clear hge)))
    go_ret
    exact ⟨by first | rfl | (simp [errW_none, errW_some] <;> rfl) | (simp [*, errW_none, errW_some] <;> rfl), by repeat (first | (with_reducible first | exact HB.out | apply below_alloc | apply pw_below_drewN | apply below_drew1) | exact HB.out)⟩
  · rw [if_neg c5] at H
    have c5b0 : decide (60 < (l3.length : Int)) = false := decide_eq_false c5
    have c5b1 : decide (60 < l3.length) = false := decide_eq_false (by omega)
    clear c5
    replace H := Option.bind_eq_some_iff.mp H
    obtain ⟨⟨t146, t147, t148, t149⟩, A80, H⟩ := H
    replace H : ((octroiref10_New.f a0 a1 a2).bind fun bt151 => ((bucket_Bucket_Copy.f t146 t147 t148 t149).bind fun bt156 => (octroilaw10_BucketPlays.l0 k l3 0 t146 t147 t148 t149 bt151.1 bt151.2.1 bt151.2.2.1 bt151.2.2.2 bt156.1 bt156.2.1 bt156.2.2.1 bt156.2.2.2 bt151.1 bt151.2.1 bt151.2.2.1 bt151.2.2.2))) = some r := H
    have A8 := Aside0.mk A80
    clear A80
    replace H := Option.bind_eq_some_iff.mp H
    obtain ⟨⟨t151, t152, t153, t154⟩, A90, H⟩ := H
    replace H : ((bucket_Bucket_Copy.f t146 t147 t148 t149).bind fun bt156 => (octroilaw10_BucketPlays.l0 k l3 0 t146 t147 t148 t149 t151 t152 t153 t154 bt156.1 bt156.2.1 bt156.2.2.1 bt156.2.2.2 t151 t152 t153 t154)) = some r := H
    have A9 := Aside0.mk A90
    clear A90
    replace H := Option.bind_eq_some_iff.mp H
    obtain ⟨⟨t156, t157, t158, t159⟩, A100, H⟩ := H
    replace H : (octroilaw10_BucketPlays.l0 k l3 0 t146 t147 t148 t149 t151 t152 t153 t154 t156 t157 t158 t159 t151 t152 t153 t154) = some r := H
    have A10 := Aside0.mk A100
    clear A100
    have H' := Aside0.mk H
    clear H
    go_enter Try.func4, Try.ntmps4
    go_upto_region 6 with (first | ((with_reducible refine gate_callee (f := 9) rfl ?_); refine goesL_ (some 24) rfl rfl Try.func9 (by kernel_rfl) rfl #[.int .u64 a0, .int .u64 a1, .int .u64 a2] rfl (by (try simp only [List.map_toArray, List.map_cons, List.map_nil]); first | done | rfl | (simp only [List.length_drop, List.length_take]; rfl)) ?_; (with_reducible refine (bucket_New.calls a0 a1 a2 t146 t147 t148 t149 w _ ?side1 A8.out).mono ?_); (case side1 => repeat (first | (with_reducible first | exact HB.out | apply below_alloc | apply pw_below_drewN | apply below_drew1) | exact HB.out)); rintro e w11 ⟨g150, rfl, hi, hb, hb2⟩; refine ⟨_, rfl, ?_⟩; have n0_ := Aside0.mk (hb); have n1_ := Aside0.mk (hi); clear HB; have HB := n0_; have HI150 := n1_; clear n0_ n1_; (try clear hb); (try clear hb2); (try clear hk); (try clear hi); (try clear hge)) | ((with_reducible refine gate_callee (f := 12) rfl ?_); refine goesL_ (some 28) rfl rfl Try.func12 (by kernel_rfl) rfl #[.int .u64 a0, .int .u64 a1, .int .u64 a2] rfl (by (try simp only [List.map_toArray, List.map_cons, List.map_nil]); first | done | rfl | (simp only [List.length_drop, List.length_take]; rfl)) ?_; (with_reducible refine (octroiref10_New.calls a0 a1 a2 t151 t152 t153 t154 _ A9.out).mono ?_); rintro e w12 ⟨rfl, hb⟩; refine ⟨_, rfl, ?_⟩; have n0_ := Aside0.mk (IsS47.below (by repeat (first | (with_reducible first | exact HI150.out | apply IsS47.alloc | apply IsS47.drewN | apply IsS47.drew | apply IsS47.set_0 | apply IsS47.set_1 | apply IsS47.set_2 | apply IsS47.set_3) | exact HI150.out)) hb); have n1_ := Aside0.mk (below_step (by repeat (first | (with_reducible first | exact HB.out | apply below_alloc | apply pw_below_drewN | apply below_drew1 | refine below_set ?_ (IsS47.ge HI150.out)) | exact HB.out)) hb); clear HI150; clear HB; have HI150 := n0_; have HB := n1_; clear n0_ n1_; (try clear hb); (try clear hb2); (try clear hk); (try clear hi); (try clear hge)) | ((with_reducible refine gate_dst (N := 10) rfl ?_); refine box_event ?hg (N := 10) ?hd (cs := #[.int .u64 0, .int .u64 0, .int .u64 0, .int .u64 0]) (t := 34) ?hr ?_; (case hd => rfl); (case hg => rfl); (case hr => first | (go_simp; done) | (go_simp; rfl)); intro gb155 hg w13 hbox hb; have n0_ := Aside0.mk (IsS47.below (by repeat (first | (with_reducible first | exact HI150.out | apply IsS47.alloc | apply IsS47.drewN | apply IsS47.drew | apply IsS47.set_0 | apply IsS47.set_1 | apply IsS47.set_2 | apply IsS47.set_3) | exact HI150.out)) hb); have n1_ := Aside0.mk (below_step (by repeat (first | (with_reducible first | exact HB.out | apply below_alloc | apply pw_below_drewN | apply below_drew1 | refine below_set ?_ (IsS47.ge HI150.out)) | exact HB.out)) hb); have n2_ := Aside0.mk (hbox); have n3_ := Aside0.mk ((by rw [hg]; exact (below_size (by repeat (first | (with_reducible first | exact HB.out | apply below_alloc | apply pw_below_drewN | apply below_drew1 | refine below_set ?_ (IsS47.ge HI150.out)) | exact HB.out))) : w.heap.size ≤ gb155)); have n4_ := Aside0.mk ((by rw [hg]; exact (below_size (by repeat (first | (with_reducible first | exact HB.out | apply below_alloc | apply pw_below_drewN | apply below_drew1 | refine below_set ?_ (IsS47.ge HI150.out)) | exact HB.out))) : w.heap.size ≤ gb155)); have n5_ := Aside0.mk ((by rw [hg]; exact Nat.ne_of_lt (IsS47.lt (show IsS47 w _ g150 t146 t147 t148 t149 from by repeat (first | (with_reducible first | exact HI150.out | apply IsS47.alloc | apply IsS47.drewN | apply IsS47.drew | apply IsS47.set_0 | apply IsS47.set_1 | apply IsS47.set_2 | apply IsS47.set_3) | exact HI150.out))) : g150 ≠ gb155)); have n6_ := Aside0.mk ((by rw [hg]; exact Nat.ne_of_gt (IsS47.lt (show IsS47 w _ g150 t146 t147 t148 t149 from by repeat (first | (with_reducible first | exact HI150.out | apply IsS47.alloc | apply IsS47.drewN | apply IsS47.drew | apply IsS47.set_0 | apply IsS47.set_1 | apply IsS47.set_2 | apply IsS47.set_3) | exact HI150.out))) : gb155 ≠ g150)); clear HI150; clear HB; have HI150 := n0_; have HB := n1_; have BK155 := n2_; have GW155 := n3_; have GE155 := n4_; have NB150_155 := n5_; have NB155_150 := n6_; clear n0_ n1_ n2_ n3_ n4_ n5_ n6_; clear hb hbox hg; have hnb14 := NB155_150.out; have hnc14 := NB150_155.out; have hcz15_0 : w13.cell? ⟨gb155, 0, none⟩ = some (.int .u64 0) := (blk_cell BK155.out 0).trans rfl; have hcz15_1 : w13.cell? ⟨gb155, 1, none⟩ = some (.int .u64 0) := (blk_cell BK155.out 1).trans rfl; have hcz15_2 : w13.cell? ⟨gb155, 2, none⟩ = some (.int .u64 0) := (blk_cell BK155.out 2).trans rfl; have hcz15_3 : w13.cell? ⟨gb155, 3, none⟩ = some (.int .u64 0) := (blk_cell BK155.out 3).trans rfl; have hfz15_0 := blk_frozen BK155.out 0; have hfz15_1 := blk_frozen BK155.out 1; have hfz15_2 := blk_frozen BK155.out 2; have hfz15_3 := blk_frozen BK155.out 3))
    have HI6 := Aside0.mk (show IsS47 w ((((w13.setCell ⟨gb155, 0, none⟩ (.int .u64 t151)).setCell ⟨gb155, 1, none⟩ (.int .u64 t152)).setCell ⟨gb155, 2, none⟩ (.int .u64 t153)).setCell ⟨gb155, 3, none⟩ (.int .u64 t154)) g150 t146 t147 t148 t149 from by repeat (first | (with_reducible first | exact HI150.out | refine IsS47.far ?_ NB150_155.out _) | exact HI150.out))
    have BK6 := Aside0.mk (show ((((w13.setCell ⟨gb155, 0, none⟩ (.int .u64 t151)).setCell ⟨gb155, 1, none⟩ (.int .u64 t152)).setCell ⟨gb155, 2, none⟩ (.int .u64 t153)).setCell ⟨gb155, 3, none⟩ (.int .u64 t154)).heap[gb155]? = some (.cells #[.int .u64 t151, .int .u64 t152, .int .u64 t153, .int .u64 t154] 34 (0, 0)) from put4 BK155.out)
    have HB6 := Aside0.mk (show Below w.heap.size w ((((w13.setCell ⟨gb155, 0, none⟩ (.int .u64 t151)).setCell ⟨gb155, 1, none⟩ (.int .u64 t152)).setCell ⟨gb155, 2, none⟩ (.int .u64 t153)).setCell ⟨gb155, 3, none⟩ (.int .u64 t154)) from by repeat (first | (with_reducible first | exact HB.out | refine below_set ?_ GE155.out) | exact HB.out))
    have NC150_155 := Aside0.mk NB150_155.out
    clear HI150 BK155 HB hnb14 hnc14 hcz15_0 hcz15_1 hcz15_2 hcz15_3 hfz15_0 hfz15_1 hfz15_2 hfz15_3
    generalize ((((w13.setCell ⟨gb155, 0, none⟩ (.int .u64 t151)).setCell ⟨gb155, 1, none⟩ (.int .u64 t152)).setCell ⟨gb155, 2, none⟩ (.int .u64 t153)).setCell ⟨gb155, 3, none⟩ (.int .u64 t154)) = w14 at HI6 BK6 HB6 ⊢
    go_cut [11, 12] (fun v11 v12 wc => ∃ (g160 gb161 : Nat), v11 = .pointer (some ⟨g160, 0, none⟩) ∧ v12 = .pointer (some ⟨gb161, 0, none⟩) ∧ Aside0 (wc.heap[gb155]? = some (.cells #[.int .u64 t151, .int .u64 t152, .int .u64 t153, .int .u64 t154] 34 (0, 0))) ∧ Aside0 (wc.heap[gb161]? = some (.cells #[.int .u64 t151, .int .u64 t152, .int .u64 t153, .int .u64 t154] 34 (0, 0))) ∧ Aside0 (IsS47 w wc g150 t146 t147 t148 t149) ∧ Aside0 (IsS47 w wc g160 t156 t157 t158 t159) ∧ Aside0 (Below w.heap.size w wc) ∧ Aside0 (w.heap.size ≤ gb161) ∧ Aside0 (g150 ≠ g160) ∧ Aside0 (gb155 ≠ gb161))
    case first =>
      obtain ⟨⟨c0, c1, c2, c3⟩, -⟩ := cells4 BK6.out
      go_region_held3 (fun W => W.cell? ⟨gb155, 0, none⟩ = some (.int .u64 t151) ∧ W.cell? ⟨gb155, 1, none⟩ = some (.int .u64 t152) ∧ W.cell? ⟨gb155, 2, none⟩ = some (.int .u64 t153) ∧ W.cell? ⟨gb155, 3, none⟩ = some (.int .u64 t154))
        (first | (with_reducible exact (cells4 (far4 (blk_below (blk_alloc (blk_drew BK6.out) _) hb2) (Nat.ne_of_lt (blk_lt BK6.out)))).1) | (with_reducible exact (cells4 (far4 (blk_alloc (blk_below (blk_drew BK6.out) hb2) _) (Nat.ne_of_lt (blk_lt (blk_below (blk_drew BK6.out) hb2))))).1) | (with_reducible exact (cells4 (blk_drew BK6.out)).1) | (with_reducible exact (cells4 (blk_alloc (blk_drew BK6.out) _)).1) | (with_reducible exact (cells4 (blk_below (blk_drew BK6.out) hb2)).1) | (with_reducible exact (cells4 (blk_below (blk_alloc (blk_drew BK6.out) _) hb2)).1) | (with_reducible exact (cells4 (blk_alloc (blk_below (blk_drew BK6.out) hb2) _)).1) | (exact (cells4 (blk_drew BK6.out)).1) | (exact (cells4 (blk_alloc (blk_drew BK6.out) _)).1) | (exact (cells4 (blk_below (blk_drew BK6.out) hb2)).1) | (exact (cells4 (blk_below (blk_alloc (blk_drew BK6.out) _) hb2)).1) | (exact (cells4 (blk_alloc (blk_below (blk_drew BK6.out) hb2) _)).1))
        (first | (go_at_call 13; refine (copyB g150 t146 t147 t148 t149 t156 t157 t158 t159 w w14.drew w14.heap.size rfl (IsS47.alloc (IsS47.drew HI6.out) _) (below_alloc (below_drew1 HB6.out) _) A10.out).mono ?_; rintro e w16 ⟨g160, rfl, hi, hb, hb2, hge, z0, z1, z2, z3, y0, y1, y2, y3⟩) | (go_at_call 13; refine (bucket_Bucket_Copy.calls g150 t146 t147 t148 t149 t156 t157 t158 t159 w _ (IsS47.drew HI6.out) (below_drew1 HB6.out) A10.out).mono ?_; rintro e w16 ⟨g160, rfl, hi, hb, hb2, hge⟩))
      all_goals (go_wp2_with fail; go_meet)
      · have b1 := blk_below (blk_drew BK6.out) hb2
        have hi1 := IsS47.below (IsS47.drew HI6.out) hb2
        have ne1 := Nat.ne_of_lt (blk_lt b1)
        have ne2 := Nat.ne_of_lt (IsS47.lt hi1)
        have ne3 := Nat.ne_of_lt (IsS47.lt hi)
        have hlt := IsS47.lt HI6.out
        have hge2 : w14.heap.size ≤ g160 := hge
        exact ⟨g160, w16.heap.size, rfl, rfl, ⟨blk_alloc b1 _⟩, ⟨blk_new _ _⟩, ⟨IsS47.alloc hi1 _⟩, ⟨IsS47.alloc hi _⟩, ⟨below_alloc hb _⟩, ⟨hb.size⟩, ⟨by omega⟩, ⟨ne1⟩⟩
      · have b1 := blk_below (blk_alloc (blk_drew BK6.out) _) hb2
        have hi1 := IsS47.below (IsS47.alloc (IsS47.drew HI6.out) _) hb2
        have bn := blk_below (blk_new w14.drew _) hb2
        have ne1 := Nat.ne_of_lt (blk_lt BK6.out)
        have ne2 := Nat.ne_of_lt (IsS47.lt HI6.out)
        have hlt := IsS47.lt HI6.out
        have hge2 : w14.heap.size + 1 ≤ g160 := Nat.le_trans (by simp) hge
        exact ⟨g160, w14.heap.size, rfl, rfl, ⟨far4 b1 ne1⟩, ⟨put4 bn⟩, ⟨⟨far4 hi1.1 ne2, hi1.2⟩⟩, ⟨⟨far4 hi.1 (by omega), hi.2⟩⟩, ⟨below4 HB6.out.size hb⟩, ⟨HB6.out.size⟩, ⟨by omega⟩, ⟨ne1⟩⟩
    case rest =>
    obtain ⟨g160, gb161, rfl, rfl, BK155, BK161, HI150, HI160, HB, GE161, NB150_160, NB155_161⟩ := hcut
    have GW161 := Aside0.mk GE161.out
    have NB160_150 := Aside0.mk NB150_160.out.symm
    have NB161_155 := Aside0.mk NB155_161.out.symm
    have NB150_161 := Aside0.mk (IsS47.ne_blk HI150.out BK161.out (by decide))
    have NB161_150 := Aside0.mk NB150_161.out.symm
    have NB160_155 := Aside0.mk (IsS47.ne_blk HI160.out BK155.out (by decide))
    have NB155_160 := Aside0.mk NB160_155.out.symm
    have NB160_161 := Aside0.mk (IsS47.ne_blk HI160.out BK161.out (by decide))
    have NB161_160 := Aside0.mk NB160_161.out.symm
    go_wp2
    go_loopg [13] k (fun kq v13 w' => ∃ (x13_1 : Int) (x151000_1 : Int) (x151001_1 : Int) (x151002_1 : Int) (x151003_1 : Int) (x156000_1 : Int) (x156001_1 : Int) (x156002_1 : Int) (x156003_1 : Int) (x161000_1 : Int) (x161001_1 : Int) (x161002_1 : Int) (x161003_1 : Int), v13 = .int .i64 x13_1 ∧ Aside0 (octroilaw10_BucketPlays.l0 kq l3 x13_1 x151000_1 x151001_1 x151002_1 x151003_1 x156000_1 x156001_1 x156002_1 x156003_1 x161000_1 x161001_1 x161002_1 x161003_1 t151 t152 t153 t154 = some r) ∧ Aside0 (kq ≤ k) ∧ Aside0 (w'.heap[gb155]? = some (.cells #[.int .u64 x156000_1, .int .u64 x156001_1, .int .u64 x156002_1, .int .u64 x156003_1] 34 (0, 0))) ∧ Aside0 (w'.heap[gb161]? = some (.cells #[.int .u64 t151, .int .u64 t152, .int .u64 t153, .int .u64 t154] 34 (0, 0))) ∧ Aside0 (IsS47 w w' g150 x151000_1 x151001_1 x151002_1 x151003_1) ∧ Aside0 (IsS47 w w' g160 x161000_1 x161001_1 x161002_1 x161003_1) ∧ Aside0 (Below w.heap.size w w'))
    case atStart => exact ⟨(0), (t146), (t147), (t148), (t149), (t151), (t152), (t153), (t154), (t156), (t157), (t158), (t159), (by first | rfl | (simp; done) | (simp [*]; done)), H', ⟨Nat.le_refl _⟩, BK155, BK161, HI150, HI160, HB⟩
    case round =>
      clear H'
      try clear c1
      try clear c2
      try clear p2
      try clear c3
      try clear c4
      try clear c5
      try clear c5b0
      try clear c5b1
      try clear c8
      try clear c9
      try clear c12
      try clear c13
      try clear c14
      try clear c17
      try clear c20
      try clear c21
      try clear c22
      try clear hcz15_0
      try clear hcz15_1
      try clear hcz15_2
      try clear hcz15_3
      try clear hcz18_0
      try clear hcz18_1
      try clear hcz18_2
      try clear hcz18_3
      try clear hcz23_0
      try clear hcz23_1
      try clear hcz23_2
      try clear hcz23_3
      try clear hfz15_0
      try clear hfz15_1
      try clear hfz15_2
      try clear hfz15_3
      try clear hfz18_0
      try clear hfz18_1
      try clear hfz18_2
      try clear hfz18_3
      try clear hfz23_0
      try clear hfz23_1
      try clear hfz23_2
      try clear hfz23_3
      obtain ⟨x13_1, x151000_1, x151001_1, x151002_1, x151003_1, x156000_1, x156001_1, x156002_1, x156003_1, x161000_1, x161001_1, x161002_1, x161003_1, rfl, HA, HK1, BK155, BK161, HI150, HI160, HB⟩ := hrel
      cases gk with
      | zero => exact absurd HA.out (by simp [octroilaw10_BucketPlays.l0])
      | succ k1 =>
        have H := HA.out
        clear HA
        simp only [octroilaw10_BucketPlays.l0] at H
        by_cases c24 : x13_1 < (l3.length : Int)
        · rw [if_pos c24] at H
          have c24b0 : decide (x13_1 < (l3.length : Int)) = true := decide_eq_true c24
          clear c24
          by_cases c25 : 0 ≤ x13_1
          · rw [if_pos c25] at H
            have c25b0 : decide (0 ≤ x13_1) = true := decide_eq_true c25
            clear c25
            replace H := Option.bind_eq_some_iff.mp H
            obtain ⟨⟨t174, t175, t176, t177, t178, t179, t180, t181, t182⟩, A260, H⟩ := H
            replace H : ((bucket_Bucket_Copy.f t179 t180 t181 t182).bind fun bt184 => (if t178 = true then ((bucket_Bucket_Tick.f t179 t180 t181 t182).bind fun bt189 => (if bt189.1 = t176 then ((bucket_Bucket_Tick.f bt184.1 bt184.2.1 bt184.2.2.1 bt184.2.2.2).bind fun bt194 => (if bt194.1 = t176 then ((bucket_Bucket_Level.f bt194.2.1 bt194.2.2.1 bt194.2.2.2.1 bt194.2.2.2.2 0).bind fun bt199 => (octroilaw10_BucketPlays.j1 k1 l3 x13_1 (bt199.1 != t177) bt189.2.1 bt189.2.2.1 bt189.2.2.2.1 bt189.2.2.2.2 t174 t175 t176 t177 x161000_1 x161001_1 x161002_1 x161003_1 t151 t152 t153 t154 bt199.2.1 bt199.2.2.1 bt199.2.2.2.1 bt199.2.2.2.2)) else (octroilaw10_BucketPlays.j1 k1 l3 x13_1 true bt189.2.1 bt189.2.2.1 bt189.2.2.2.1 bt189.2.2.2.2 t174 t175 t176 t177 x161000_1 x161001_1 x161002_1 x161003_1 t151 t152 t153 t154 bt194.2.1 bt194.2.2.1 bt194.2.2.2.1 bt194.2.2.2.2))) else (octroilaw10_BucketPlays.j1 k1 l3 x13_1 true bt189.2.1 bt189.2.2.1 bt189.2.2.2.1 bt189.2.2.2.2 t174 t175 t176 t177 x161000_1 x161001_1 x161002_1 x161003_1 t151 t152 t153 t154 bt184.1 bt184.2.1 bt184.2.2.1 bt184.2.2.2))) else (octroilaw10_BucketPlays.j1 k1 l3 x13_1 true t179 t180 t181 t182 t174 t175 t176 t177 x161000_1 x161001_1 x161002_1 x161003_1 t151 t152 t153 t154 bt184.1 bt184.2.1 bt184.2.2.1 bt184.2.2.2))) = some r := H
            have A26 := Aside0.mk A260
            clear A260
            replace H := Option.bind_eq_some_iff.mp H
            obtain ⟨⟨t184, t185, t186, t187⟩, A270, H⟩ := H
            replace H : (if t178 = true then ((bucket_Bucket_Tick.f t179 t180 t181 t182).bind fun bt189 => (if bt189.1 = t176 then ((bucket_Bucket_Tick.f t184 t185 t186 t187).bind fun bt194 => (if bt194.1 = t176 then ((bucket_Bucket_Level.f bt194.2.1 bt194.2.2.1 bt194.2.2.2.1 bt194.2.2.2.2 0).bind fun bt199 => (octroilaw10_BucketPlays.j1 k1 l3 x13_1 (bt199.1 != t177) bt189.2.1 bt189.2.2.1 bt189.2.2.2.1 bt189.2.2.2.2 t174 t175 t176 t177 x161000_1 x161001_1 x161002_1 x161003_1 t151 t152 t153 t154 bt199.2.1 bt199.2.2.1 bt199.2.2.2.1 bt199.2.2.2.2)) else (octroilaw10_BucketPlays.j1 k1 l3 x13_1 true bt189.2.1 bt189.2.2.1 bt189.2.2.2.1 bt189.2.2.2.2 t174 t175 t176 t177 x161000_1 x161001_1 x161002_1 x161003_1 t151 t152 t153 t154 bt194.2.1 bt194.2.2.1 bt194.2.2.2.1 bt194.2.2.2.2))) else (octroilaw10_BucketPlays.j1 k1 l3 x13_1 true bt189.2.1 bt189.2.2.1 bt189.2.2.2.1 bt189.2.2.2.2 t174 t175 t176 t177 x161000_1 x161001_1 x161002_1 x161003_1 t151 t152 t153 t154 t184 t185 t186 t187))) else (octroilaw10_BucketPlays.j1 k1 l3 x13_1 true t179 t180 t181 t182 t174 t175 t176 t177 x161000_1 x161001_1 x161002_1 x161003_1 t151 t152 t153 t154 t184 t185 t186 t187)) = some r := H
            have A27 := Aside0.mk A270
            clear A270
            have HC28 := Aside0.mk H
            clear H
            try go_wp2
            have n0_ := Aside0.mk (blk_drew BK155.out)
            have n1_ := Aside0.mk (blk_drew BK161.out)
            have n2_ := Aside0.mk (IsS47.drew HI150.out)
            have n3_ := Aside0.mk (IsS47.drew HI160.out)
            have n4_ := Aside0.mk (below_drew1 HB.out)
            clear BK155
            clear BK161
            clear HI150
            clear HI160
            clear HB
            have BK155 := n0_
            have BK161 := n1_
            have HI150 := n2_
            have HI160 := n3_
            have HB := n4_
            clear n0_ n1_ n2_ n3_ n4_
            have p173 : 0 ≤ (x13_1 : Int) := of_decide_eq_true (by first | (with_reducible assumption) | assumption)
            have q173 : x13_1 < (l3.length : Int) := of_decide_eq_true (by first | (with_reducible assumption) | assumption)
            obtain ⟨ad173, e173, hx173_0, hx173_1, hx173_2⟩ := at_T40 HR3.out x13_1 p173 q173
            have hw173_2 := hx173_2
            have hw173_1 := hx173_1
            have hw173_0 := hx173_0
            cases e173
            replace hx173_0 := (HB.out.cell (World.block_lt_of_cell? w _ hx173_0)).trans hx173_0
            replace hx173_1 := (HB.out.cell (World.block_lt_of_cell? w _ hx173_1)).trans hx173_1
            replace hx173_2 := (HB.out.cell (World.block_lt_of_cell? w _ hx173_2)).trans hx173_2
            replace p173 := eq_true p173
            replace q173 := eq_true q173
            refine start_ (n := 13) (S := fun w' => w'.cell? ⟨gb155, 0, none⟩ = some (.int .u64 x156000_1) ∧ w'.cell? ⟨gb155, 1, none⟩ = some (.int .u64 x156001_1) ∧ w'.cell? ⟨gb155, 2, none⟩ = some (.int .u64 x156002_1) ∧ w'.cell? ⟨gb155, 3, none⟩ = some (.int .u64 x156003_1) ∧ w'.cell? (ad173.add ((x13_1).toNat * 3)) = some (.int .i64 ((rd_T40 l3 x13_1).f0)) ∧ w'.cell? ⟨(ad173.add ((x13_1).toNat * 3)).block, (ad173.add ((x13_1).toNat * 3)).off + 1, none⟩ = some (.int .u64 ((rd_T40 l3 x13_1).f1)) ∧ w'.cell? ⟨(ad173.add ((x13_1).toNat * 3)).block, (ad173.add ((x13_1).toNat * 3)).off + 2, none⟩ = some (.int .u64 ((rd_T40 l3 x13_1).f2))) (ds := []) #[false, false, false, false, false, false, false, false, false, false, false, false, false] (by kernel_rfl) rfl rfl ⟨(blk_cell BK155.out 0).trans rfl, (blk_cell BK155.out 1).trans rfl, (blk_cell BK155.out 2).trans rfl, (blk_cell BK155.out 3).trans rfl, ((HB.out.cell (World.block_lt_of_cell? w _ hw173_0)).trans hw173_0), ((HB.out.cell (World.block_lt_of_cell? w _ hw173_1)).trans hw173_1), ((HB.out.cell (World.block_lt_of_cell? w _ hw173_2)).trans hw173_2)⟩ (fun hHeld => ?_); refine with_tabW octroilaw10_BucketPlays.tab10 octroilaw10_BucketPlays.bits10 (fun HT_ HW_ => ?_)
            generalize wr.drew = w29 at BK155 BK161 HI150 HI160 HB hx173_0 hx173_1 hx173_2 hHeld ⊢
            refine pure_ (i := 0) (N := some 41) (v := ?_) (a' := ?_) #[true, false, false, false, false, false, false, false, false, false, false, false, false] rfl rfl (any_of HT_.out (by kernel_rfl)) (fun _ _ _ h => h) (Or.inl ⟨by rfl, ?_⟩) ?_ ?_
            rotate_left
            · intro w'
              go_simp
              with_reducible rfl
            rotate_left
            · simp only [Act.put, List.setIfInBounds_toArray, List.set_cons_zero, List.set_cons_succ, i64_w, i32_w]
              rfl
            refine pure_ (i := 2) (N := some 43) (v := ?_) (a' := ?_) #[true, false, true, false, false, false, false, false, false, false, false, false, false] rfl rfl (any_of HT_.out (by kernel_rfl)) (fun _ _ _ h => h) (Or.inl ⟨by rfl, ?_⟩) ?_ ?_
            rotate_left
            · intro w'
              go_simp
              with_reducible rfl
            rotate_left
            · simp only [Act.put, List.setIfInBounds_toArray, List.set_cons_zero, List.set_cons_succ, i64_w, i32_w]
              rfl
            refine pure_ (i := 3) (N := some 44) (v := ?_) (a' := ?_) #[true, false, true, true, false, false, false, false, false, false, false, false, false] rfl rfl (any_of HT_.out (by kernel_rfl)) (fun _ _ _ h => h) (Or.inl ⟨by rfl, ?_⟩) ?_ ?_
            rotate_left
            · intro w'
              go_simp
              with_reducible rfl
            rotate_left
            · simp only [Act.put, List.setIfInBounds_toArray, List.set_cons_zero, List.set_cons_succ, i64_w, i32_w]
              rfl
            refine pure_ (i := 4) (N := some 45) (v := ?_) (a' := ?_) #[true, false, true, true, true, false, false, false, false, false, false, false, false] rfl rfl (any_of HT_.out (by kernel_rfl)) (fun _ _ _ h => h) (Or.inl ⟨by rfl, ?_⟩) ?_ ?_
            rotate_left
            · intro w'
              go_simp
              with_reducible rfl
            rotate_left
            · simp only [Act.put, List.setIfInBounds_toArray, List.set_cons_zero, List.set_cons_succ, i64_w, i32_w]
              rfl
            refine take_ (i := 1) (N := some 42) (v := ?_) (a' := ?_) #[true, true, true, true, true, false, false, false, false, false, false, false, false] rfl rfl (take_ofW HT_.out HW_.out (by kernel_rfl)) (fun _ _ _ h => h) (Or.inl ⟨by rfl, ?_⟩) hHeld ?_ ?_
            rotate_left
            · rintro w' ⟨s0, s1, s2, s3, s4, s5, s6⟩
              go_simp
              with_reducible rfl
            rotate_left
            · simp only [Act.put, List.setIfInBounds_toArray, List.set_cons_zero, List.set_cons_succ, i64_w, i32_w]
              rfl
            refine take_ (i := 5) (N := some 46) (v := ?_) (a' := ?_) #[true, true, true, true, true, true, false, false, false, false, false, false, false] rfl rfl (take_ofW HT_.out HW_.out (by kernel_rfl)) (fun _ _ _ h => h) (Or.inl ⟨by rfl, ?_⟩) hHeld ?_ ?_
            rotate_left
            · rintro w' ⟨s0, s1, s2, s3, s4, s5, s6⟩
              go_simp
              with_reducible rfl
            rotate_left
            · simp only [Act.put, List.setIfInBounds_toArray, List.set_cons_zero, List.set_cons_succ, i64_w, i32_w]
              rfl
            refine join_ (σ := Nat) 2 #[true, true, true, true, true, true, true, true, true, true, true, false, false] (fun s_ => [(47, .tuple #[.agg #[.int .u64 t174, .int .u64 t175, .int .u64 t176, .int .u64 t177], .bool t178]), (14, .pointer (some ⟨s_, 0, none⟩)), (40, .tuple #[.agg #[.int .u64 t174, .int .u64 t175, .int .u64 t176, .int .u64 t177], .bool t178]), (48, .agg #[.int .u64 t174, .int .u64 t175, .int .u64 t176, .int .u64 t177]), (49, .bool t178)]) (fun s_ w' => (w'.cell? ⟨gb155, 0, none⟩ = some (.int .u64 x156000_1) ∧ w'.cell? ⟨gb155, 1, none⟩ = some (.int .u64 x156001_1) ∧ w'.cell? ⟨gb155, 2, none⟩ = some (.int .u64 x156002_1) ∧ w'.cell? ⟨gb155, 3, none⟩ = some (.int .u64 x156003_1) ∧ w'.cell? (ad173.add ((x13_1).toNat * 3)) = some (.int .i64 ((rd_T40 l3 x13_1).f0)) ∧ w'.cell? ⟨(ad173.add ((x13_1).toNat * 3)).block, (ad173.add ((x13_1).toNat * 3)).off + 1, none⟩ = some (.int .u64 ((rd_T40 l3 x13_1).f1)) ∧ w'.cell? ⟨(ad173.add ((x13_1).toNat * 3)).block, (ad173.add ((x13_1).toNat * 3)).off + 2, none⟩ = some (.int .u64 ((rd_T40 l3 x13_1).f2))) ∧ (w'.heap[gb155]? = some (.cells #[.int .u64 x156000_1, .int .u64 x156001_1, .int .u64 x156002_1, .int .u64 x156003_1] 34 (0, 0))) ∧ (w'.heap[gb161]? = some (.cells #[.int .u64 t151, .int .u64 t152, .int .u64 t153, .int .u64 t154] 34 (0, 0))) ∧ (w'.heap[s_]? = some (.cells #[.int .u64 0, .int .u64 0, .int .u64 0, .int .u64 0] 34 (0, 0))) ∧ (w.heap.size ≤ s_) ∧ (w.heap.size ≤ s_) ∧ (g150 ≠ s_) ∧ (s_ ≠ g150) ∧ (g160 ≠ s_) ∧ (s_ ≠ g160) ∧ (gb155 ≠ s_) ∧ (s_ ≠ gb155) ∧ (gb161 ≠ s_) ∧ (s_ ≠ gb161) ∧ (IsS47 w w' g150 t179 t180 t181 t182) ∧ (IsS47 w w' g160 x161000_1 x161001_1 x161002_1 x161003_1) ∧ (Below w.heap.size w w')) ?_ ?_
            rotate_left
            · intro hCont
              refine two_ (i := 6) (j := 10) (Ni := some 47) (Nj := some 14) #[true, true, true, true, true, true, true, false, false, false, false, false, false] #[true, true, true, true, true, true, false, false, false, false, true, false, false] rfl rfl rfl rfl (two_of HT_.out (by kernel_rfl)) (by decide) (by decide) (fun K hK => ?_) (fun K hK => ?_)
              · skip
                refine goes_ Try.func14 (by kernel_rfl) rfl #[.pointer (some ⟨g150, 0, none⟩), .agg #[.int .u64 x156000_1, .int .u64 x156001_1, .int .u64 x156002_1, .int .u64 x156003_1], .agg #[.int .i64 ((rd_T40 l3 x13_1).f0), .int .u64 ((rd_T40 l3 x13_1).f1), .int .u64 ((rd_T40 l3 x13_1).f2)]] (by rfl) rfl rfl (by (try simp only [List.map_toArray, List.map_cons, List.map_nil]); first | done | rfl | (simp only [List.length_drop, List.length_take]; rfl)) ?_
                with_reducible refine (octroilaw10_does.calls k1 g150 x151000_1 x151001_1 x151002_1 x151003_1 x156000_1 x156001_1 x156002_1 x156003_1 ((rd_T40 l3 x13_1).f0) ((rd_T40 l3 x13_1).f1) ((rd_T40 l3 x13_1).f2) t174 t175 t176 t177 t178 t179 t180 t181 t182 w _ ?side1 ?side2 A26.out).mono ?_
                (case side1 => repeat (first | (with_reducible first | exact HI150.out | apply IsS47.alloc | apply IsS47.drewN | apply IsS47.drew | apply IsS47.set_0 | apply IsS47.set_1 | apply IsS47.set_2 | apply IsS47.set_3 | refine IsS47.far ?_ NB150_155.out _ | refine IsS47.far ?_ NB150_161.out _) | exact HI150.out))
                (case side2 => repeat (first | (with_reducible first | exact HB.out | apply below_alloc | apply pw_below_drewN | apply below_drew1 | refine below_set ?_ (IsS47.ge HI150.out) | refine below_set ?_ (IsS47.ge HI160.out) | refine below_set ?_ GE155.out | refine below_set ?_ GE161.out) | exact HB.out))
                rintro e w30 ⟨rfl, hi, hb, hk⟩
                refine ⟨_, rfl, ?_⟩
                have n0_ := Aside0.mk (KeepBut.blk hk (g' := gb155) (o := .cells #[.int .u64 x156000_1, .int .u64 x156001_1, .int .u64 x156002_1, .int .u64 x156003_1] 34 (0, 0)) (by (with_reducible repeat (first | refine blk_drewN ?_ _ | refine blk_drew ?_ | refine blk_alloc ?_ _)); exact BK155.out) NB155_150.out (by simp))
                have n1_ := Aside0.mk (KeepBut.blk hk (g' := gb161) (o := .cells #[.int .u64 t151, .int .u64 t152, .int .u64 t153, .int .u64 t154] 34 (0, 0)) (by (with_reducible repeat (first | refine blk_drewN ?_ _ | refine blk_drew ?_ | refine blk_alloc ?_ _)); exact BK161.out) NB161_150.out (by simp))
                have n2_ := Aside0.mk (IsS47.keepG (by repeat (first | (with_reducible first | exact HI160.out | apply IsS47.alloc | apply IsS47.drewN | apply IsS47.drew | apply IsS47.set_0 | apply IsS47.set_1 | apply IsS47.set_2 | apply IsS47.set_3 | refine IsS47.far ?_ NB160_155.out _ | refine IsS47.far ?_ NB160_161.out _) | exact HI160.out)) hk NB160_150.out)
                have n3_ := Aside0.mk (hb)
                have n4_ := Aside0.mk (hi)
                clear BK155
                clear BK161
                clear HI160
                clear HB
                clear HI150
                have BK155 := n0_
                have BK161 := n1_
                have HI160 := n2_
                have HB := n3_
                have HI150 := n4_
                clear n0_ n1_ n2_ n3_ n4_
                (try clear hb)
                (try clear hb2)
                (try clear hk)
                (try clear hi)
                (try clear hge)
                refine hK.out _ _ ⟨(blk_cell BK155.out 0).trans rfl, (blk_cell BK155.out 1).trans rfl, (blk_cell BK155.out 2).trans rfl, (blk_cell BK155.out 3).trans rfl, ((HB.out.cell (World.block_lt_of_cell? w _ hw173_0)).trans hw173_0), ((HB.out.cell (World.block_lt_of_cell? w _ hw173_1)).trans hw173_1), ((HB.out.cell (World.block_lt_of_cell? w _ hw173_2)).trans hw173_2)⟩ (fun hHeld => ?_)
                clear hK K
                refine norm_ (a' := ?_) ?_ ?_
                rotate_left
                · show Act.put _ (some 47) _ = _
                  simp only [Act.put, List.setIfInBounds_toArray, List.set_cons_zero, List.set_cons_succ, i64_w, i32_w]
                  rfl
                refine pure_ (i := 7) (N := some 40) (v := ?_) (a' := ?_) #[true, true, true, true, true, true, true, true, false, false, false, false, false] rfl rfl (any_of HT_.out (by kernel_rfl)) (fun _ _ _ h => h) (Or.inl ⟨by rfl, ?_⟩) ?_ ?_
                rotate_left
                · intro w'
                  go_simp
                  with_reducible rfl
                rotate_left
                · simp only [Act.put, List.setIfInBounds_toArray, List.set_cons_zero, List.set_cons_succ, i64_w, i32_w]
                  rfl
                refine pure_ (i := 8) (N := some 48) (v := ?_) (a' := ?_) #[true, true, true, true, true, true, true, true, true, false, false, false, false] rfl rfl (any_of HT_.out (by kernel_rfl)) (fun _ _ _ h => h) (Or.inl ⟨by rfl, ?_⟩) ?_ ?_
                rotate_left
                · intro w'
                  go_simp
                  with_reducible rfl
                rotate_left
                · simp only [Act.put, List.setIfInBounds_toArray, List.set_cons_zero, List.set_cons_succ, i64_w, i32_w]
                  rfl
                refine pure_ (i := 9) (N := some 49) (v := ?_) (a' := ?_) #[true, true, true, true, true, true, true, true, true, true, false, false, false] rfl rfl (any_of HT_.out (by kernel_rfl)) (fun _ _ _ h => h) (Or.inl ⟨by rfl, ?_⟩) ?_ ?_
                rotate_left
                · intro w'
                  go_simp
                  with_reducible rfl
                rotate_left
                · simp only [Act.put, List.setIfInBounds_toArray, List.set_cons_zero, List.set_cons_succ, i64_w, i32_w]
                  rfl
                refine one_ (i := 10) (N := some 14) #[true, true, true, true, true, true, true, true, true, true, true, false, false] rfl rfl (one_of HT_.out (by kernel_rfl)) (by decide) (fun K hK => ?_)
                refine box_step ?hg (N := 14) ?hd (cs := #[.int .u64 0, .int .u64 0, .int .u64 0, .int .u64 0]) (t := 34) ?hr ?_; (case hd => rfl); (case hg => rfl); (case hr => first | (go_simp; done) | (go_simp; rfl))
                intro gb183 hg w31 hbox hb
                have n0_ := Aside0.mk (blk_below (g := gb155) (o := .cells #[.int .u64 x156000_1, .int .u64 x156001_1, .int .u64 x156002_1, .int .u64 x156003_1] 34 (0, 0)) (by (with_reducible repeat (first | refine blk_drewN ?_ _ | refine blk_drew ?_ | refine blk_alloc ?_ _)); exact BK155.out) hb)
                have n1_ := Aside0.mk (blk_below (g := gb161) (o := .cells #[.int .u64 t151, .int .u64 t152, .int .u64 t153, .int .u64 t154] 34 (0, 0)) (by (with_reducible repeat (first | refine blk_drewN ?_ _ | refine blk_drew ?_ | refine blk_alloc ?_ _)); exact BK161.out) hb)
                have n2_ := Aside0.mk (IsS47.below (by repeat (first | (with_reducible first | exact HI150.out | apply IsS47.alloc | apply IsS47.drewN | apply IsS47.drew | apply IsS47.set_0 | apply IsS47.set_1 | apply IsS47.set_2 | apply IsS47.set_3 | refine IsS47.far ?_ NB150_155.out _ | refine IsS47.far ?_ NB150_161.out _) | exact HI150.out)) hb)
                have n3_ := Aside0.mk (IsS47.below (by repeat (first | (with_reducible first | exact HI160.out | apply IsS47.alloc | apply IsS47.drewN | apply IsS47.drew | apply IsS47.set_0 | apply IsS47.set_1 | apply IsS47.set_2 | apply IsS47.set_3 | refine IsS47.far ?_ NB160_155.out _ | refine IsS47.far ?_ NB160_161.out _) | exact HI160.out)) hb)
                have n4_ := Aside0.mk (below_step (by repeat (first | (with_reducible first | exact HB.out | apply below_alloc | apply pw_below_drewN | apply below_drew1 | refine below_set ?_ (IsS47.ge HI150.out) | refine below_set ?_ (IsS47.ge HI160.out) | refine below_set ?_ GE155.out | refine below_set ?_ GE161.out) | exact HB.out)) hb)
                have n5_ := Aside0.mk (hbox)
                have n6_ := Aside0.mk ((by rw [hg]; exact (below_size (by repeat (first | (with_reducible first | exact HB.out | apply below_alloc | apply pw_below_drewN | apply below_drew1 | refine below_set ?_ (IsS47.ge HI150.out) | refine below_set ?_ (IsS47.ge HI160.out) | refine below_set ?_ GE155.out | refine below_set ?_ GE161.out) | exact HB.out))) : w.heap.size ≤ gb183))
                have n7_ := Aside0.mk ((by rw [hg]; exact (below_size (by repeat (first | (with_reducible first | exact HB.out | apply below_alloc | apply pw_below_drewN | apply below_drew1 | refine below_set ?_ (IsS47.ge HI150.out) | refine below_set ?_ (IsS47.ge HI160.out) | refine below_set ?_ GE155.out | refine below_set ?_ GE161.out) | exact HB.out))) : w.heap.size ≤ gb183))
                have n8_ := Aside0.mk ((by rw [hg]; exact Nat.ne_of_lt (blk_lt (g := gb155) (o := .cells #[.int .u64 x156000_1, .int .u64 x156001_1, .int .u64 x156002_1, .int .u64 x156003_1] 34 (0, 0)) (by (with_reducible repeat (first | refine blk_drewN ?_ _ | refine blk_drew ?_ | refine blk_alloc ?_ _)); exact BK155.out)) : gb155 ≠ gb183))
                have n9_ := Aside0.mk ((by rw [hg]; exact Nat.ne_of_gt (blk_lt (g := gb155) (o := .cells #[.int .u64 x156000_1, .int .u64 x156001_1, .int .u64 x156002_1, .int .u64 x156003_1] 34 (0, 0)) (by (with_reducible repeat (first | refine blk_drewN ?_ _ | refine blk_drew ?_ | refine blk_alloc ?_ _)); exact BK155.out)) : gb183 ≠ gb155))
                have n10_ := Aside0.mk ((by rw [hg]; exact Nat.ne_of_lt (blk_lt (g := gb161) (o := .cells #[.int .u64 t151, .int .u64 t152, .int .u64 t153, .int .u64 t154] 34 (0, 0)) (by (with_reducible repeat (first | refine blk_drewN ?_ _ | refine blk_drew ?_ | refine blk_alloc ?_ _)); exact BK161.out)) : gb161 ≠ gb183))
                have n11_ := Aside0.mk ((by rw [hg]; exact Nat.ne_of_gt (blk_lt (g := gb161) (o := .cells #[.int .u64 t151, .int .u64 t152, .int .u64 t153, .int .u64 t154] 34 (0, 0)) (by (with_reducible repeat (first | refine blk_drewN ?_ _ | refine blk_drew ?_ | refine blk_alloc ?_ _)); exact BK161.out)) : gb183 ≠ gb161))
                have n12_ := Aside0.mk ((by rw [hg]; exact Nat.ne_of_lt (IsS47.lt (show IsS47 w _ g150 t179 t180 t181 t182 from by repeat (first | (with_reducible first | exact HI150.out | apply IsS47.alloc | apply IsS47.drewN | apply IsS47.drew | apply IsS47.set_0 | apply IsS47.set_1 | apply IsS47.set_2 | apply IsS47.set_3 | refine IsS47.far ?_ NB150_155.out _ | refine IsS47.far ?_ NB150_161.out _) | exact HI150.out))) : g150 ≠ gb183))
                have n13_ := Aside0.mk ((by rw [hg]; exact Nat.ne_of_gt (IsS47.lt (show IsS47 w _ g150 t179 t180 t181 t182 from by repeat (first | (with_reducible first | exact HI150.out | apply IsS47.alloc | apply IsS47.drewN | apply IsS47.drew | apply IsS47.set_0 | apply IsS47.set_1 | apply IsS47.set_2 | apply IsS47.set_3 | refine IsS47.far ?_ NB150_155.out _ | refine IsS47.far ?_ NB150_161.out _) | exact HI150.out))) : gb183 ≠ g150))
                have n14_ := Aside0.mk ((by rw [hg]; exact Nat.ne_of_lt (IsS47.lt (show IsS47 w _ g160 x161000_1 x161001_1 x161002_1 x161003_1 from by repeat (first | (with_reducible first | exact HI160.out | apply IsS47.alloc | apply IsS47.drewN | apply IsS47.drew | apply IsS47.set_0 | apply IsS47.set_1 | apply IsS47.set_2 | apply IsS47.set_3 | refine IsS47.far ?_ NB160_155.out _ | refine IsS47.far ?_ NB160_161.out _) | exact HI160.out))) : g160 ≠ gb183))
                have n15_ := Aside0.mk ((by rw [hg]; exact Nat.ne_of_gt (IsS47.lt (show IsS47 w _ g160 x161000_1 x161001_1 x161002_1 x161003_1 from by repeat (first | (with_reducible first | exact HI160.out | apply IsS47.alloc | apply IsS47.drewN | apply IsS47.drew | apply IsS47.set_0 | apply IsS47.set_1 | apply IsS47.set_2 | apply IsS47.set_3 | refine IsS47.far ?_ NB160_155.out _ | refine IsS47.far ?_ NB160_161.out _) | exact HI160.out))) : gb183 ≠ g160))
                clear BK155
                clear BK161
                clear HI150
                clear HI160
                clear HB
                have BK155 := n0_
                have BK161 := n1_
                have HI150 := n2_
                have HI160 := n3_
                have HB := n4_
                have BK183 := n5_
                have GW183 := n6_
                have GE183 := n7_
                have NB155_183 := n8_
                have NB183_155 := n9_
                have NB161_183 := n10_
                have NB183_161 := n11_
                have NB150_183 := n12_
                have NB183_150 := n13_
                have NB160_183 := n14_
                have NB183_160 := n15_
                clear n0_ n1_ n2_ n3_ n4_ n5_ n6_ n7_ n8_ n9_ n10_ n11_ n12_ n13_ n14_ n15_
                clear hb hbox hg
                refine hK.out _ _ ⟨(blk_cell BK155.out 0).trans rfl, (blk_cell BK155.out 1).trans rfl, (blk_cell BK155.out 2).trans rfl, (blk_cell BK155.out 3).trans rfl, ((HB.out.cell (World.block_lt_of_cell? w _ hw173_0)).trans hw173_0), ((HB.out.cell (World.block_lt_of_cell? w _ hw173_1)).trans hw173_1), ((HB.out.cell (World.block_lt_of_cell? w _ hw173_2)).trans hw173_2)⟩ (fun hHeld => ?_)
                clear hK K
                refine norm_ (a' := ?_) ?_ ?_
                rotate_left
                · show Act.put _ (some 14) _ = _
                  simp only [Act.put, List.setIfInBounds_toArray, List.set_cons_zero, List.set_cons_succ, i64_w, i32_w]
                  rfl
                exact norm_ (by simp only [putAll, Act.put, List.setIfInBounds_toArray, List.set_cons_zero, List.set_cons_succ]) (hCont (gb183) _ ⟨hHeld, (by (with_reducible repeat (first | refine blk_drewN ?_ _ | refine blk_drew ?_ | refine blk_alloc ?_ _)); exact BK155.out), (by (with_reducible repeat (first | refine blk_drewN ?_ _ | refine blk_drew ?_ | refine blk_alloc ?_ _)); exact BK161.out), (by (with_reducible repeat (first | refine blk_drewN ?_ _ | refine blk_drew ?_ | refine blk_alloc ?_ _)); exact BK183.out), GW183.out, GE183.out, NB150_183.out, NB183_150.out, NB160_183.out, NB183_160.out, NB155_183.out, NB183_155.out, NB161_183.out, NB183_161.out, (by repeat (first | (with_reducible first | exact HI150.out | apply IsS47.alloc | apply IsS47.drewN | apply IsS47.drew | apply IsS47.set_0 | apply IsS47.set_1 | apply IsS47.set_2 | apply IsS47.set_3 | refine IsS47.far ?_ NB150_155.out _ | refine IsS47.far ?_ NB150_161.out _ | refine IsS47.far ?_ NB150_183.out _) | exact HI150.out)), (by repeat (first | (with_reducible first | exact HI160.out | apply IsS47.alloc | apply IsS47.drewN | apply IsS47.drew | apply IsS47.set_0 | apply IsS47.set_1 | apply IsS47.set_2 | apply IsS47.set_3 | refine IsS47.far ?_ NB160_155.out _ | refine IsS47.far ?_ NB160_161.out _ | refine IsS47.far ?_ NB160_183.out _) | exact HI160.out)), (by repeat (first | (with_reducible first | exact HB.out | apply below_alloc | apply pw_below_drewN | apply below_drew1 | refine below_set ?_ (IsS47.ge HI150.out) | refine below_set ?_ (IsS47.ge HI160.out) | refine below_set ?_ GE155.out | refine below_set ?_ GE161.out | refine below_set ?_ GE183.out) | exact HB.out))⟩)
              · skip
                refine box_step ?hg (N := 14) ?hd (cs := #[.int .u64 0, .int .u64 0, .int .u64 0, .int .u64 0]) (t := 34) ?hr ?_; (case hd => rfl); (case hg => rfl); (case hr => first | (go_simp; done) | (go_simp; rfl))
                intro gb183 hg w30 hbox hb
                have n0_ := Aside0.mk (blk_below (g := gb155) (o := .cells #[.int .u64 x156000_1, .int .u64 x156001_1, .int .u64 x156002_1, .int .u64 x156003_1] 34 (0, 0)) (by (with_reducible repeat (first | refine blk_drewN ?_ _ | refine blk_drew ?_ | refine blk_alloc ?_ _)); exact BK155.out) hb)
                have n1_ := Aside0.mk (blk_below (g := gb161) (o := .cells #[.int .u64 t151, .int .u64 t152, .int .u64 t153, .int .u64 t154] 34 (0, 0)) (by (with_reducible repeat (first | refine blk_drewN ?_ _ | refine blk_drew ?_ | refine blk_alloc ?_ _)); exact BK161.out) hb)
                have n2_ := Aside0.mk (IsS47.below (by repeat (first | (with_reducible first | exact HI150.out | apply IsS47.alloc | apply IsS47.drewN | apply IsS47.drew | apply IsS47.set_0 | apply IsS47.set_1 | apply IsS47.set_2 | apply IsS47.set_3 | refine IsS47.far ?_ NB150_155.out _ | refine IsS47.far ?_ NB150_161.out _) | exact HI150.out)) hb)
                have n3_ := Aside0.mk (IsS47.below (by repeat (first | (with_reducible first | exact HI160.out | apply IsS47.alloc | apply IsS47.drewN | apply IsS47.drew | apply IsS47.set_0 | apply IsS47.set_1 | apply IsS47.set_2 | apply IsS47.set_3 | refine IsS47.far ?_ NB160_155.out _ | refine IsS47.far ?_ NB160_161.out _) | exact HI160.out)) hb)
                have n4_ := Aside0.mk (below_step (by repeat (first | (with_reducible first | exact HB.out | apply below_alloc | apply pw_below_drewN | apply below_drew1 | refine below_set ?_ (IsS47.ge HI150.out) | refine below_set ?_ (IsS47.ge HI160.out) | refine below_set ?_ GE155.out | refine below_set ?_ GE161.out) | exact HB.out)) hb)
                have n5_ := Aside0.mk (hbox)
                have n6_ := Aside0.mk ((by rw [hg]; exact (below_size (by repeat (first | (with_reducible first | exact HB.out | apply below_alloc | apply pw_below_drewN | apply below_drew1 | refine below_set ?_ (IsS47.ge HI150.out) | refine below_set ?_ (IsS47.ge HI160.out) | refine below_set ?_ GE155.out | refine below_set ?_ GE161.out) | exact HB.out))) : w.heap.size ≤ gb183))
                have n7_ := Aside0.mk ((by rw [hg]; exact (below_size (by repeat (first | (with_reducible first | exact HB.out | apply below_alloc | apply pw_below_drewN | apply below_drew1 | refine below_set ?_ (IsS47.ge HI150.out) | refine below_set ?_ (IsS47.ge HI160.out) | refine below_set ?_ GE155.out | refine below_set ?_ GE161.out) | exact HB.out))) : w.heap.size ≤ gb183))
                have n8_ := Aside0.mk ((by rw [hg]; exact Nat.ne_of_lt (blk_lt (g := gb155) (o := .cells #[.int .u64 x156000_1, .int .u64 x156001_1, .int .u64 x156002_1, .int .u64 x156003_1] 34 (0, 0)) (by (with_reducible repeat (first | refine blk_drewN ?_ _ | refine blk_drew ?_ | refine blk_alloc ?_ _)); exact BK155.out)) : gb155 ≠ gb183))
                have n9_ := Aside0.mk ((by rw [hg]; exact Nat.ne_of_gt (blk_lt (g := gb155) (o := .cells #[.int .u64 x156000_1, .int .u64 x156001_1, .int .u64 x156002_1, .int .u64 x156003_1] 34 (0, 0)) (by (with_reducible repeat (first | refine blk_drewN ?_ _ | refine blk_drew ?_ | refine blk_alloc ?_ _)); exact BK155.out)) : gb183 ≠ gb155))
                have n10_ := Aside0.mk ((by rw [hg]; exact Nat.ne_of_lt (blk_lt (g := gb161) (o := .cells #[.int .u64 t151, .int .u64 t152, .int .u64 t153, .int .u64 t154] 34 (0, 0)) (by (with_reducible repeat (first | refine blk_drewN ?_ _ | refine blk_drew ?_ | refine blk_alloc ?_ _)); exact BK161.out)) : gb161 ≠ gb183))
                have n11_ := Aside0.mk ((by rw [hg]; exact Nat.ne_of_gt (blk_lt (g := gb161) (o := .cells #[.int .u64 t151, .int .u64 t152, .int .u64 t153, .int .u64 t154] 34 (0, 0)) (by (with_reducible repeat (first | refine blk_drewN ?_ _ | refine blk_drew ?_ | refine blk_alloc ?_ _)); exact BK161.out)) : gb183 ≠ gb161))
                have n12_ := Aside0.mk ((by rw [hg]; exact Nat.ne_of_lt (IsS47.lt (show IsS47 w _ g150 x151000_1 x151001_1 x151002_1 x151003_1 from by repeat (first | (with_reducible first | exact HI150.out | apply IsS47.alloc | apply IsS47.drewN | apply IsS47.drew | apply IsS47.set_0 | apply IsS47.set_1 | apply IsS47.set_2 | apply IsS47.set_3 | refine IsS47.far ?_ NB150_155.out _ | refine IsS47.far ?_ NB150_161.out _) | exact HI150.out))) : g150 ≠ gb183))
                have n13_ := Aside0.mk ((by rw [hg]; exact Nat.ne_of_gt (IsS47.lt (show IsS47 w _ g150 x151000_1 x151001_1 x151002_1 x151003_1 from by repeat (first | (with_reducible first | exact HI150.out | apply IsS47.alloc | apply IsS47.drewN | apply IsS47.drew | apply IsS47.set_0 | apply IsS47.set_1 | apply IsS47.set_2 | apply IsS47.set_3 | refine IsS47.far ?_ NB150_155.out _ | refine IsS47.far ?_ NB150_161.out _) | exact HI150.out))) : gb183 ≠ g150))
                have n14_ := Aside0.mk ((by rw [hg]; exact Nat.ne_of_lt (IsS47.lt (show IsS47 w _ g160 x161000_1 x161001_1 x161002_1 x161003_1 from by repeat (first | (with_reducible first | exact HI160.out | apply IsS47.alloc | apply IsS47.drewN | apply IsS47.drew | apply IsS47.set_0 | apply IsS47.set_1 | apply IsS47.set_2 | apply IsS47.set_3 | refine IsS47.far ?_ NB160_155.out _ | refine IsS47.far ?_ NB160_161.out _) | exact HI160.out))) : g160 ≠ gb183))
                have n15_ := Aside0.mk ((by rw [hg]; exact Nat.ne_of_gt (IsS47.lt (show IsS47 w _ g160 x161000_1 x161001_1 x161002_1 x161003_1 from by repeat (first | (with_reducible first | exact HI160.out | apply IsS47.alloc | apply IsS47.drewN | apply IsS47.drew | apply IsS47.set_0 | apply IsS47.set_1 | apply IsS47.set_2 | apply IsS47.set_3 | refine IsS47.far ?_ NB160_155.out _ | refine IsS47.far ?_ NB160_161.out _) | exact HI160.out))) : gb183 ≠ g160))
                clear BK155
                clear BK161
                clear HI150
                clear HI160
                clear HB
                have BK155 := n0_
                have BK161 := n1_
                have HI150 := n2_
                have HI160 := n3_
                have HB := n4_
                have BK183 := n5_
                have GW183 := n6_
                have GE183 := n7_
                have NB155_183 := n8_
                have NB183_155 := n9_
                have NB161_183 := n10_
                have NB183_161 := n11_
                have NB150_183 := n12_
                have NB183_150 := n13_
                have NB160_183 := n14_
                have NB183_160 := n15_
                clear n0_ n1_ n2_ n3_ n4_ n5_ n6_ n7_ n8_ n9_ n10_ n11_ n12_ n13_ n14_ n15_
                clear hb hbox hg
                refine hK.out _ _ ⟨(blk_cell BK155.out 0).trans rfl, (blk_cell BK155.out 1).trans rfl, (blk_cell BK155.out 2).trans rfl, (blk_cell BK155.out 3).trans rfl, ((HB.out.cell (World.block_lt_of_cell? w _ hw173_0)).trans hw173_0), ((HB.out.cell (World.block_lt_of_cell? w _ hw173_1)).trans hw173_1), ((HB.out.cell (World.block_lt_of_cell? w _ hw173_2)).trans hw173_2)⟩ (fun hHeld => ?_)
                clear hK K
                refine norm_ (a' := ?_) ?_ ?_
                rotate_left
                · show Act.put _ (some 14) _ = _
                  simp only [Act.put, List.setIfInBounds_toArray, List.set_cons_zero, List.set_cons_succ, i64_w, i32_w]
                  rfl
                refine one_ (i := 6) (N := some 47) #[true, true, true, true, true, true, true, false, false, false, true, false, false] rfl rfl (one_of HT_.out (by kernel_rfl)) (by decide) (fun K hK => ?_)
                refine goes_ Try.func14 (by kernel_rfl) rfl #[.pointer (some ⟨g150, 0, none⟩), .agg #[.int .u64 x156000_1, .int .u64 x156001_1, .int .u64 x156002_1, .int .u64 x156003_1], .agg #[.int .i64 ((rd_T40 l3 x13_1).f0), .int .u64 ((rd_T40 l3 x13_1).f1), .int .u64 ((rd_T40 l3 x13_1).f2)]] (by rfl) rfl rfl (by (try simp only [List.map_toArray, List.map_cons, List.map_nil]); first | done | rfl | (simp only [List.length_drop, List.length_take]; rfl)) ?_
                with_reducible refine (octroilaw10_does.calls k1 g150 x151000_1 x151001_1 x151002_1 x151003_1 x156000_1 x156001_1 x156002_1 x156003_1 ((rd_T40 l3 x13_1).f0) ((rd_T40 l3 x13_1).f1) ((rd_T40 l3 x13_1).f2) t174 t175 t176 t177 t178 t179 t180 t181 t182 w _ ?side1 ?side2 A26.out).mono ?_
                (case side1 => repeat (first | (with_reducible first | exact HI150.out | apply IsS47.alloc | apply IsS47.drewN | apply IsS47.drew | apply IsS47.set_0 | apply IsS47.set_1 | apply IsS47.set_2 | apply IsS47.set_3 | refine IsS47.far ?_ NB150_155.out _ | refine IsS47.far ?_ NB150_161.out _ | refine IsS47.far ?_ NB150_183.out _) | exact HI150.out))
                (case side2 => repeat (first | (with_reducible first | exact HB.out | apply below_alloc | apply pw_below_drewN | apply below_drew1 | refine below_set ?_ (IsS47.ge HI150.out) | refine below_set ?_ (IsS47.ge HI160.out) | refine below_set ?_ GE155.out | refine below_set ?_ GE161.out | refine below_set ?_ GE183.out) | exact HB.out))
                rintro e w31 ⟨rfl, hi, hb, hk⟩
                refine ⟨_, rfl, ?_⟩
                have n0_ := Aside0.mk (KeepBut.blk hk (g' := gb155) (o := .cells #[.int .u64 x156000_1, .int .u64 x156001_1, .int .u64 x156002_1, .int .u64 x156003_1] 34 (0, 0)) (by (with_reducible repeat (first | refine blk_drewN ?_ _ | refine blk_drew ?_ | refine blk_alloc ?_ _)); exact BK155.out) NB155_150.out (by simp))
                have n1_ := Aside0.mk (KeepBut.blk hk (g' := gb161) (o := .cells #[.int .u64 t151, .int .u64 t152, .int .u64 t153, .int .u64 t154] 34 (0, 0)) (by (with_reducible repeat (first | refine blk_drewN ?_ _ | refine blk_drew ?_ | refine blk_alloc ?_ _)); exact BK161.out) NB161_150.out (by simp))
                have n2_ := Aside0.mk (IsS47.keepG (by repeat (first | (with_reducible first | exact HI160.out | apply IsS47.alloc | apply IsS47.drewN | apply IsS47.drew | apply IsS47.set_0 | apply IsS47.set_1 | apply IsS47.set_2 | apply IsS47.set_3 | refine IsS47.far ?_ NB160_155.out _ | refine IsS47.far ?_ NB160_161.out _ | refine IsS47.far ?_ NB160_183.out _) | exact HI160.out)) hk NB160_150.out)
                have n3_ := Aside0.mk (KeepBut.blk hk (g' := gb183) (o := .cells #[.int .u64 0, .int .u64 0, .int .u64 0, .int .u64 0] 34 (0, 0)) (by (with_reducible repeat (first | refine blk_drewN ?_ _ | refine blk_drew ?_ | refine blk_alloc ?_ _)); exact BK183.out) NB183_150.out (by simp))
                have n4_ := Aside0.mk (hb)
                have n5_ := Aside0.mk (hi)
                clear BK155
                clear BK161
                clear HI160
                clear BK183
                clear HB
                clear HI150
                have BK155 := n0_
                have BK161 := n1_
                have HI160 := n2_
                have BK183 := n3_
                have HB := n4_
                have HI150 := n5_
                clear n0_ n1_ n2_ n3_ n4_ n5_
                (try clear hb)
                (try clear hb2)
                (try clear hk)
                (try clear hi)
                (try clear hge)
                refine hK.out _ _ ⟨(blk_cell BK155.out 0).trans rfl, (blk_cell BK155.out 1).trans rfl, (blk_cell BK155.out 2).trans rfl, (blk_cell BK155.out 3).trans rfl, ((HB.out.cell (World.block_lt_of_cell? w _ hw173_0)).trans hw173_0), ((HB.out.cell (World.block_lt_of_cell? w _ hw173_1)).trans hw173_1), ((HB.out.cell (World.block_lt_of_cell? w _ hw173_2)).trans hw173_2)⟩ (fun hHeld => ?_)
                clear hK K
                refine norm_ (a' := ?_) ?_ ?_
                rotate_left
                · show Act.put _ (some 47) _ = _
                  simp only [Act.put, List.setIfInBounds_toArray, List.set_cons_zero, List.set_cons_succ, i64_w, i32_w]
                  rfl
                refine pure_ (i := 7) (N := some 40) (v := ?_) (a' := ?_) #[true, true, true, true, true, true, true, true, false, false, true, false, false] rfl rfl (any_of HT_.out (by kernel_rfl)) (fun _ _ _ h => h) (Or.inl ⟨by rfl, ?_⟩) ?_ ?_
                rotate_left
                · intro w'
                  go_simp
                  with_reducible rfl
                rotate_left
                · simp only [Act.put, List.setIfInBounds_toArray, List.set_cons_zero, List.set_cons_succ, i64_w, i32_w]
                  rfl
                refine pure_ (i := 8) (N := some 48) (v := ?_) (a' := ?_) #[true, true, true, true, true, true, true, true, true, false, true, false, false] rfl rfl (any_of HT_.out (by kernel_rfl)) (fun _ _ _ h => h) (Or.inl ⟨by rfl, ?_⟩) ?_ ?_
                rotate_left
                · intro w'
                  go_simp
                  with_reducible rfl
                rotate_left
                · simp only [Act.put, List.setIfInBounds_toArray, List.set_cons_zero, List.set_cons_succ, i64_w, i32_w]
                  rfl
                refine pure_ (i := 9) (N := some 49) (v := ?_) (a' := ?_) #[true, true, true, true, true, true, true, true, true, true, true, false, false] rfl rfl (any_of HT_.out (by kernel_rfl)) (fun _ _ _ h => h) (Or.inl ⟨by rfl, ?_⟩) ?_ ?_
                rotate_left
                · intro w'
                  go_simp
                  with_reducible rfl
                rotate_left
                · simp only [Act.put, List.setIfInBounds_toArray, List.set_cons_zero, List.set_cons_succ, i64_w, i32_w]
                  rfl
                exact norm_ (by simp only [putAll, Act.put, List.setIfInBounds_toArray, List.set_cons_zero, List.set_cons_succ]) (hCont (gb183) _ ⟨hHeld, (by (with_reducible repeat (first | refine blk_drewN ?_ _ | refine blk_drew ?_ | refine blk_alloc ?_ _)); exact BK155.out), (by (with_reducible repeat (first | refine blk_drewN ?_ _ | refine blk_drew ?_ | refine blk_alloc ?_ _)); exact BK161.out), (by (with_reducible repeat (first | refine blk_drewN ?_ _ | refine blk_drew ?_ | refine blk_alloc ?_ _)); exact BK183.out), GW183.out, GE183.out, NB150_183.out, NB183_150.out, NB160_183.out, NB183_160.out, NB155_183.out, NB183_155.out, NB161_183.out, NB183_161.out, (by repeat (first | (with_reducible first | exact HI150.out | apply IsS47.alloc | apply IsS47.drewN | apply IsS47.drew | apply IsS47.set_0 | apply IsS47.set_1 | apply IsS47.set_2 | apply IsS47.set_3 | refine IsS47.far ?_ NB150_155.out _ | refine IsS47.far ?_ NB150_161.out _ | refine IsS47.far ?_ NB150_183.out _) | exact HI150.out)), (by repeat (first | (with_reducible first | exact HI160.out | apply IsS47.alloc | apply IsS47.drewN | apply IsS47.drew | apply IsS47.set_0 | apply IsS47.set_1 | apply IsS47.set_2 | apply IsS47.set_3 | refine IsS47.far ?_ NB160_155.out _ | refine IsS47.far ?_ NB160_161.out _ | refine IsS47.far ?_ NB160_183.out _) | exact HI160.out)), (by repeat (first | (with_reducible first | exact HB.out | apply below_alloc | apply pw_below_drewN | apply below_drew1 | refine below_set ?_ (IsS47.ge HI150.out) | refine below_set ?_ (IsS47.ge HI160.out) | refine below_set ?_ GE155.out | refine below_set ?_ GE161.out | refine below_set ?_ GE183.out) | exact HB.out))⟩)
            rintro gb183 w32 ⟨hS_, h0_, h1_, h2_, h3_, h4_, h5_, h6_, h7_, h8_, h9_, h10_, h11_, h12_, h13_, h14_, h15_⟩
            have n0_ : Aside0 (w32.heap[gb155]? = some (.cells #[.int .u64 x156000_1, .int .u64 x156001_1, .int .u64 x156002_1, .int .u64 x156003_1] 34 (0, 0))) := ⟨h0_⟩
            have n1_ : Aside0 (w32.heap[gb161]? = some (.cells #[.int .u64 t151, .int .u64 t152, .int .u64 t153, .int .u64 t154] 34 (0, 0))) := ⟨h1_⟩
            have n2_ : Aside0 (w32.heap[gb183]? = some (.cells #[.int .u64 0, .int .u64 0, .int .u64 0, .int .u64 0] 34 (0, 0))) := ⟨h2_⟩
            have n3_ : Aside0 (w.heap.size ≤ gb183) := ⟨h3_⟩
            have n4_ : Aside0 (w.heap.size ≤ gb183) := ⟨h4_⟩
            have n5_ : Aside0 (g150 ≠ gb183) := ⟨h5_⟩
            have n6_ : Aside0 (gb183 ≠ g150) := ⟨h6_⟩
            have n7_ : Aside0 (g160 ≠ gb183) := ⟨h7_⟩
            have n8_ : Aside0 (gb183 ≠ g160) := ⟨h8_⟩
            have n9_ : Aside0 (gb155 ≠ gb183) := ⟨h9_⟩
            have n10_ : Aside0 (gb183 ≠ gb155) := ⟨h10_⟩
            have n11_ : Aside0 (gb161 ≠ gb183) := ⟨h11_⟩
            have n12_ : Aside0 (gb183 ≠ gb161) := ⟨h12_⟩
            have n13_ : Aside0 (IsS47 w w32 g150 t179 t180 t181 t182) := ⟨h13_⟩
            have n14_ : Aside0 (IsS47 w w32 g160 x161000_1 x161001_1 x161002_1 x161003_1) := ⟨h14_⟩
            have n15_ : Aside0 (Below w.heap.size w w32) := ⟨h15_⟩
            clear BK155
            clear BK161
            clear HI150
            clear HI160
            clear HB
            clear h0_ h1_ h2_ h3_ h4_ h5_ h6_ h7_ h8_ h9_ h10_ h11_ h12_ h13_ h14_ h15_
            have BK155 := n0_
            have BK161 := n1_
            have BK183 := n2_
            have GW183 := n3_
            have GE183 := n4_
            have NB150_183 := n5_
            have NB183_150 := n6_
            have NB160_183 := n7_
            have NB183_160 := n8_
            have NB155_183 := n9_
            have NB183_155 := n10_
            have NB161_183 := n11_
            have NB183_161 := n12_
            have HI150 := n13_
            have HI160 := n14_
            have HB := n15_
            clear n0_ n1_ n2_ n3_ n4_ n5_ n6_ n7_ n8_ n9_ n10_ n11_ n12_ n13_ n14_ n15_
            have hHeld : w32.cell? ⟨gb155, 0, none⟩ = some (.int .u64 x156000_1) ∧ w32.cell? ⟨gb155, 1, none⟩ = some (.int .u64 x156001_1) ∧ w32.cell? ⟨gb155, 2, none⟩ = some (.int .u64 x156002_1) ∧ w32.cell? ⟨gb155, 3, none⟩ = some (.int .u64 x156003_1) ∧ w32.cell? (ad173.add ((x13_1).toNat * 3)) = some (.int .i64 ((rd_T40 l3 x13_1).f0)) ∧ w32.cell? ⟨(ad173.add ((x13_1).toNat * 3)).block, (ad173.add ((x13_1).toNat * 3)).off + 1, none⟩ = some (.int .u64 ((rd_T40 l3 x13_1).f1)) ∧ w32.cell? ⟨(ad173.add ((x13_1).toNat * 3)).block, (ad173.add ((x13_1).toNat * 3)).off + 2, none⟩ = some (.int .u64 ((rd_T40 l3 x13_1).f2)) := hS_
            refine norm_ (a' := ?_) ?_ ?_
            rotate_left
            · simp only [putAll, Act.put, List.setIfInBounds_toArray, List.set_cons_zero, List.set_cons_succ]
              rfl
            refine one_ (i := 11) (N := none) #[true, true, true, true, true, true, true, true, true, true, true, true, false] rfl rfl (one_of HT_.out (by kernel_rfl)) (by decide) (fun K hK => ?_)
            have hs33 : w32.cell? ⟨gb183, 0, none⟩ = some (.int .u64 0) := (blk_cell BK183.out 0).trans rfl
            have hfs33 := blk_frozen BK183.out 0
            have hns33_0 := NB155_183.out
            have hns33_1 := NB161_183.out
            have hms33_0 := NB183_155.out
            have hms33_1 := NB183_161.out
            have hs34 : w32.cell? ⟨gb183, 1, none⟩ = some (.int .u64 0) := (blk_cell BK183.out 1).trans rfl
            have hfs34 := blk_frozen BK183.out 1
            have hns34_0 := NB155_183.out
            have hns34_1 := NB161_183.out
            have hms34_0 := NB183_155.out
            have hms34_1 := NB183_161.out
            have hs35 : w32.cell? ⟨gb183, 2, none⟩ = some (.int .u64 0) := (blk_cell BK183.out 2).trans rfl
            have hfs35 := blk_frozen BK183.out 2
            have hns35_0 := NB155_183.out
            have hns35_1 := NB161_183.out
            have hms35_0 := NB183_155.out
            have hms35_1 := NB183_161.out
            have hs36 : w32.cell? ⟨gb183, 3, none⟩ = some (.int .u64 0) := (blk_cell BK183.out 3).trans rfl
            have hfs36 := blk_frozen BK183.out 3
            have hns36_0 := NB155_183.out
            have hns36_1 := NB161_183.out
            have hms36_0 := NB183_155.out
            have hms36_1 := NB183_161.out
            refine skip_ (w1 := ?_) (by rfl) rfl ?_ ?_
            rotate_left
            · go_simp
              rfl
            refine hK.out _ _ ⟨((cell_far (p := ⟨gb183, _, none⟩) NB155_183.out _).trans (((cell_far (p := ⟨gb183, _, none⟩) NB155_183.out _).trans (((cell_far (p := ⟨gb183, _, none⟩) NB155_183.out _).trans (((cell_far (p := ⟨gb183, _, none⟩) NB155_183.out _).trans (hHeld.1)))))))), ((cell_far (p := ⟨gb183, _, none⟩) NB155_183.out _).trans (((cell_far (p := ⟨gb183, _, none⟩) NB155_183.out _).trans (((cell_far (p := ⟨gb183, _, none⟩) NB155_183.out _).trans (((cell_far (p := ⟨gb183, _, none⟩) NB155_183.out _).trans (hHeld.2.1)))))))), ((cell_far (p := ⟨gb183, _, none⟩) NB155_183.out _).trans (((cell_far (p := ⟨gb183, _, none⟩) NB155_183.out _).trans (((cell_far (p := ⟨gb183, _, none⟩) NB155_183.out _).trans (((cell_far (p := ⟨gb183, _, none⟩) NB155_183.out _).trans (hHeld.2.2.1)))))))), ((cell_far (p := ⟨gb183, _, none⟩) NB155_183.out _).trans (((cell_far (p := ⟨gb183, _, none⟩) NB155_183.out _).trans (((cell_far (p := ⟨gb183, _, none⟩) NB155_183.out _).trans (((cell_far (p := ⟨gb183, _, none⟩) NB155_183.out _).trans (hHeld.2.2.2.1)))))))), ((cell_far (p := ⟨gb183, _, none⟩) (by first | exact Nat.ne_of_lt (Nat.lt_of_lt_of_le (by have := World.block_lt_of_cell? _ _ hw173_0; first | rwa [add_block] at this | exact this) GW183.out) | (rw [add_block]; exact Nat.ne_of_lt (Nat.lt_of_lt_of_le (by have := World.block_lt_of_cell? _ _ hw173_0; first | rwa [add_block] at this | exact this) GW183.out)) | (show (Addr.add _ _).block ≠ _; rw [add_block]; exact Nat.ne_of_lt (Nat.lt_of_lt_of_le (by have := World.block_lt_of_cell? _ _ hw173_0; first | rwa [add_block] at this | exact this) GW183.out)) | (dsimp only; exact Nat.ne_of_lt (Nat.lt_of_lt_of_le (by have := World.block_lt_of_cell? _ _ hw173_0; first | rwa [add_block] at this | exact this) GW183.out))) _).trans (((cell_far (p := ⟨gb183, _, none⟩) (by first | exact Nat.ne_of_lt (Nat.lt_of_lt_of_le (by have := World.block_lt_of_cell? _ _ hw173_0; first | rwa [add_block] at this | exact this) GW183.out) | (rw [add_block]; exact Nat.ne_of_lt (Nat.lt_of_lt_of_le (by have := World.block_lt_of_cell? _ _ hw173_0; first | rwa [add_block] at this | exact this) GW183.out)) | (show (Addr.add _ _).block ≠ _; rw [add_block]; exact Nat.ne_of_lt (Nat.lt_of_lt_of_le (by have := World.block_lt_of_cell? _ _ hw173_0; first | rwa [add_block] at this | exact this) GW183.out)) | (dsimp only; exact Nat.ne_of_lt (Nat.lt_of_lt_of_le (by have := World.block_lt_of_cell? _ _ hw173_0; first | rwa [add_block] at this | exact this) GW183.out))) _).trans (((cell_far (p := ⟨gb183, _, none⟩) (by first | exact Nat.ne_of_lt (Nat.lt_of_lt_of_le (by have := World.block_lt_of_cell? _ _ hw173_0; first | rwa [add_block] at this | exact this) GW183.out) | (rw [add_block]; exact Nat.ne_of_lt (Nat.lt_of_lt_of_le (by have := World.block_lt_of_cell? _ _ hw173_0; first | rwa [add_block] at this | exact this) GW183.out)) | (show (Addr.add _ _).block ≠ _; rw [add_block]; exact Nat.ne_of_lt (Nat.lt_of_lt_of_le (by have := World.block_lt_of_cell? _ _ hw173_0; first | rwa [add_block] at this | exact this) GW183.out)) | (dsimp only; exact Nat.ne_of_lt (Nat.lt_of_lt_of_le (by have := World.block_lt_of_cell? _ _ hw173_0; first | rwa [add_block] at this | exact this) GW183.out))) _).trans (((cell_far (p := ⟨gb183, _, none⟩) (by first | exact Nat.ne_of_lt (Nat.lt_of_lt_of_le (by have := World.block_lt_of_cell? _ _ hw173_0; first | rwa [add_block] at this | exact this) GW183.out) | (rw [add_block]; exact Nat.ne_of_lt (Nat.lt_of_lt_of_le (by have := World.block_lt_of_cell? _ _ hw173_0; first | rwa [add_block] at this | exact this) GW183.out)) | (show (Addr.add _ _).block ≠ _; rw [add_block]; exact Nat.ne_of_lt (Nat.lt_of_lt_of_le (by have := World.block_lt_of_cell? _ _ hw173_0; first | rwa [add_block] at this | exact this) GW183.out)) | (dsimp only; exact Nat.ne_of_lt (Nat.lt_of_lt_of_le (by have := World.block_lt_of_cell? _ _ hw173_0; first | rwa [add_block] at this | exact this) GW183.out))) _).trans (hHeld.2.2.2.2.1)))))))), ((cell_far (p := ⟨gb183, _, none⟩) (by first | exact Nat.ne_of_lt (Nat.lt_of_lt_of_le (by have := World.block_lt_of_cell? _ _ hw173_1; first | rwa [add_block] at this | exact this) GW183.out) | (rw [add_block]; exact Nat.ne_of_lt (Nat.lt_of_lt_of_le (by have := World.block_lt_of_cell? _ _ hw173_1; first | rwa [add_block] at this | exact this) GW183.out)) | (show (Addr.add _ _).block ≠ _; rw [add_block]; exact Nat.ne_of_lt (Nat.lt_of_lt_of_le (by have := World.block_lt_of_cell? _ _ hw173_1; first | rwa [add_block] at this | exact this) GW183.out)) | (dsimp only; exact Nat.ne_of_lt (Nat.lt_of_lt_of_le (by have := World.block_lt_of_cell? _ _ hw173_1; first | rwa [add_block] at this | exact this) GW183.out))) _).trans (((cell_far (p := ⟨gb183, _, none⟩) (by first | exact Nat.ne_of_lt (Nat.lt_of_lt_of_le (by have := World.block_lt_of_cell? _ _ hw173_1; first | rwa [add_block] at this | exact this) GW183.out) | (rw [add_block]; exact Nat.ne_of_lt (Nat.lt_of_lt_of_le (by have := World.block_lt_of_cell? _ _ hw173_1; first | rwa [add_block] at this | exact this) GW183.out)) | (show (Addr.add _ _).block ≠ _; rw [add_block]; exact Nat.ne_of_lt (Nat.lt_of_lt_of_le (by have := World.block_lt_of_cell? _ _ hw173_1; first | rwa [add_block] at this | exact this) GW183.out)) | (dsimp only; exact Nat.ne_of_lt (Nat.lt_of_lt_of_le (by have := World.block_lt_of_cell? _ _ hw173_1; first | rwa [add_block] at this | exact this) GW183.out))) _).trans (((cell_far (p := ⟨gb183, _, none⟩) (by first | exact Nat.ne_of_lt (Nat.lt_of_lt_of_le (by have := World.block_lt_of_cell? _ _ hw173_1; first | rwa [add_block] at this | exact this) GW183.out) | (rw [add_block]; exact Nat.ne_of_lt (Nat.lt_of_lt_of_le (by have := World.block_lt_of_cell? _ _ hw173_1; first | rwa [add_block] at this | exact this) GW183.out)) | (show (Addr.add _ _).block ≠ _; rw [add_block]; exact Nat.ne_of_lt (Nat.lt_of_lt_of_le (by have := World.block_lt_of_cell? _ _ hw173_1; first | rwa [add_block] at this | exact this) GW183.out)) | (dsimp only; exact Nat.ne_of_lt (Nat.lt_of_lt_of_le (by have := World.block_lt_of_cell? _ _ hw173_1; first | rwa [add_block] at this | exact this) GW183.out))) _).trans (((cell_far (p := ⟨gb183, _, none⟩) (by first | exact Nat.ne_of_lt (Nat.lt_of_lt_of_le (by have := World.block_lt_of_cell? _ _ hw173_1; first | rwa [add_block] at this | exact this) GW183.out) | (rw [add_block]; exact Nat.ne_of_lt (Nat.lt_of_lt_of_le (by have := World.block_lt_of_cell? _ _ hw173_1; first | rwa [add_block] at this | exact this) GW183.out)) | (show (Addr.add _ _).block ≠ _; rw [add_block]; exact Nat.ne_of_lt (Nat.lt_of_lt_of_le (by have := World.block_lt_of_cell? _ _ hw173_1; first | rwa [add_block] at this | exact this) GW183.out)) | (dsimp only; exact Nat.ne_of_lt (Nat.lt_of_lt_of_le (by have := World.block_lt_of_cell? _ _ hw173_1; first | rwa [add_block] at this | exact this) GW183.out))) _).trans (hHeld.2.2.2.2.2.1)))))))), ((cell_far (p := ⟨gb183, _, none⟩) (by first | exact Nat.ne_of_lt (Nat.lt_of_lt_of_le (by have := World.block_lt_of_cell? _ _ hw173_2; first | rwa [add_block] at this | exact this) GW183.out) | (rw [add_block]; exact Nat.ne_of_lt (Nat.lt_of_lt_of_le (by have := World.block_lt_of_cell? _ _ hw173_2; first | rwa [add_block] at this | exact this) GW183.out)) | (show (Addr.add _ _).block ≠ _; rw [add_block]; exact Nat.ne_of_lt (Nat.lt_of_lt_of_le (by have := World.block_lt_of_cell? _ _ hw173_2; first | rwa [add_block] at this | exact this) GW183.out)) | (dsimp only; exact Nat.ne_of_lt (Nat.lt_of_lt_of_le (by have := World.block_lt_of_cell? _ _ hw173_2; first | rwa [add_block] at this | exact this) GW183.out))) _).trans (((cell_far (p := ⟨gb183, _, none⟩) (by first | exact Nat.ne_of_lt (Nat.lt_of_lt_of_le (by have := World.block_lt_of_cell? _ _ hw173_2; first | rwa [add_block] at this | exact this) GW183.out) | (rw [add_block]; exact Nat.ne_of_lt (Nat.lt_of_lt_of_le (by have := World.block_lt_of_cell? _ _ hw173_2; first | rwa [add_block] at this | exact this) GW183.out)) | (show (Addr.add _ _).block ≠ _; rw [add_block]; exact Nat.ne_of_lt (Nat.lt_of_lt_of_le (by have := World.block_lt_of_cell? _ _ hw173_2; first | rwa [add_block] at this | exact this) GW183.out)) | (dsimp only; exact Nat.ne_of_lt (Nat.lt_of_lt_of_le (by have := World.block_lt_of_cell? _ _ hw173_2; first | rwa [add_block] at this | exact this) GW183.out))) _).trans (((cell_far (p := ⟨gb183, _, none⟩) (by first | exact Nat.ne_of_lt (Nat.lt_of_lt_of_le (by have := World.block_lt_of_cell? _ _ hw173_2; first | rwa [add_block] at this | exact this) GW183.out) | (rw [add_block]; exact Nat.ne_of_lt (Nat.lt_of_lt_of_le (by have := World.block_lt_of_cell? _ _ hw173_2; first | rwa [add_block] at this | exact this) GW183.out)) | (show (Addr.add _ _).block ≠ _; rw [add_block]; exact Nat.ne_of_lt (Nat.lt_of_lt_of_le (by have := World.block_lt_of_cell? _ _ hw173_2; first | rwa [add_block] at this | exact this) GW183.out)) | (dsimp only; exact Nat.ne_of_lt (Nat.lt_of_lt_of_le (by have := World.block_lt_of_cell? _ _ hw173_2; first | rwa [add_block] at this | exact this) GW183.out))) _).trans (((cell_far (p := ⟨gb183, _, none⟩) (by first | exact Nat.ne_of_lt (Nat.lt_of_lt_of_le (by have := World.block_lt_of_cell? _ _ hw173_2; first | rwa [add_block] at this | exact this) GW183.out) | (rw [add_block]; exact Nat.ne_of_lt (Nat.lt_of_lt_of_le (by have := World.block_lt_of_cell? _ _ hw173_2; first | rwa [add_block] at this | exact this) GW183.out)) | (show (Addr.add _ _).block ≠ _; rw [add_block]; exact Nat.ne_of_lt (Nat.lt_of_lt_of_le (by have := World.block_lt_of_cell? _ _ hw173_2; first | rwa [add_block] at this | exact this) GW183.out)) | (dsimp only; exact Nat.ne_of_lt (Nat.lt_of_lt_of_le (by have := World.block_lt_of_cell? _ _ hw173_2; first | rwa [add_block] at this | exact this) GW183.out))) _).trans (hHeld.2.2.2.2.2.2))))))))⟩ (fun hHeld => ?_)
            clear hK K
            refine pure_ (i := 12) (N := some 15) (v := ?_) (a' := ?_) #[true, true, true, true, true, true, true, true, true, true, true, true, true] rfl rfl (any_of HT_.out (by kernel_rfl)) (fun _ _ _ h => h) (Or.inl ⟨by rfl, ?_⟩) ?_ ?_
            rotate_left
            · intro w'
              go_simp
              with_reducible rfl
            rotate_left
            · simp only [Act.put, List.setIfInBounds_toArray, List.set_cons_zero, List.set_cons_succ, i64_w, i32_w]
              rfl
            refine done_ (done_of HT_.out (by kernel_rfl)) ?_
            have hnb37 := NB183_155.out
            have hnc37 := NB155_183.out
            have hnb38 := NB183_161.out
            have hnc38 := NB161_183.out
            have hnb39 := NB183_150.out
            have hnc39 := NB150_183.out
            have hnb40 := NB183_160.out
            have hnc40 := NB160_183.out
            have hcz41_0 : w32.cell? ⟨gb183, 0, none⟩ = some (.int .u64 0) := (blk_cell BK183.out 0).trans rfl
            have hcz41_1 : w32.cell? ⟨gb183, 1, none⟩ = some (.int .u64 0) := (blk_cell BK183.out 1).trans rfl
            have hcz41_2 : w32.cell? ⟨gb183, 2, none⟩ = some (.int .u64 0) := (blk_cell BK183.out 2).trans rfl
            have hcz41_3 : w32.cell? ⟨gb183, 3, none⟩ = some (.int .u64 0) := (blk_cell BK183.out 3).trans rfl
            have hfz41_0 := blk_frozen BK183.out 0
            have hfz41_1 := blk_frozen BK183.out 1
            have hfz41_2 := blk_frozen BK183.out 2
            have hfz41_3 := blk_frozen BK183.out 3
            have hnb42 := NB155_161.out
            have hnc42 := NB161_155.out
            have hnb43 := NB155_150.out
            have hnc43 := NB150_155.out
            have hnb44 := NB155_160.out
            have hnc44 := NB160_155.out
            have hcz45_0 : w32.cell? ⟨gb155, 0, none⟩ = some (.int .u64 x156000_1) := (blk_cell BK155.out 0).trans rfl
            have hcz45_1 : w32.cell? ⟨gb155, 1, none⟩ = some (.int .u64 x156001_1) := (blk_cell BK155.out 1).trans rfl
            have hcz45_2 : w32.cell? ⟨gb155, 2, none⟩ = some (.int .u64 x156002_1) := (blk_cell BK155.out 2).trans rfl
            have hcz45_3 : w32.cell? ⟨gb155, 3, none⟩ = some (.int .u64 x156003_1) := (blk_cell BK155.out 3).trans rfl
            have hfz45_0 := blk_frozen BK155.out 0
            have hfz45_1 := blk_frozen BK155.out 1
            have hfz45_2 := blk_frozen BK155.out 2
            have hfz45_3 := blk_frozen BK155.out 3
            go_upto_region 13 with (first | ((with_reducible refine gate_callee (f := 13) rfl ?_); refine goesL_ (some 52) rfl rfl Try.func13 (by kernel_rfl) rfl #[.pointer (some ⟨g150, 0, none⟩)] rfl (by (try simp only [List.map_toArray, List.map_cons, List.map_nil]); first | done | rfl | (simp only [List.length_drop, List.length_take]; rfl)) ?_; (with_reducible refine (bucket_Bucket_Copy.calls g150 t179 t180 t181 t182 t184 t185 t186 t187 w _ ?side1 ?side2 A27.out).mono ?_); (case side1 => repeat (first | (with_reducible first | exact HI150.out | apply IsS47.alloc | apply IsS47.drewN | apply IsS47.drew | apply IsS47.set_0 | apply IsS47.set_1 | apply IsS47.set_2 | apply IsS47.set_3 | refine IsS47.far ?_ NB150_155.out _ | refine IsS47.far ?_ NB150_161.out _ | refine IsS47.far ?_ NB150_183.out _) | exact HI150.out)); (case side2 => repeat (first | (with_reducible first | exact HB.out | apply below_alloc | apply pw_below_drewN | apply below_drew1 | refine below_set ?_ (IsS47.ge HI150.out) | refine below_set ?_ (IsS47.ge HI160.out) | refine below_set ?_ GE155.out | refine below_set ?_ GE161.out | refine below_set ?_ GE183.out) | exact HB.out)); rintro e w46 ⟨g188, rfl, hi, hb, hb2, hge⟩; refine ⟨_, rfl, ?_⟩; have n0_ := Aside0.mk (blk_below (g := gb155) (o := .cells #[.int .u64 t174, .int .u64 t175, .int .u64 t176, .int .u64 t177] 34 (0, 0)) (by (with_reducible repeat (first | refine blk_drewN ?_ _ | refine blk_drew ?_ | refine blk_alloc ?_ _)); refine blk_put (cs := #[.int .u64 t174, .int .u64 t175, .int .u64 t176, .int .u64 x156003_1]) ?_ 3 _ rfl; (with_reducible repeat (first | refine blk_drewN ?_ _ | refine blk_drew ?_ | refine blk_alloc ?_ _)); refine blk_put (cs := #[.int .u64 t174, .int .u64 t175, .int .u64 x156002_1, .int .u64 x156003_1]) ?_ 2 _ rfl; (with_reducible repeat (first | refine blk_drewN ?_ _ | refine blk_drew ?_ | refine blk_alloc ?_ _)); refine blk_put (cs := #[.int .u64 t174, .int .u64 x156001_1, .int .u64 x156002_1, .int .u64 x156003_1]) ?_ 1 _ rfl; (with_reducible repeat (first | refine blk_drewN ?_ _ | refine blk_drew ?_ | refine blk_alloc ?_ _)); refine blk_put (cs := #[.int .u64 x156000_1, .int .u64 x156001_1, .int .u64 x156002_1, .int .u64 x156003_1]) ?_ 0 _ rfl; (with_reducible repeat (first | refine blk_drewN ?_ _ | refine blk_drew ?_ | refine blk_alloc ?_ _)); refine blk_far ?_ NB155_183.out _; (with_reducible repeat (first | refine blk_drewN ?_ _ | refine blk_drew ?_ | refine blk_alloc ?_ _)); refine blk_far ?_ NB155_183.out _; (with_reducible repeat (first | refine blk_drewN ?_ _ | refine blk_drew ?_ | refine blk_alloc ?_ _)); refine blk_far ?_ NB155_183.out _; (with_reducible repeat (first | refine blk_drewN ?_ _ | refine blk_drew ?_ | refine blk_alloc ?_ _)); refine blk_far ?_ NB155_183.out _; (with_reducible repeat (first | refine blk_drewN ?_ _ | refine blk_drew ?_ | refine blk_alloc ?_ _)); exact BK155.out) hb2); have n1_ := Aside0.mk (blk_below (g := gb161) (o := .cells #[.int .u64 t151, .int .u64 t152, .int .u64 t153, .int .u64 t154] 34 (0, 0)) (by (with_reducible repeat (first | refine blk_drewN ?_ _ | refine blk_drew ?_ | refine blk_alloc ?_ _)); refine blk_far ?_ NB161_155.out _; (with_reducible repeat (first | refine blk_drewN ?_ _ | refine blk_drew ?_ | refine blk_alloc ?_ _)); refine blk_far ?_ NB161_155.out _; (with_reducible repeat (first | refine blk_drewN ?_ _ | refine blk_drew ?_ | refine blk_alloc ?_ _)); refine blk_far ?_ NB161_155.out _; (with_reducible repeat (first | refine blk_drewN ?_ _ | refine blk_drew ?_ | refine blk_alloc ?_ _)); refine blk_far ?_ NB161_155.out _; (with_reducible repeat (first | refine blk_drewN ?_ _ | refine blk_drew ?_ | refine blk_alloc ?_ _)); refine blk_far ?_ NB161_183.out _; (with_reducible repeat (first | refine blk_drewN ?_ _ | refine blk_drew ?_ | refine blk_alloc ?_ _)); refine blk_far ?_ NB161_183.out _; (with_reducible repeat (first | refine blk_drewN ?_ _ | refine blk_drew ?_ | refine blk_alloc ?_ _)); refine blk_far ?_ NB161_183.out _; (with_reducible repeat (first | refine blk_drewN ?_ _ | refine blk_drew ?_ | refine blk_alloc ?_ _)); refine blk_far ?_ NB161_183.out _; (with_reducible repeat (first | refine blk_drewN ?_ _ | refine blk_drew ?_ | refine blk_alloc ?_ _)); exact BK161.out) hb2); have n2_ := Aside0.mk (IsS47.below (show IsS47 w ((((((((w32.setCell ⟨gb183, 0, none⟩ (.int .u64 t174)).setCell ⟨gb183, 1, none⟩ (.int .u64 t175)).setCell ⟨gb183, 2, none⟩ (.int .u64 t176)).setCell ⟨gb183, 3, none⟩ (.int .u64 t177)).setCell ⟨gb155, 0, none⟩ (.int .u64 t174)).setCell ⟨gb155, 1, none⟩ (.int .u64 t175)).setCell ⟨gb155, 2, none⟩ (.int .u64 t176)).setCell ⟨gb155, 3, none⟩ (.int .u64 t177)) g150 t179 t180 t181 t182 from by repeat (first | (with_reducible first | exact HI150.out | apply IsS47.alloc | apply IsS47.drewN | apply IsS47.drew | apply IsS47.set_0 | apply IsS47.set_1 | apply IsS47.set_2 | apply IsS47.set_3 | refine IsS47.far ?_ NB150_155.out _ | refine IsS47.far ?_ NB150_161.out _ | refine IsS47.far ?_ NB150_183.out _) | exact HI150.out)) hb2); have n3_ := Aside0.mk (IsS47.below (show IsS47 w ((((((((w32.setCell ⟨gb183, 0, none⟩ (.int .u64 t174)).setCell ⟨gb183, 1, none⟩ (.int .u64 t175)).setCell ⟨gb183, 2, none⟩ (.int .u64 t176)).setCell ⟨gb183, 3, none⟩ (.int .u64 t177)).setCell ⟨gb155, 0, none⟩ (.int .u64 t174)).setCell ⟨gb155, 1, none⟩ (.int .u64 t175)).setCell ⟨gb155, 2, none⟩ (.int .u64 t176)).setCell ⟨gb155, 3, none⟩ (.int .u64 t177)) g160 x161000_1 x161001_1 x161002_1 x161003_1 from by repeat (first | (with_reducible first | exact HI160.out | apply IsS47.alloc | apply IsS47.drewN | apply IsS47.drew | apply IsS47.set_0 | apply IsS47.set_1 | apply IsS47.set_2 | apply IsS47.set_3 | refine IsS47.far ?_ NB160_155.out _ | refine IsS47.far ?_ NB160_161.out _ | refine IsS47.far ?_ NB160_183.out _) | exact HI160.out)) hb2); have n4_ := Aside0.mk (blk_below (g := gb183) (o := .cells #[.int .u64 t174, .int .u64 t175, .int .u64 t176, .int .u64 t177] 34 (0, 0)) (by (with_reducible repeat (first | refine blk_drewN ?_ _ | refine blk_drew ?_ | refine blk_alloc ?_ _)); refine blk_far ?_ NB183_155.out _; (with_reducible repeat (first | refine blk_drewN ?_ _ | refine blk_drew ?_ | refine blk_alloc ?_ _)); refine blk_far ?_ NB183_155.out _; (with_reducible repeat (first | refine blk_drewN ?_ _ | refine blk_drew ?_ | refine blk_alloc ?_ _)); refine blk_far ?_ NB183_155.out _; (with_reducible repeat (first | refine blk_drewN ?_ _ | refine blk_drew ?_ | refine blk_alloc ?_ _)); refine blk_far ?_ NB183_155.out _; (with_reducible repeat (first | refine blk_drewN ?_ _ | refine blk_drew ?_ | refine blk_alloc ?_ _)); refine blk_put (cs := #[.int .u64 t174, .int .u64 t175, .int .u64 t176, .int .u64 0]) ?_ 3 _ rfl; (with_reducible repeat (first | refine blk_drewN ?_ _ | refine blk_drew ?_ | refine blk_alloc ?_ _)); refine blk_put (cs := #[.int .u64 t174, .int .u64 t175, .int .u64 0, .int .u64 0]) ?_ 2 _ rfl; (with_reducible repeat (first | refine blk_drewN ?_ _ | refine blk_drew ?_ | refine blk_alloc ?_ _)); refine blk_put (cs := #[.int .u64 t174, .int .u64 0, .int .u64 0, .int .u64 0]) ?_ 1 _ rfl; (with_reducible repeat (first | refine blk_drewN ?_ _ | refine blk_drew ?_ | refine blk_alloc ?_ _)); refine blk_put (cs := #[.int .u64 0, .int .u64 0, .int .u64 0, .int .u64 0]) ?_ 0 _ rfl; (with_reducible repeat (first | refine blk_drewN ?_ _ | refine blk_drew ?_ | refine blk_alloc ?_ _)); exact BK183.out) hb2); have n5_ := Aside0.mk (hb); have n6_ := Aside0.mk (hi); have n7_ := Aside0.mk ((Nat.ne_of_lt (Nat.lt_of_lt_of_le (IsS47.lt (show IsS47 w _ g150 t179 t180 t181 t182 from by repeat (first | (with_reducible first | exact HI150.out | apply IsS47.alloc | apply IsS47.drewN | apply IsS47.drew | apply IsS47.set_0 | apply IsS47.set_1 | apply IsS47.set_2 | apply IsS47.set_3 | refine IsS47.far ?_ NB150_155.out _ | refine IsS47.far ?_ NB150_161.out _ | refine IsS47.far ?_ NB150_183.out _) | exact HI150.out))) hge) : g150 ≠ g188)); have n8_ := Aside0.mk ((Nat.ne_of_gt (Nat.lt_of_lt_of_le (IsS47.lt (show IsS47 w _ g150 t179 t180 t181 t182 from by repeat (first | (with_reducible first | exact HI150.out | apply IsS47.alloc | apply IsS47.drewN | apply IsS47.drew | apply IsS47.set_0 | apply IsS47.set_1 | apply IsS47.set_2 | apply IsS47.set_3 | refine IsS47.far ?_ NB150_155.out _ | refine IsS47.far ?_ NB150_161.out _ | refine IsS47.far ?_ NB150_183.out _) | exact HI150.out))) hge) : g188 ≠ g150)); have n9_ := Aside0.mk ((Nat.ne_of_lt (Nat.lt_of_lt_of_le (IsS47.lt (show IsS47 w _ g160 x161000_1 x161001_1 x161002_1 x161003_1 from by repeat (first | (with_reducible first | exact HI160.out | apply IsS47.alloc | apply IsS47.drewN | apply IsS47.drew | apply IsS47.set_0 | apply IsS47.set_1 | apply IsS47.set_2 | apply IsS47.set_3 | refine IsS47.far ?_ NB160_155.out _ | refine IsS47.far ?_ NB160_161.out _ | refine IsS47.far ?_ NB160_183.out _) | exact HI160.out))) hge) : g160 ≠ g188)); have n10_ := Aside0.mk ((Nat.ne_of_gt (Nat.lt_of_lt_of_le (IsS47.lt (show IsS47 w _ g160 x161000_1 x161001_1 x161002_1 x161003_1 from by repeat (first | (with_reducible first | exact HI160.out | apply IsS47.alloc | apply IsS47.drewN | apply IsS47.drew | apply IsS47.set_0 | apply IsS47.set_1 | apply IsS47.set_2 | apply IsS47.set_3 | refine IsS47.far ?_ NB160_155.out _ | refine IsS47.far ?_ NB160_161.out _ | refine IsS47.far ?_ NB160_183.out _) | exact HI160.out))) hge) : g188 ≠ g160)); have n11_ := Aside0.mk (IsS47.ne_blk hi (blk_below (g := gb155) (o := .cells #[.int .u64 t174, .int .u64 t175, .int .u64 t176, .int .u64 t177] 34 (0, 0)) (by (with_reducible repeat (first | refine blk_drewN ?_ _ | refine blk_drew ?_ | refine blk_alloc ?_ _)); refine blk_put (cs := #[.int .u64 t174, .int .u64 t175, .int .u64 t176, .int .u64 x156003_1]) ?_ 3 _ rfl; (with_reducible repeat (first | refine blk_drewN ?_ _ | refine blk_drew ?_ | refine blk_alloc ?_ _)); refine blk_put (cs := #[.int .u64 t174, .int .u64 t175, .int .u64 x156002_1, .int .u64 x156003_1]) ?_ 2 _ rfl; (with_reducible repeat (first | refine blk_drewN ?_ _ | refine blk_drew ?_ | refine blk_alloc ?_ _)); refine blk_put (cs := #[.int .u64 t174, .int .u64 x156001_1, .int .u64 x156002_1, .int .u64 x156003_1]) ?_ 1 _ rfl; (with_reducible repeat (first | refine blk_drewN ?_ _ | refine blk_drew ?_ | refine blk_alloc ?_ _)); refine blk_put (cs := #[.int .u64 x156000_1, .int .u64 x156001_1, .int .u64 x156002_1, .int .u64 x156003_1]) ?_ 0 _ rfl; (with_reducible repeat (first | refine blk_drewN ?_ _ | refine blk_drew ?_ | refine blk_alloc ?_ _)); refine blk_far ?_ NB155_183.out _; (with_reducible repeat (first | refine blk_drewN ?_ _ | refine blk_drew ?_ | refine blk_alloc ?_ _)); refine blk_far ?_ NB155_183.out _; (with_reducible repeat (first | refine blk_drewN ?_ _ | refine blk_drew ?_ | refine blk_alloc ?_ _)); refine blk_far ?_ NB155_183.out _; (with_reducible repeat (first | refine blk_drewN ?_ _ | refine blk_drew ?_ | refine blk_alloc ?_ _)); refine blk_far ?_ NB155_183.out _; (with_reducible repeat (first | refine blk_drewN ?_ _ | refine blk_drew ?_ | refine blk_alloc ?_ _)); exact BK155.out) hb2) (by decide)); have n12_ := Aside0.mk (Ne.symm (IsS47.ne_blk hi (blk_below (g := gb155) (o := .cells #[.int .u64 t174, .int .u64 t175, .int .u64 t176, .int .u64 t177] 34 (0, 0)) (by (with_reducible repeat (first | refine blk_drewN ?_ _ | refine blk_drew ?_ | refine blk_alloc ?_ _)); refine blk_put (cs := #[.int .u64 t174, .int .u64 t175, .int .u64 t176, .int .u64 x156003_1]) ?_ 3 _ rfl; (with_reducible repeat (first | refine blk_drewN ?_ _ | refine blk_drew ?_ | refine blk_alloc ?_ _)); refine blk_put (cs := #[.int .u64 t174, .int .u64 t175, .int .u64 x156002_1, .int .u64 x156003_1]) ?_ 2 _ rfl; (with_reducible repeat (first | refine blk_drewN ?_ _ | refine blk_drew ?_ | refine blk_alloc ?_ _)); refine blk_put (cs := #[.int .u64 t174, .int .u64 x156001_1, .int .u64 x156002_1, .int .u64 x156003_1]) ?_ 1 _ rfl; (with_reducible repeat (first | refine blk_drewN ?_ _ | refine blk_drew ?_ | refine blk_alloc ?_ _)); refine blk_put (cs := #[.int .u64 x156000_1, .int .u64 x156001_1, .int .u64 x156002_1, .int .u64 x156003_1]) ?_ 0 _ rfl; (with_reducible repeat (first | refine blk_drewN ?_ _ | refine blk_drew ?_ | refine blk_alloc ?_ _)); refine blk_far ?_ NB155_183.out _; (with_reducible repeat (first | refine blk_drewN ?_ _ | refine blk_drew ?_ | refine blk_alloc ?_ _)); refine blk_far ?_ NB155_183.out _; (with_reducible repeat (first | refine blk_drewN ?_ _ | refine blk_drew ?_ | refine blk_alloc ?_ _)); refine blk_far ?_ NB155_183.out _; (with_reducible repeat (first | refine blk_drewN ?_ _ | refine blk_drew ?_ | refine blk_alloc ?_ _)); refine blk_far ?_ NB155_183.out _; (with_reducible repeat (first | refine blk_drewN ?_ _ | refine blk_drew ?_ | refine blk_alloc ?_ _)); exact BK155.out) hb2) (by decide))); have n13_ := Aside0.mk (IsS47.ne_blk hi (blk_below (g := gb161) (o := .cells #[.int .u64 t151, .int .u64 t152, .int .u64 t153, .int .u64 t154] 34 (0, 0)) (by (with_reducible repeat (first | refine blk_drewN ?_ _ | refine blk_drew ?_ | refine blk_alloc ?_ _)); refine blk_far ?_ NB161_155.out _; (with_reducible repeat (first | refine blk_drewN ?_ _ | refine blk_drew ?_ | refine blk_alloc ?_ _)); refine blk_far ?_ NB161_155.out _; (with_reducible repeat (first | refine blk_drewN ?_ _ | refine blk_drew ?_ | refine blk_alloc ?_ _)); refine blk_far ?_ NB161_155.out _; (with_reducible repeat (first | refine blk_drewN ?_ _ | refine blk_drew ?_ | refine blk_alloc ?_ _)); refine blk_far ?_ NB161_155.out _; (with_reducible repeat (first | refine blk_drewN ?_ _ | refine blk_drew ?_ | refine blk_alloc ?_ _)); refine blk_far ?_ NB161_183.out _; (with_reducible repeat (first | refine blk_drewN ?_ _ | refine blk_drew ?_ | refine blk_alloc ?_ _)); refine blk_far ?_ NB161_183.out _; (with_reducible repeat (first | refine blk_drewN ?_ _ | refine blk_drew ?_ | refine blk_alloc ?_ _)); refine blk_far ?_ NB161_183.out _; (with_reducible repeat (first | refine blk_drewN ?_ _ | refine blk_drew ?_ | refine blk_alloc ?_ _)); refine blk_far ?_ NB161_183.out _; (with_reducible repeat (first | refine blk_drewN ?_ _ | refine blk_drew ?_ | refine blk_alloc ?_ _)); exact BK161.out) hb2) (by decide)); have n14_ := Aside0.mk (Ne.symm (IsS47.ne_blk hi (blk_below (g := gb161) (o := .cells #[.int .u64 t151, .int .u64 t152, .int .u64 t153, .int .u64 t154] 34 (0, 0)) (by (with_reducible repeat (first | refine blk_drewN ?_ _ | refine blk_drew ?_ | refine blk_alloc ?_ _)); refine blk_far ?_ NB161_155.out _; (with_reducible repeat (first | refine blk_drewN ?_ _ | refine blk_drew ?_ | refine blk_alloc ?_ _)); refine blk_far ?_ NB161_155.out _; (with_reducible repeat (first | refine blk_drewN ?_ _ | refine blk_drew ?_ | refine blk_alloc ?_ _)); refine blk_far ?_ NB161_155.out _; (with_reducible repeat (first | refine blk_drewN ?_ _ | refine blk_drew ?_ | refine blk_alloc ?_ _)); refine blk_far ?_ NB161_155.out _; (with_reducible repeat (first | refine blk_drewN ?_ _ | refine blk_drew ?_ | refine blk_alloc ?_ _)); refine blk_far ?_ NB161_183.out _; (with_reducible repeat (first | refine blk_drewN ?_ _ | refine blk_drew ?_ | refine blk_alloc ?_ _)); refine blk_far ?_ NB161_183.out _; (with_reducible repeat (first | refine blk_drewN ?_ _ | refine blk_drew ?_ | refine blk_alloc ?_ _)); refine blk_far ?_ NB161_183.out _; (with_reducible repeat (first | refine blk_drewN ?_ _ | refine blk_drew ?_ | refine blk_alloc ?_ _)); refine blk_far ?_ NB161_183.out _; (with_reducible repeat (first | refine blk_drewN ?_ _ | refine blk_drew ?_ | refine blk_alloc ?_ _)); exact BK161.out) hb2) (by decide))); have n15_ := Aside0.mk (IsS47.ne_blk hi (blk_below (g := gb183) (o := .cells #[.int .u64 t174, .int .u64 t175, .int .u64 t176, .int .u64 t177] 34 (0, 0)) (by (with_reducible repeat (first | refine blk_drewN ?_ _ | refine blk_drew ?_ | refine blk_alloc ?_ _)); refine blk_far ?_ NB183_155.out _; (with_reducible repeat (first | refine blk_drewN ?_ _ | refine blk_drew ?_ | refine blk_alloc ?_ _)); refine blk_far ?_ NB183_155.out _; (with_reducible repeat (first | refine blk_drewN ?_ _ | refine blk_drew ?_ | refine blk_alloc ?_ _)); refine blk_far ?_ NB183_155.out _; (with_reducible repeat (first | refine blk_drewN ?_ _ | refine blk_drew ?_ | refine blk_alloc ?_ _)); refine blk_far ?_ NB183_155.out _; (with_reducible repeat (first | refine blk_drewN ?_ _ | refine blk_drew ?_ | refine blk_alloc ?_ _)); refine blk_put (cs := #[.int .u64 t174, .int .u64 t175, .int .u64 t176, .int .u64 0]) ?_ 3 _ rfl; (with_reducible repeat (first | refine blk_drewN ?_ _ | refine blk_drew ?_ | refine blk_alloc ?_ _)); refine blk_put (cs := #[.int .u64 t174, .int .u64 t175, .int .u64 0, .int .u64 0]) ?_ 2 _ rfl; (with_reducible repeat (first | refine blk_drewN ?_ _ | refine blk_drew ?_ | refine blk_alloc ?_ _)); refine blk_put (cs := #[.int .u64 t174, .int .u64 0, .int .u64 0, .int .u64 0]) ?_ 1 _ rfl; (with_reducible repeat (first | refine blk_drewN ?_ _ | refine blk_drew ?_ | refine blk_alloc ?_ _)); refine blk_put (cs := #[.int .u64 0, .int .u64 0, .int .u64 0, .int .u64 0]) ?_ 0 _ rfl; (with_reducible repeat (first | refine blk_drewN ?_ _ | refine blk_drew ?_ | refine blk_alloc ?_ _)); exact BK183.out) hb2) (by decide)); have n16_ := Aside0.mk (Ne.symm (IsS47.ne_blk hi (blk_below (g := gb183) (o := .cells #[.int .u64 t174, .int .u64 t175, .int .u64 t176, .int .u64 t177] 34 (0, 0)) (by (with_reducible repeat (first | refine blk_drewN ?_ _ | refine blk_drew ?_ | refine blk_alloc ?_ _)); refine blk_far ?_ NB183_155.out _; (with_reducible repeat (first | refine blk_drewN ?_ _ | refine blk_drew ?_ | refine blk_alloc ?_ _)); refine blk_far ?_ NB183_155.out _; (with_reducible repeat (first | refine blk_drewN ?_ _ | refine blk_drew ?_ | refine blk_alloc ?_ _)); refine blk_far ?_ NB183_155.out _; (with_reducible repeat (first | refine blk_drewN ?_ _ | refine blk_drew ?_ | refine blk_alloc ?_ _)); refine blk_far ?_ NB183_155.out _; (with_reducible repeat (first | refine blk_drewN ?_ _ | refine blk_drew ?_ | refine blk_alloc ?_ _)); refine blk_put (cs := #[.int .u64 t174, .int .u64 t175, .int .u64 t176, .int .u64 0]) ?_ 3 _ rfl; (with_reducible repeat (first | refine blk_drewN ?_ _ | refine blk_drew ?_ | refine blk_alloc ?_ _)); refine blk_put (cs := #[.int .u64 t174, .int .u64 t175, .int .u64 0, .int .u64 0]) ?_ 2 _ rfl; (with_reducible repeat (first | refine blk_drewN ?_ _ | refine blk_drew ?_ | refine blk_alloc ?_ _)); refine blk_put (cs := #[.int .u64 t174, .int .u64 0, .int .u64 0, .int .u64 0]) ?_ 1 _ rfl; (with_reducible repeat (first | refine blk_drewN ?_ _ | refine blk_drew ?_ | refine blk_alloc ?_ _)); refine blk_put (cs := #[.int .u64 0, .int .u64 0, .int .u64 0, .int .u64 0]) ?_ 0 _ rfl; (with_reducible repeat (first | refine blk_drewN ?_ _ | refine blk_drew ?_ | refine blk_alloc ?_ _)); exact BK183.out) hb2) (by decide))); clear BK155; clear BK161; clear HI150; clear HI160; clear BK183; clear HB; have BK155 := n0_; have BK161 := n1_; have HI150 := n2_; have HI160 := n3_; have BK183 := n4_; have HB := n5_; have HI188 := n6_; have NB150_188 := n7_; have NB188_150 := n8_; have NB160_188 := n9_; have NB188_160 := n10_; have NB188_155 := n11_; have NB155_188 := n12_; have NB188_161 := n13_; have NB161_188 := n14_; have NB188_183 := n15_; have NB183_188 := n16_; clear n0_ n1_ n2_ n3_ n4_ n5_ n6_ n7_ n8_ n9_ n10_ n11_ n12_ n13_ n14_ n15_ n16_; (try clear hb); (try clear hb2); (try clear hk); (try clear hi); (try clear hge)))
            (try simp only [Act.put, List.setIfInBounds_toArray, List.set_cons_zero, List.set_cons_succ])
            go_cut [75] (fun v75 wc => ∃ (kq : Nat) (x75_27 : Bool) (x151000_27 : Int) (x151001_27 : Int) (x151002_27 : Int) (x151003_27 : Int) (x189000_27 : Int) (x189001_27 : Int) (x189002_27 : Int) (x189003_27 : Int), v75 = .bool x75_27 ∧ Aside0 (octroilaw10_BucketPlays.j1 kq l3 x13_1 x75_27 x151000_27 x151001_27 x151002_27 x151003_27 t174 t175 t176 t177 x161000_1 x161001_1 x161002_1 x161003_1 t151 t152 t153 t154 x189000_27 x189001_27 x189002_27 x189003_27 = some r) ∧ Aside0 (kq ≤ k1) ∧ Aside0 (wc.heap[gb155]? = some (.cells #[.int .u64 t174, .int .u64 t175, .int .u64 t176, .int .u64 t177] 34 (0, 0))) ∧ Aside0 (wc.heap[gb161]? = some (.cells #[.int .u64 t151, .int .u64 t152, .int .u64 t153, .int .u64 t154] 34 (0, 0))) ∧ Aside0 (wc.heap[gb183]? = some (.cells #[.int .u64 t174, .int .u64 t175, .int .u64 t176, .int .u64 t177] 34 (0, 0))) ∧ Aside0 (IsS47 w wc g150 x151000_27 x151001_27 x151002_27 x151003_27) ∧ Aside0 (IsS47 w wc g160 x161000_1 x161001_1 x161002_1 x161003_1) ∧ Aside0 (IsS47 w wc g188 x189000_27 x189001_27 x189002_27 x189003_27) ∧ Aside0 (Below w.heap.size w wc))
            case first =>
              have H := HC28.out
              clear HC28
              by_cases c47 : t178 = true
              · subst c47
                have H1 : ((bucket_Bucket_Tick.f t179 t180 t181 t182).bind fun bt189 => (if bt189.1 = t176 then ((bucket_Bucket_Tick.f t184 t185 t186 t187).bind fun bt194 => (if bt194.1 = t176 then ((bucket_Bucket_Level.f bt194.2.1 bt194.2.2.1 bt194.2.2.2.1 bt194.2.2.2.2 0).bind fun bt199 => (octroilaw10_BucketPlays.j1 k1 l3 x13_1 (bt199.1 != t177) bt189.2.1 bt189.2.2.1 bt189.2.2.2.1 bt189.2.2.2.2 t174 t175 t176 t177 x161000_1 x161001_1 x161002_1 x161003_1 t151 t152 t153 t154 bt199.2.1 bt199.2.2.1 bt199.2.2.2.1 bt199.2.2.2.2)) else (octroilaw10_BucketPlays.j1 k1 l3 x13_1 true bt189.2.1 bt189.2.2.1 bt189.2.2.2.1 bt189.2.2.2.2 t174 t175 t176 t177 x161000_1 x161001_1 x161002_1 x161003_1 t151 t152 t153 t154 bt194.2.1 bt194.2.2.1 bt194.2.2.2.1 bt194.2.2.2.2))) else (octroilaw10_BucketPlays.j1 k1 l3 x13_1 true bt189.2.1 bt189.2.2.1 bt189.2.2.2.1 bt189.2.2.2.2 t174 t175 t176 t177 x161000_1 x161001_1 x161002_1 x161003_1 t151 t152 t153 t154 t184 t185 t186 t187))) = some r := by rw [if_pos rfl] at H; exact H
                clear H
                have H := H1
                clear H1
                replace H := Option.bind_eq_some_iff.mp H
                obtain ⟨⟨t189, t190, t191, t192, t193⟩, A480, H⟩ := H
                replace H : (if t189 = t176 then ((bucket_Bucket_Tick.f t184 t185 t186 t187).bind fun bt194 => (if bt194.1 = t176 then ((bucket_Bucket_Level.f bt194.2.1 bt194.2.2.1 bt194.2.2.2.1 bt194.2.2.2.2 0).bind fun bt199 => (octroilaw10_BucketPlays.j1 k1 l3 x13_1 (bt199.1 != t177) t190 t191 t192 t193 t174 t175 t176 t177 x161000_1 x161001_1 x161002_1 x161003_1 t151 t152 t153 t154 bt199.2.1 bt199.2.2.1 bt199.2.2.2.1 bt199.2.2.2.2)) else (octroilaw10_BucketPlays.j1 k1 l3 x13_1 true t190 t191 t192 t193 t174 t175 t176 t177 x161000_1 x161001_1 x161002_1 x161003_1 t151 t152 t153 t154 bt194.2.1 bt194.2.2.1 bt194.2.2.2.1 bt194.2.2.2.2))) else (octroilaw10_BucketPlays.j1 k1 l3 x13_1 true t190 t191 t192 t193 t174 t175 t176 t177 x161000_1 x161001_1 x161002_1 x161003_1 t151 t152 t153 t154 t184 t185 t186 t187)) = some r := H
                have A48 := Aside0.mk A480
                clear A480
                by_cases c49 : t189 = t176
                · rw [if_pos c49] at H
                  have c49b0 : (t189 == t176) = true := beq_iff_eq.mpr c49
                  have c49b1 : (t189 != t176) = false := bne_eq_false_iff_eq.mpr c49
                  clear c49
                  (first | rw [c49b0] | (simp only [i64_w, i32_w]; rw [c49b0]) | rw [c49b1] | skip)
                  replace H := Option.bind_eq_some_iff.mp H
                  obtain ⟨⟨t194, t195, t196, t197, t198⟩, A500, H⟩ := H
                  replace H : (if t194 = t176 then ((bucket_Bucket_Level.f t195 t196 t197 t198 0).bind fun bt199 => (octroilaw10_BucketPlays.j1 k1 l3 x13_1 (bt199.1 != t177) t190 t191 t192 t193 t174 t175 t176 t177 x161000_1 x161001_1 x161002_1 x161003_1 t151 t152 t153 t154 bt199.2.1 bt199.2.2.1 bt199.2.2.2.1 bt199.2.2.2.2)) else (octroilaw10_BucketPlays.j1 k1 l3 x13_1 true t190 t191 t192 t193 t174 t175 t176 t177 x161000_1 x161001_1 x161002_1 x161003_1 t151 t152 t153 t154 t195 t196 t197 t198)) = some r := H
                  have A50 := Aside0.mk A500
                  clear A500
                  by_cases c51 : t194 = t176
                  · rw [if_pos c51] at H
                    have c51b0 : (t194 == t176) = true := beq_iff_eq.mpr c51
                    have c51b1 : (t194 != t176) = false := bne_eq_false_iff_eq.mpr c51
                    clear c51
                    replace H := Option.bind_eq_some_iff.mp H
                    obtain ⟨⟨t199, t200, t201, t202, t203⟩, A520, H⟩ := H
                    replace H : (octroilaw10_BucketPlays.j1 k1 l3 x13_1 (t199 != t177) t190 t191 t192 t193 t174 t175 t176 t177 x161000_1 x161001_1 x161002_1 x161003_1 t151 t152 t153 t154 t200 t201 t202 t203) = some r := H
                    have A52 := Aside0.mk A520
                    clear A520
                    have H' := Aside0.mk H
                    clear H
                    try go_wp2
                    have n0_ := Aside0.mk (blk_drew BK155.out)
                    have n1_ := Aside0.mk (blk_drew BK161.out)
                    have n2_ := Aside0.mk (blk_drew BK183.out)
                    have n3_ := Aside0.mk (IsS47.drew HI150.out)
                    have n4_ := Aside0.mk (IsS47.drew HI160.out)
                    have n5_ := Aside0.mk (IsS47.drew HI188.out)
                    have n6_ := Aside0.mk (below_drew1 HB.out)
                    clear BK155
                    clear BK161
                    clear BK183
                    clear HI150
                    clear HI160
                    clear HI188
                    clear HB
                    have BK155 := n0_
                    have BK161 := n1_
                    have BK183 := n2_
                    have HI150 := n3_
                    have HI160 := n4_
                    have HI188 := n5_
                    have HB := n6_
                    clear n0_ n1_ n2_ n3_ n4_ n5_ n6_
                    refine start_ (n := 23) (S := fun w' => w'.cell? ⟨gb155, 0, none⟩ = some (.int .u64 t174) ∧ w'.cell? ⟨gb155, 1, none⟩ = some (.int .u64 t175) ∧ w'.cell? ⟨gb155, 2, none⟩ = some (.int .u64 t176) ∧ w'.cell? ⟨gb155, 3, none⟩ = some (.int .u64 t177)) (ds := []) #[false, false, false, false, false, false, false, false, false, false, false, false, false, false, false, false, false, false, false, false, false, false, false] (by kernel_rfl) rfl rfl ⟨(blk_cell BK155.out 0).trans rfl, (blk_cell BK155.out 1).trans rfl, (blk_cell BK155.out 2).trans rfl, (blk_cell BK155.out 3).trans rfl⟩ (fun hHeld => ?_); refine with_tabW octroilaw10_BucketPlays.tab13 octroilaw10_BucketPlays.bits13 (fun HT_ HW_ => ?_)
                    generalize w46.drew = w53 at BK155 BK161 BK183 HI150 HI160 HI188 HB hHeld ⊢
                    refine pure_ (i := 0) (N := some 53) (v := ?_) (a' := ?_) #[true, false, false, false, false, false, false, false, false, false, false, false, false, false, false, false, false, false, false, false, false, false, false] rfl rfl (any_of HT_.out (by kernel_rfl)) (fun _ _ _ h => h) (Or.inl ⟨by rfl, ?_⟩) ?_ ?_
                    rotate_left
                    · intro w'
                      go_simp
                      with_reducible rfl
                    rotate_left
                    · simp only [Act.put, List.setIfInBounds_toArray, List.set_cons_zero, List.set_cons_succ, i64_w, i32_w]
                      rfl
                    refine pure_ (i := 1) (N := some 54) (v := ?_) (a' := ?_) #[true, true, false, false, false, false, false, false, false, false, false, false, false, false, false, false, false, false, false, false, false, false, false] rfl rfl (any_of HT_.out (by kernel_rfl)) (fun _ _ _ h => h) (Or.inl ⟨by rfl, ?_⟩) ?_ ?_
                    rotate_left
                    · intro w'
                      go_simp
                      with_reducible rfl
                    rotate_left
                    · simp only [Act.put, List.setIfInBounds_toArray, List.set_cons_zero, List.set_cons_succ, i64_w, i32_w]
                      rfl
                    refine pure_ (i := 2) (N := some 55) (v := ?_) (a' := ?_) #[true, true, true, false, false, false, false, false, false, false, false, false, false, false, false, false, false, false, false, false, false, false, false] rfl rfl (any_of HT_.out (by kernel_rfl)) (fun _ _ _ h => h) (Or.inl ⟨by rfl, ?_⟩) ?_ ?_
                    rotate_left
                    · intro w'
                      go_simp
                      with_reducible rfl
                    rotate_left
                    · simp only [Act.put, List.setIfInBounds_toArray, List.set_cons_zero, List.set_cons_succ, i64_w, i32_w]
                      rfl
                    refine pure_ (i := 3) (N := some 56) (v := ?_) (a' := ?_) #[true, true, true, true, false, false, false, false, false, false, false, false, false, false, false, false, false, false, false, false, false, false, false] rfl rfl (any_of HT_.out (by kernel_rfl)) (fun _ _ _ h => h) (Or.inl ⟨by rfl, ?_⟩) ?_ ?_
                    rotate_left
                    · intro w'
                      go_simp
                      with_reducible rfl
                    rotate_left
                    · simp only [Act.put, List.setIfInBounds_toArray, List.set_cons_zero, List.set_cons_succ, i64_w, i32_w]
                      rfl
                    refine pure_ (i := 5) (N := some 58) (v := ?_) (a' := ?_) #[true, true, true, true, false, true, false, false, false, false, false, false, false, false, false, false, false, false, false, false, false, false, false] rfl rfl (any_of HT_.out (by kernel_rfl)) (fun _ _ _ h => h) (Or.inl ⟨by rfl, ?_⟩) ?_ ?_
                    rotate_left
                    · intro w'
                      go_simp
                      with_reducible rfl
                    rotate_left
                    · simp only [Act.put, List.setIfInBounds_toArray, List.set_cons_zero, List.set_cons_succ, i64_w, i32_w]
                      rfl
                    refine take_ (i := 6) (N := some 59) (v := ?_) (a' := ?_) #[true, true, true, true, false, true, true, false, false, false, false, false, false, false, false, false, false, false, false, false, false, false, false] rfl rfl (take_ofW HT_.out HW_.out (by kernel_rfl)) (fun _ _ _ h => h) (Or.inl ⟨by rfl, ?_⟩) hHeld ?_ ?_
                    rotate_left
                    · rintro w' ⟨s0, s1, s2, s3⟩
                      go_simp
                      with_reducible rfl
                    rotate_left
                    · simp only [Act.put, List.setIfInBounds_toArray, List.set_cons_zero, List.set_cons_succ, i64_w, i32_w]
                      rfl
                    refine one_ (i := 4) (N := some 57) #[true, true, true, true, true, true, true, false, false, false, false, false, false, false, false, false, false, false, false, false, false, false, false] rfl rfl (one_of HT_.out (by kernel_rfl)) (by decide) (fun K hK => ?_)
                    refine goes_ Try.func15 (by kernel_rfl) rfl #[.pointer (some ⟨g150, 0, none⟩)] (by rfl) rfl rfl (by (try simp only [List.map_toArray, List.map_cons, List.map_nil]); first | done | rfl | (simp only [List.length_drop, List.length_take]; rfl)) ?_
                    with_reducible refine (bucket_Bucket_Tick.calls g150 t179 t180 t181 t182 t189 t190 t191 t192 t193 w _ ?side1 ?side2 A48.out).mono ?_
                    (case side1 => repeat (first | (with_reducible first | exact HI150.out | apply IsS47.alloc | apply IsS47.drewN | apply IsS47.drew | apply IsS47.set_0 | apply IsS47.set_1 | apply IsS47.set_2 | apply IsS47.set_3 | refine IsS47.far ?_ NB150_155.out _ | refine IsS47.far ?_ NB150_161.out _ | refine IsS47.far ?_ NB150_183.out _) | exact HI150.out))
                    (case side2 => repeat (first | (with_reducible first | exact HB.out | apply below_alloc | apply pw_below_drewN | apply below_drew1 | refine below_set ?_ (IsS47.ge HI150.out) | refine below_set ?_ (IsS47.ge HI160.out) | refine below_set ?_ (IsS47.ge HI188.out) | refine below_set ?_ GE155.out | refine below_set ?_ GE161.out | refine below_set ?_ GE183.out) | exact HB.out))
                    rintro e w54 ⟨rfl, hi, hb, hk⟩
                    refine ⟨_, rfl, ?_⟩
                    have n0_ := Aside0.mk (KeepBut.blk hk (g' := gb155) (o := .cells #[.int .u64 t174, .int .u64 t175, .int .u64 t176, .int .u64 t177] 34 (0, 0)) (by (with_reducible repeat (first | refine blk_drewN ?_ _ | refine blk_drew ?_ | refine blk_alloc ?_ _)); exact BK155.out) NB155_150.out (by simp))
                    have n1_ := Aside0.mk (KeepBut.blk hk (g' := gb161) (o := .cells #[.int .u64 t151, .int .u64 t152, .int .u64 t153, .int .u64 t154] 34 (0, 0)) (by (with_reducible repeat (first | refine blk_drewN ?_ _ | refine blk_drew ?_ | refine blk_alloc ?_ _)); exact BK161.out) NB161_150.out (by simp))
                    have n2_ := Aside0.mk (IsS47.keepG (by repeat (first | (with_reducible first | exact HI160.out | apply IsS47.alloc | apply IsS47.drewN | apply IsS47.drew | apply IsS47.set_0 | apply IsS47.set_1 | apply IsS47.set_2 | apply IsS47.set_3 | refine IsS47.far ?_ NB160_155.out _ | refine IsS47.far ?_ NB160_161.out _ | refine IsS47.far ?_ NB160_183.out _) | exact HI160.out)) hk NB160_150.out)
                    have n3_ := Aside0.mk (KeepBut.blk hk (g' := gb183) (o := .cells #[.int .u64 t174, .int .u64 t175, .int .u64 t176, .int .u64 t177] 34 (0, 0)) (by (with_reducible repeat (first | refine blk_drewN ?_ _ | refine blk_drew ?_ | refine blk_alloc ?_ _)); exact BK183.out) NB183_150.out (by simp))
                    have n4_ := Aside0.mk (IsS47.keepG (by repeat (first | (with_reducible first | exact HI188.out | apply IsS47.alloc | apply IsS47.drewN | apply IsS47.drew | apply IsS47.set_0 | apply IsS47.set_1 | apply IsS47.set_2 | apply IsS47.set_3 | refine IsS47.far ?_ NB188_155.out _ | refine IsS47.far ?_ NB188_161.out _ | refine IsS47.far ?_ NB188_183.out _) | exact HI188.out)) hk NB188_150.out)
                    have n5_ := Aside0.mk (hb)
                    have n6_ := Aside0.mk (hi)
                    clear BK155
                    clear BK161
                    clear HI160
                    clear BK183
                    clear HI188
                    clear HB
                    clear HI150
                    have BK155 := n0_
                    have BK161 := n1_
                    have HI160 := n2_
                    have BK183 := n3_
                    have HI188 := n4_
                    have HB := n5_
                    have HI150 := n6_
                    clear n0_ n1_ n2_ n3_ n4_ n5_ n6_
                    (try clear hb)
                    (try clear hb2)
                    (try clear hk)
                    (try clear hi)
                    (try clear hge)
                    refine hK.out _ _ ⟨(blk_cell BK155.out 0).trans rfl, (blk_cell BK155.out 1).trans rfl, (blk_cell BK155.out 2).trans rfl, (blk_cell BK155.out 3).trans rfl⟩ (fun hHeld => ?_)
                    clear hK K
                    refine norm_ (a' := ?_) ?_ ?_
                    rotate_left
                    · show Act.put _ (some 57) _ = _
                      simp only [Act.put, List.setIfInBounds_toArray, List.set_cons_zero, List.set_cons_succ, i64_w, i32_w]
                      rfl
                    refine pure_ (i := 7) (N := some 60) (v := ?_) (a' := ?_) #[true, true, true, true, true, true, true, true, false, false, false, false, false, false, false, false, false, false, false, false, false, false, false] rfl rfl (any_of HT_.out (by kernel_rfl)) (fun _ _ _ h => h) (Or.inl ⟨by rfl, ?_⟩) ?_ ?_
                    rotate_left
                    · intro w'
                      go_simp
                      with_reducible rfl
                    rotate_left
                    · simp only [Act.put, List.setIfInBounds_toArray, List.set_cons_zero, List.set_cons_succ, i64_w, i32_w]
                      rfl
                    refine pure_ (i := 8) (N := some 61) (v := ?_) (a' := ?_) #[true, true, true, true, true, true, true, true, true, false, false, false, false, false, false, false, false, false, false, false, false, false, false] rfl rfl (any_of HT_.out (by kernel_rfl)) (fun _ _ _ h => h) (Or.inl ⟨by rfl, ?_⟩) ?_ ?_
                    rotate_left
                    · intro w'
                      go_simp
                      with_reducible rfl
                    rotate_left
                    · simp only [Act.put, List.setIfInBounds_toArray, List.set_cons_zero, List.set_cons_succ, i64_w, i32_w]
                      rfl
                    refine pure_ (i := 9) (N := some 62) (v := ?_) (a' := ?_) #[true, true, true, true, true, true, true, true, true, true, false, false, false, false, false, false, false, false, false, false, false, false, false] rfl rfl (any_of HT_.out (by kernel_rfl)) (fun _ _ _ h => h) (Or.inl ⟨by rfl, ?_⟩) ?_ ?_
                    rotate_left
                    · intro w'
                      go_simp
                      with_reducible rfl
                    rotate_left
                    · simp only [Act.put, List.setIfInBounds_toArray, List.set_cons_zero, List.set_cons_succ, i64_w, i32_w]
                      rfl
                    refine pure_ (i := 10) (N := some 63) (v := ?_) (a' := ?_) #[true, true, true, true, true, true, true, true, true, true, true, false, false, false, false, false, false, false, false, false, false, false, false] rfl rfl (any_of HT_.out (by kernel_rfl)) (fun _ _ _ h => h) (Or.inl ⟨by rfl, ?_⟩) ?_ ?_
                    rotate_left
                    · intro w'
                      go_simp
                      with_reducible rfl
                    rotate_left
                    · simp only [Act.put, List.setIfInBounds_toArray, List.set_cons_zero, List.set_cons_succ, i64_w, i32_w]
                      rfl
                    refine pure_ (i := 12) (N := some 65) (v := ?_) (a' := ?_) #[true, true, true, true, true, true, true, true, true, true, true, false, true, false, false, false, false, false, false, false, false, false, false] rfl rfl (any_of HT_.out (by kernel_rfl)) (fun _ _ _ h => h) (Or.inl ⟨by rfl, ?_⟩) ?_ ?_
                    rotate_left
                    · intro w'
                      go_simp
                      with_reducible rfl
                    rotate_left
                    · simp only [Act.put, List.setIfInBounds_toArray, List.set_cons_zero, List.set_cons_succ, i64_w, i32_w]
                      rfl
                    refine take_ (i := 13) (N := some 66) (v := ?_) (a' := ?_) #[true, true, true, true, true, true, true, true, true, true, true, false, true, true, false, false, false, false, false, false, false, false, false] rfl rfl (take_ofW HT_.out HW_.out (by kernel_rfl)) (fun _ _ _ h => h) (Or.inl ⟨by rfl, ?_⟩) hHeld ?_ ?_
                    rotate_left
                    · rintro w' ⟨s0, s1, s2, s3⟩
                      go_simp
                      with_reducible rfl
                    rotate_left
                    · simp only [Act.put, List.setIfInBounds_toArray, List.set_cons_zero, List.set_cons_succ, i64_w, i32_w]
                      rfl
                    refine one_ (i := 11) (N := some 64) #[true, true, true, true, true, true, true, true, true, true, true, true, true, true, false, false, false, false, false, false, false, false, false] rfl rfl (one_of HT_.out (by kernel_rfl)) (by decide) (fun K hK => ?_)
                    refine goes_ Try.func15 (by kernel_rfl) rfl #[.pointer (some ⟨g188, 0, none⟩)] (by rfl) rfl rfl (by (try simp only [List.map_toArray, List.map_cons, List.map_nil]); first | done | rfl | (simp only [List.length_drop, List.length_take]; rfl)) ?_
                    with_reducible refine (bucket_Bucket_Tick.calls g188 t184 t185 t186 t187 t194 t195 t196 t197 t198 w _ ?side1 ?side2 A50.out).mono ?_
                    (case side1 => repeat (first | (with_reducible first | exact HI188.out | apply IsS47.alloc | apply IsS47.drewN | apply IsS47.drew | apply IsS47.set_0 | apply IsS47.set_1 | apply IsS47.set_2 | apply IsS47.set_3 | refine IsS47.far ?_ NB188_155.out _ | refine IsS47.far ?_ NB188_161.out _ | refine IsS47.far ?_ NB188_183.out _) | exact HI188.out))
                    (case side2 => repeat (first | (with_reducible first | exact HB.out | apply below_alloc | apply pw_below_drewN | apply below_drew1 | refine below_set ?_ (IsS47.ge HI150.out) | refine below_set ?_ (IsS47.ge HI160.out) | refine below_set ?_ (IsS47.ge HI188.out) | refine below_set ?_ GE155.out | refine below_set ?_ GE161.out | refine below_set ?_ GE183.out) | exact HB.out))
                    rintro e w55 ⟨rfl, hi, hb, hk⟩
                    refine ⟨_, rfl, ?_⟩
                    have n0_ := Aside0.mk (KeepBut.blk hk (g' := gb155) (o := .cells #[.int .u64 t174, .int .u64 t175, .int .u64 t176, .int .u64 t177] 34 (0, 0)) (by (with_reducible repeat (first | refine blk_drewN ?_ _ | refine blk_drew ?_ | refine blk_alloc ?_ _)); exact BK155.out) NB155_188.out (by simp))
                    have n1_ := Aside0.mk (KeepBut.blk hk (g' := gb161) (o := .cells #[.int .u64 t151, .int .u64 t152, .int .u64 t153, .int .u64 t154] 34 (0, 0)) (by (with_reducible repeat (first | refine blk_drewN ?_ _ | refine blk_drew ?_ | refine blk_alloc ?_ _)); exact BK161.out) NB161_188.out (by simp))
                    have n2_ := Aside0.mk (IsS47.keepG (by repeat (first | (with_reducible first | exact HI150.out | apply IsS47.alloc | apply IsS47.drewN | apply IsS47.drew | apply IsS47.set_0 | apply IsS47.set_1 | apply IsS47.set_2 | apply IsS47.set_3 | refine IsS47.far ?_ NB150_155.out _ | refine IsS47.far ?_ NB150_161.out _ | refine IsS47.far ?_ NB150_183.out _) | exact HI150.out)) hk NB150_188.out)
                    have n3_ := Aside0.mk (IsS47.keepG (by repeat (first | (with_reducible first | exact HI160.out | apply IsS47.alloc | apply IsS47.drewN | apply IsS47.drew | apply IsS47.set_0 | apply IsS47.set_1 | apply IsS47.set_2 | apply IsS47.set_3 | refine IsS47.far ?_ NB160_155.out _ | refine IsS47.far ?_ NB160_161.out _ | refine IsS47.far ?_ NB160_183.out _) | exact HI160.out)) hk NB160_188.out)
                    have n4_ := Aside0.mk (KeepBut.blk hk (g' := gb183) (o := .cells #[.int .u64 t174, .int .u64 t175, .int .u64 t176, .int .u64 t177] 34 (0, 0)) (by (with_reducible repeat (first | refine blk_drewN ?_ _ | refine blk_drew ?_ | refine blk_alloc ?_ _)); exact BK183.out) NB183_188.out (by simp))
                    have n5_ := Aside0.mk (hb)
                    have n6_ := Aside0.mk (hi)
                    clear BK155
                    clear BK161
                    clear HI150
                    clear HI160
                    clear BK183
                    clear HB
                    clear HI188
                    have BK155 := n0_
                    have BK161 := n1_
                    have HI150 := n2_
                    have HI160 := n3_
                    have BK183 := n4_
                    have HB := n5_
                    have HI188 := n6_
                    clear n0_ n1_ n2_ n3_ n4_ n5_ n6_
                    (try clear hb)
                    (try clear hb2)
                    (try clear hk)
                    (try clear hi)
                    (try clear hge)
                    refine hK.out _ _ ⟨(blk_cell BK155.out 0).trans rfl, (blk_cell BK155.out 1).trans rfl, (blk_cell BK155.out 2).trans rfl, (blk_cell BK155.out 3).trans rfl⟩ (fun hHeld => ?_)
                    clear hK K
                    refine norm_ (a' := ?_) ?_ ?_
                    rotate_left
                    · show Act.put _ (some 64) _ = _
                      simp only [Act.put, List.setIfInBounds_toArray, List.set_cons_zero, List.set_cons_succ, i64_w, i32_w]
                      rfl
                    refine pure_ (i := 14) (N := some 67) (v := ?_) (a' := ?_) #[true, true, true, true, true, true, true, true, true, true, true, true, true, true, true, false, false, false, false, false, false, false, false] rfl rfl (any_of HT_.out (by kernel_rfl)) (fun _ _ _ h => h) (Or.inl ⟨by rfl, ?_⟩) ?_ ?_
                    rotate_left
                    · intro w'
                      go_simp
                      with_reducible rfl
                    rotate_left
                    · simp only [Act.put, List.setIfInBounds_toArray, List.set_cons_zero, List.set_cons_succ, i64_w, i32_w]
                      rfl
                    refine pure_ (i := 15) (N := some 68) (v := ?_) (a' := ?_) #[true, true, true, true, true, true, true, true, true, true, true, true, true, true, true, true, false, false, false, false, false, false, false] rfl rfl (any_of HT_.out (by kernel_rfl)) (fun _ _ _ h => h) (Or.inl ⟨by rfl, ?_⟩) ?_ ?_
                    rotate_left
                    · intro w'
                      go_simp
                      with_reducible rfl
                    rotate_left
                    · simp only [Act.put, List.setIfInBounds_toArray, List.set_cons_zero, List.set_cons_succ, i64_w, i32_w]
                      rfl
                    refine pure_ (i := 16) (N := some 69) (v := ?_) (a' := ?_) #[true, true, true, true, true, true, true, true, true, true, true, true, true, true, true, true, true, false, false, false, false, false, false] rfl rfl (any_of HT_.out (by kernel_rfl)) (fun _ _ _ h => h) (Or.inl ⟨by rfl, ?_⟩) ?_ ?_
                    rotate_left
                    · intro w'
                      go_simp
                      with_reducible rfl
                    rotate_left
                    · simp only [Act.put, List.setIfInBounds_toArray, List.set_cons_zero, List.set_cons_succ, i64_w, i32_w]
                      rfl
                    refine pure_ (i := 17) (N := some 70) (v := ?_) (a' := ?_) #[true, true, true, true, true, true, true, true, true, true, true, true, true, true, true, true, true, true, false, false, false, false, false] rfl rfl (any_of HT_.out (by kernel_rfl)) (fun _ _ _ h => h) (Or.inl ⟨by rfl, ?_⟩) ?_ ?_
                    rotate_left
                    · intro w'
                      go_simp
                      with_reducible rfl
                    rotate_left
                    · simp only [Act.put, List.setIfInBounds_toArray, List.set_cons_zero, List.set_cons_succ, i64_w, i32_w]
                      rfl
                    refine pure_ (i := 19) (N := some 72) (v := ?_) (a' := ?_) #[true, true, true, true, true, true, true, true, true, true, true, true, true, true, true, true, true, true, false, true, false, false, false] rfl rfl (any_of HT_.out (by kernel_rfl)) (fun _ _ _ h => h) (Or.inl ⟨by rfl, ?_⟩) ?_ ?_
                    rotate_left
                    · intro w'
                      go_simp
                      with_reducible rfl
                    rotate_left
                    · simp only [Act.put, List.setIfInBounds_toArray, List.set_cons_zero, List.set_cons_succ, i64_w, i32_w]
                      rfl
                    refine take_ (i := 20) (N := some 73) (v := ?_) (a' := ?_) #[true, true, true, true, true, true, true, true, true, true, true, true, true, true, true, true, true, true, false, true, true, false, false] rfl rfl (take_ofW HT_.out HW_.out (by kernel_rfl)) (fun _ _ _ h => h) (Or.inl ⟨by rfl, ?_⟩) hHeld ?_ ?_
                    rotate_left
                    · rintro w' ⟨s0, s1, s2, s3⟩
                      go_simp
                      with_reducible rfl
                    rotate_left
                    · simp only [Act.put, List.setIfInBounds_toArray, List.set_cons_zero, List.set_cons_succ, i64_w, i32_w]
                      rfl
                    refine one_ (i := 18) (N := some 71) #[true, true, true, true, true, true, true, true, true, true, true, true, true, true, true, true, true, true, true, true, true, false, false] rfl rfl (one_of HT_.out (by kernel_rfl)) (by decide) (fun K hK => ?_)
                    refine goes_ Try.func11 (by kernel_rfl) rfl #[.pointer (some ⟨g188, 0, none⟩), .int .u64 0] (by rfl) rfl rfl (by (try simp only [List.map_toArray, List.map_cons, List.map_nil]); first | done | rfl | (simp only [List.length_drop, List.length_take]; rfl)) ?_
                    with_reducible refine (bucket_Bucket_Level.calls g188 t195 t196 t197 t198 0 t199 t200 t201 t202 t203 w _ ?side1 ?side2 A52.out).mono ?_
                    (case side1 => repeat (first | (with_reducible first | exact HI188.out | apply IsS47.alloc | apply IsS47.drewN | apply IsS47.drew | apply IsS47.set_0 | apply IsS47.set_1 | apply IsS47.set_2 | apply IsS47.set_3 | refine IsS47.far ?_ NB188_155.out _ | refine IsS47.far ?_ NB188_161.out _ | refine IsS47.far ?_ NB188_183.out _) | exact HI188.out))
                    (case side2 => repeat (first | (with_reducible first | exact HB.out | apply below_alloc | apply pw_below_drewN | apply below_drew1 | refine below_set ?_ (IsS47.ge HI150.out) | refine below_set ?_ (IsS47.ge HI160.out) | refine below_set ?_ (IsS47.ge HI188.out) | refine below_set ?_ GE155.out | refine below_set ?_ GE161.out | refine below_set ?_ GE183.out) | exact HB.out))
                    rintro e w56 ⟨rfl, hi, hb, hk⟩
                    refine ⟨_, rfl, ?_⟩
                    have n0_ := Aside0.mk (KeepBut.blk hk (g' := gb155) (o := .cells #[.int .u64 t174, .int .u64 t175, .int .u64 t176, .int .u64 t177] 34 (0, 0)) (by (with_reducible repeat (first | refine blk_drewN ?_ _ | refine blk_drew ?_ | refine blk_alloc ?_ _)); exact BK155.out) NB155_188.out (by simp))
                    have n1_ := Aside0.mk (KeepBut.blk hk (g' := gb161) (o := .cells #[.int .u64 t151, .int .u64 t152, .int .u64 t153, .int .u64 t154] 34 (0, 0)) (by (with_reducible repeat (first | refine blk_drewN ?_ _ | refine blk_drew ?_ | refine blk_alloc ?_ _)); exact BK161.out) NB161_188.out (by simp))
                    have n2_ := Aside0.mk (IsS47.keepG (by repeat (first | (with_reducible first | exact HI150.out | apply IsS47.alloc | apply IsS47.drewN | apply IsS47.drew | apply IsS47.set_0 | apply IsS47.set_1 | apply IsS47.set_2 | apply IsS47.set_3 | refine IsS47.far ?_ NB150_155.out _ | refine IsS47.far ?_ NB150_161.out _ | refine IsS47.far ?_ NB150_183.out _) | exact HI150.out)) hk NB150_188.out)
                    have n3_ := Aside0.mk (IsS47.keepG (by repeat (first | (with_reducible first | exact HI160.out | apply IsS47.alloc | apply IsS47.drewN | apply IsS47.drew | apply IsS47.set_0 | apply IsS47.set_1 | apply IsS47.set_2 | apply IsS47.set_3 | refine IsS47.far ?_ NB160_155.out _ | refine IsS47.far ?_ NB160_161.out _ | refine IsS47.far ?_ NB160_183.out _) | exact HI160.out)) hk NB160_188.out)
                    have n4_ := Aside0.mk (KeepBut.blk hk (g' := gb183) (o := .cells #[.int .u64 t174, .int .u64 t175, .int .u64 t176, .int .u64 t177] 34 (0, 0)) (by (with_reducible repeat (first | refine blk_drewN ?_ _ | refine blk_drew ?_ | refine blk_alloc ?_ _)); exact BK183.out) NB183_188.out (by simp))
                    have n5_ := Aside0.mk (hb)
                    have n6_ := Aside0.mk (hi)
                    clear BK155
                    clear BK161
                    clear HI150
                    clear HI160
                    clear BK183
                    clear HB
                    clear HI188
                    have BK155 := n0_
                    have BK161 := n1_
                    have HI150 := n2_
                    have HI160 := n3_
                    have BK183 := n4_
                    have HB := n5_
                    have HI188 := n6_
                    clear n0_ n1_ n2_ n3_ n4_ n5_ n6_
                    (try clear hb)
                    (try clear hb2)
                    (try clear hk)
                    (try clear hi)
                    (try clear hge)
                    refine hK.out _ _ ⟨(blk_cell BK155.out 0).trans rfl, (blk_cell BK155.out 1).trans rfl, (blk_cell BK155.out 2).trans rfl, (blk_cell BK155.out 3).trans rfl⟩ (fun hHeld => ?_)
                    clear hK K
                    refine norm_ (a' := ?_) ?_ ?_
                    rotate_left
                    · show Act.put _ (some 71) _ = _
                      simp only [Act.put, List.setIfInBounds_toArray, List.set_cons_zero, List.set_cons_succ, i64_w, i32_w]
                      rfl
                    refine pure_ (i := 21) (N := some 74) (v := ?_) (a' := ?_) #[true, true, true, true, true, true, true, true, true, true, true, true, true, true, true, true, true, true, true, true, true, true, false] rfl rfl (any_of HT_.out (by kernel_rfl)) (fun _ _ _ h => h) (Or.inl ⟨by rfl, ?_⟩) ?_ ?_
                    rotate_left
                    · intro w'
                      go_simp
                      with_reducible rfl
                    rotate_left
                    · simp only [Act.put, List.setIfInBounds_toArray, List.set_cons_zero, List.set_cons_succ, i64_w, i32_w]
                      rfl
                    refine pure_ (i := 22) (N := some 75) (v := ?_) (a' := ?_) #[true, true, true, true, true, true, true, true, true, true, true, true, true, true, true, true, true, true, true, true, true, true, true] rfl rfl (any_of HT_.out (by kernel_rfl)) (fun _ _ _ h => h) (Or.inl ⟨by rfl, ?_⟩) ?_ ?_
                    rotate_left
                    · intro w'
                      go_simp
                      with_reducible rfl
                    rotate_left
                    · simp only [Act.put, List.setIfInBounds_toArray, List.set_cons_zero, List.set_cons_succ, i64_w, i32_w]
                      rfl
                    refine done_ (done_of HT_.out (by kernel_rfl)) ?_
                    try go_wp2
                    go_meet
                    case rel => exact ⟨_, ((t199 != t177)), (t190), (t191), (t192), (t193), (t200), (t201), (t202), (t203), (by first | rfl | (simp; done) | (simp [*]; done)), H', ⟨by have := HK1.out; first | omega | exact Nat.le_refl _⟩, ⟨by (with_reducible repeat (first | refine blk_drewN ?_ _ | refine blk_drew ?_ | refine blk_alloc ?_ _)); exact BK155.out⟩, ⟨by (with_reducible repeat (first | refine blk_drewN ?_ _ | refine blk_drew ?_ | refine blk_alloc ?_ _)); exact BK161.out⟩, ⟨by (with_reducible repeat (first | refine blk_drewN ?_ _ | refine blk_drew ?_ | refine blk_alloc ?_ _)); exact BK183.out⟩, ⟨by repeat (first | (with_reducible first | exact HI150.out | apply IsS47.alloc | apply IsS47.drewN | apply IsS47.drew | apply IsS47.set_0 | apply IsS47.set_1 | apply IsS47.set_2 | apply IsS47.set_3 | refine IsS47.far ?_ NB150_155.out _ | refine IsS47.far ?_ NB150_161.out _ | refine IsS47.far ?_ NB150_183.out _) | exact HI150.out)⟩, ⟨by repeat (first | (with_reducible first | exact HI160.out | apply IsS47.alloc | apply IsS47.drewN | apply IsS47.drew | apply IsS47.set_0 | apply IsS47.set_1 | apply IsS47.set_2 | apply IsS47.set_3 | refine IsS47.far ?_ NB160_155.out _ | refine IsS47.far ?_ NB160_161.out _ | refine IsS47.far ?_ NB160_183.out _) | exact HI160.out)⟩, ⟨by repeat (first | (with_reducible first | exact HI188.out | apply IsS47.alloc | apply IsS47.drewN | apply IsS47.drew | apply IsS47.set_0 | apply IsS47.set_1 | apply IsS47.set_2 | apply IsS47.set_3 | refine IsS47.far ?_ NB188_155.out _ | refine IsS47.far ?_ NB188_161.out _ | refine IsS47.far ?_ NB188_183.out _) | exact HI188.out)⟩, ⟨by repeat (first | (with_reducible first | exact HB.out | apply below_alloc | apply pw_below_drewN | apply below_drew1 | refine below_set ?_ (IsS47.ge HI150.out) | refine below_set ?_ (IsS47.ge HI160.out) | refine below_set ?_ (IsS47.ge HI188.out) | refine below_set ?_ GE155.out | refine below_set ?_ GE161.out | refine below_set ?_ GE183.out) | exact HB.out)⟩⟩
                  · rw [if_neg c51] at H
                    have c51b0 : (t194 == t176) = false := beq_eq_false_iff_ne.mpr c51
                    have c51b1 : (t194 != t176) = true := bne_iff_ne.mpr c51
                    have H' := Aside0.mk H
                    clear H
                    try go_wp2
                    have n0_ := Aside0.mk (blk_drew BK155.out)
                    have n1_ := Aside0.mk (blk_drew BK161.out)
                    have n2_ := Aside0.mk (blk_drew BK183.out)
                    have n3_ := Aside0.mk (IsS47.drew HI150.out)
                    have n4_ := Aside0.mk (IsS47.drew HI160.out)
                    have n5_ := Aside0.mk (IsS47.drew HI188.out)
                    have n6_ := Aside0.mk (below_drew1 HB.out)
                    clear BK155
                    clear BK161
                    clear BK183
                    clear HI150
                    clear HI160
                    clear HI188
                    clear HB
                    have BK155 := n0_
                    have BK161 := n1_
                    have BK183 := n2_
                    have HI150 := n3_
                    have HI160 := n4_
                    have HI188 := n5_
                    have HB := n6_
                    clear n0_ n1_ n2_ n3_ n4_ n5_ n6_
                    refine start_ (n := 23) (S := fun w' => w'.cell? ⟨gb155, 0, none⟩ = some (.int .u64 t174) ∧ w'.cell? ⟨gb155, 1, none⟩ = some (.int .u64 t175) ∧ w'.cell? ⟨gb155, 2, none⟩ = some (.int .u64 t176) ∧ w'.cell? ⟨gb155, 3, none⟩ = some (.int .u64 t177)) (ds := []) #[false, false, false, false, false, false, false, false, false, false, false, false, false, false, false, false, false, false, false, false, false, false, false] (by kernel_rfl) rfl rfl ⟨(blk_cell BK155.out 0).trans rfl, (blk_cell BK155.out 1).trans rfl, (blk_cell BK155.out 2).trans rfl, (blk_cell BK155.out 3).trans rfl⟩ (fun hHeld => ?_); refine with_tabW octroilaw10_BucketPlays.tab13 octroilaw10_BucketPlays.bits13 (fun HT_ HW_ => ?_)
                    generalize w46.drew = w57 at BK155 BK161 BK183 HI150 HI160 HI188 HB hHeld ⊢
                    refine pure_ (i := 0) (N := some 53) (v := ?_) (a' := ?_) #[true, false, false, false, false, false, false, false, false, false, false, false, false, false, false, false, false, false, false, false, false, false, false] rfl rfl (any_of HT_.out (by kernel_rfl)) (fun _ _ _ h => h) (Or.inl ⟨by rfl, ?_⟩) ?_ ?_
                    rotate_left
                    · intro w'
                      go_simp
                      with_reducible rfl
                    rotate_left
                    · simp only [Act.put, List.setIfInBounds_toArray, List.set_cons_zero, List.set_cons_succ, i64_w, i32_w]
                      rfl
                    refine pure_ (i := 1) (N := some 54) (v := ?_) (a' := ?_) #[true, true, false, false, false, false, false, false, false, false, false, false, false, false, false, false, false, false, false, false, false, false, false] rfl rfl (any_of HT_.out (by kernel_rfl)) (fun _ _ _ h => h) (Or.inl ⟨by rfl, ?_⟩) ?_ ?_
                    rotate_left
                    · intro w'
                      go_simp
                      with_reducible rfl
                    rotate_left
                    · simp only [Act.put, List.setIfInBounds_toArray, List.set_cons_zero, List.set_cons_succ, i64_w, i32_w]
                      rfl
                    refine pure_ (i := 2) (N := some 55) (v := ?_) (a' := ?_) #[true, true, true, false, false, false, false, false, false, false, false, false, false, false, false, false, false, false, false, false, false, false, false] rfl rfl (any_of HT_.out (by kernel_rfl)) (fun _ _ _ h => h) (Or.inl ⟨by rfl, ?_⟩) ?_ ?_
                    rotate_left
                    · intro w'
                      go_simp
                      with_reducible rfl
                    rotate_left
                    · simp only [Act.put, List.setIfInBounds_toArray, List.set_cons_zero, List.set_cons_succ, i64_w, i32_w]
                      rfl
                    refine pure_ (i := 3) (N := some 56) (v := ?_) (a' := ?_) #[true, true, true, true, false, false, false, false, false, false, false, false, false, false, false, false, false, false, false, false, false, false, false] rfl rfl (any_of HT_.out (by kernel_rfl)) (fun _ _ _ h => h) (Or.inl ⟨by rfl, ?_⟩) ?_ ?_
                    rotate_left
                    · intro w'
                      go_simp
                      with_reducible rfl
                    rotate_left
                    · simp only [Act.put, List.setIfInBounds_toArray, List.set_cons_zero, List.set_cons_succ, i64_w, i32_w]
                      rfl
                    refine pure_ (i := 5) (N := some 58) (v := ?_) (a' := ?_) #[true, true, true, true, false, true, false, false, false, false, false, false, false, false, false, false, false, false, false, false, false, false, false] rfl rfl (any_of HT_.out (by kernel_rfl)) (fun _ _ _ h => h) (Or.inl ⟨by rfl, ?_⟩) ?_ ?_
                    rotate_left
                    · intro w'
                      go_simp
                      with_reducible rfl
                    rotate_left
                    · simp only [Act.put, List.setIfInBounds_toArray, List.set_cons_zero, List.set_cons_succ, i64_w, i32_w]
                      rfl
                    refine take_ (i := 6) (N := some 59) (v := ?_) (a' := ?_) #[true, true, true, true, false, true, true, false, false, false, false, false, false, false, false, false, false, false, false, false, false, false, false] rfl rfl (take_ofW HT_.out HW_.out (by kernel_rfl)) (fun _ _ _ h => h) (Or.inl ⟨by rfl, ?_⟩) hHeld ?_ ?_
                    rotate_left
                    · rintro w' ⟨s0, s1, s2, s3⟩
                      go_simp
                      with_reducible rfl
                    rotate_left
                    · simp only [Act.put, List.setIfInBounds_toArray, List.set_cons_zero, List.set_cons_succ, i64_w, i32_w]
                      rfl
                    refine one_ (i := 4) (N := some 57) #[true, true, true, true, true, true, true, false, false, false, false, false, false, false, false, false, false, false, false, false, false, false, false] rfl rfl (one_of HT_.out (by kernel_rfl)) (by decide) (fun K hK => ?_)
                    refine goes_ Try.func15 (by kernel_rfl) rfl #[.pointer (some ⟨g150, 0, none⟩)] (by rfl) rfl rfl (by (try simp only [List.map_toArray, List.map_cons, List.map_nil]); first | done | rfl | (simp only [List.length_drop, List.length_take]; rfl)) ?_
                    with_reducible refine (bucket_Bucket_Tick.calls g150 t179 t180 t181 t182 t189 t190 t191 t192 t193 w _ ?side1 ?side2 A48.out).mono ?_
                    (case side1 => repeat (first | (with_reducible first | exact HI150.out | apply IsS47.alloc | apply IsS47.drewN | apply IsS47.drew | apply IsS47.set_0 | apply IsS47.set_1 | apply IsS47.set_2 | apply IsS47.set_3 | refine IsS47.far ?_ NB150_155.out _ | refine IsS47.far ?_ NB150_161.out _ | refine IsS47.far ?_ NB150_183.out _) | exact HI150.out))
                    (case side2 => repeat (first | (with_reducible first | exact HB.out | apply below_alloc | apply pw_below_drewN | apply below_drew1 | refine below_set ?_ (IsS47.ge HI150.out) | refine below_set ?_ (IsS47.ge HI160.out) | refine below_set ?_ (IsS47.ge HI188.out) | refine below_set ?_ GE155.out | refine below_set ?_ GE161.out | refine below_set ?_ GE183.out) | exact HB.out))
                    rintro e w58 ⟨rfl, hi, hb, hk⟩
                    refine ⟨_, rfl, ?_⟩
                    have n0_ := Aside0.mk (KeepBut.blk hk (g' := gb155) (o := .cells #[.int .u64 t174, .int .u64 t175, .int .u64 t176, .int .u64 t177] 34 (0, 0)) (by (with_reducible repeat (first | refine blk_drewN ?_ _ | refine blk_drew ?_ | refine blk_alloc ?_ _)); exact BK155.out) NB155_150.out (by simp))
                    have n1_ := Aside0.mk (KeepBut.blk hk (g' := gb161) (o := .cells #[.int .u64 t151, .int .u64 t152, .int .u64 t153, .int .u64 t154] 34 (0, 0)) (by (with_reducible repeat (first | refine blk_drewN ?_ _ | refine blk_drew ?_ | refine blk_alloc ?_ _)); exact BK161.out) NB161_150.out (by simp))
                    have n2_ := Aside0.mk (IsS47.keepG (by repeat (first | (with_reducible first | exact HI160.out | apply IsS47.alloc | apply IsS47.drewN | apply IsS47.drew | apply IsS47.set_0 | apply IsS47.set_1 | apply IsS47.set_2 | apply IsS47.set_3 | refine IsS47.far ?_ NB160_155.out _ | refine IsS47.far ?_ NB160_161.out _ | refine IsS47.far ?_ NB160_183.out _) | exact HI160.out)) hk NB160_150.out)
                    have n3_ := Aside0.mk (KeepBut.blk hk (g' := gb183) (o := .cells #[.int .u64 t174, .int .u64 t175, .int .u64 t176, .int .u64 t177] 34 (0, 0)) (by (with_reducible repeat (first | refine blk_drewN ?_ _ | refine blk_drew ?_ | refine blk_alloc ?_ _)); exact BK183.out) NB183_150.out (by simp))
                    have n4_ := Aside0.mk (IsS47.keepG (by repeat (first | (with_reducible first | exact HI188.out | apply IsS47.alloc | apply IsS47.drewN | apply IsS47.drew | apply IsS47.set_0 | apply IsS47.set_1 | apply IsS47.set_2 | apply IsS47.set_3 | refine IsS47.far ?_ NB188_155.out _ | refine IsS47.far ?_ NB188_161.out _ | refine IsS47.far ?_ NB188_183.out _) | exact HI188.out)) hk NB188_150.out)
                    have n5_ := Aside0.mk (hb)
                    have n6_ := Aside0.mk (hi)
                    clear BK155
                    clear BK161
                    clear HI160
                    clear BK183
                    clear HI188
                    clear HB
                    clear HI150
                    have BK155 := n0_
                    have BK161 := n1_
                    have HI160 := n2_
                    have BK183 := n3_
                    have HI188 := n4_
                    have HB := n5_
                    have HI150 := n6_
                    clear n0_ n1_ n2_ n3_ n4_ n5_ n6_
                    (try clear hb)
                    (try clear hb2)
                    (try clear hk)
                    (try clear hi)
                    (try clear hge)
                    refine hK.out _ _ ⟨(blk_cell BK155.out 0).trans rfl, (blk_cell BK155.out 1).trans rfl, (blk_cell BK155.out 2).trans rfl, (blk_cell BK155.out 3).trans rfl⟩ (fun hHeld => ?_)
                    clear hK K
                    refine norm_ (a' := ?_) ?_ ?_
                    rotate_left
                    · show Act.put _ (some 57) _ = _
                      simp only [Act.put, List.setIfInBounds_toArray, List.set_cons_zero, List.set_cons_succ, i64_w, i32_w]
                      rfl
                    refine pure_ (i := 7) (N := some 60) (v := ?_) (a' := ?_) #[true, true, true, true, true, true, true, true, false, false, false, false, false, false, false, false, false, false, false, false, false, false, false] rfl rfl (any_of HT_.out (by kernel_rfl)) (fun _ _ _ h => h) (Or.inl ⟨by rfl, ?_⟩) ?_ ?_
                    rotate_left
                    · intro w'
                      go_simp
                      with_reducible rfl
                    rotate_left
                    · simp only [Act.put, List.setIfInBounds_toArray, List.set_cons_zero, List.set_cons_succ, i64_w, i32_w]
                      rfl
                    refine pure_ (i := 8) (N := some 61) (v := ?_) (a' := ?_) #[true, true, true, true, true, true, true, true, true, false, false, false, false, false, false, false, false, false, false, false, false, false, false] rfl rfl (any_of HT_.out (by kernel_rfl)) (fun _ _ _ h => h) (Or.inl ⟨by rfl, ?_⟩) ?_ ?_
                    rotate_left
                    · intro w'
                      go_simp
                      with_reducible rfl
                    rotate_left
                    · simp only [Act.put, List.setIfInBounds_toArray, List.set_cons_zero, List.set_cons_succ, i64_w, i32_w]
                      rfl
                    refine pure_ (i := 9) (N := some 62) (v := ?_) (a' := ?_) #[true, true, true, true, true, true, true, true, true, true, false, false, false, false, false, false, false, false, false, false, false, false, false] rfl rfl (any_of HT_.out (by kernel_rfl)) (fun _ _ _ h => h) (Or.inl ⟨by rfl, ?_⟩) ?_ ?_
                    rotate_left
                    · intro w'
                      go_simp
                      with_reducible rfl
                    rotate_left
                    · simp only [Act.put, List.setIfInBounds_toArray, List.set_cons_zero, List.set_cons_succ, i64_w, i32_w]
                      rfl
                    refine pure_ (i := 10) (N := some 63) (v := ?_) (a' := ?_) #[true, true, true, true, true, true, true, true, true, true, true, false, false, false, false, false, false, false, false, false, false, false, false] rfl rfl (any_of HT_.out (by kernel_rfl)) (fun _ _ _ h => h) (Or.inl ⟨by rfl, ?_⟩) ?_ ?_
                    rotate_left
                    · intro w'
                      go_simp
                      with_reducible rfl
                    rotate_left
                    · simp only [Act.put, List.setIfInBounds_toArray, List.set_cons_zero, List.set_cons_succ, i64_w, i32_w]
                      rfl
                    refine pure_ (i := 12) (N := some 65) (v := ?_) (a' := ?_) #[true, true, true, true, true, true, true, true, true, true, true, false, true, false, false, false, false, false, false, false, false, false, false] rfl rfl (any_of HT_.out (by kernel_rfl)) (fun _ _ _ h => h) (Or.inl ⟨by rfl, ?_⟩) ?_ ?_
                    rotate_left
                    · intro w'
                      go_simp
                      with_reducible rfl
                    rotate_left
                    · simp only [Act.put, List.setIfInBounds_toArray, List.set_cons_zero, List.set_cons_succ, i64_w, i32_w]
                      rfl
                    refine take_ (i := 13) (N := some 66) (v := ?_) (a' := ?_) #[true, true, true, true, true, true, true, true, true, true, true, false, true, true, false, false, false, false, false, false, false, false, false] rfl rfl (take_ofW HT_.out HW_.out (by kernel_rfl)) (fun _ _ _ h => h) (Or.inl ⟨by rfl, ?_⟩) hHeld ?_ ?_
                    rotate_left
                    · rintro w' ⟨s0, s1, s2, s3⟩
                      go_simp
                      with_reducible rfl
                    rotate_left
                    · simp only [Act.put, List.setIfInBounds_toArray, List.set_cons_zero, List.set_cons_succ, i64_w, i32_w]
                      rfl
                    refine one_ (i := 11) (N := some 64) #[true, true, true, true, true, true, true, true, true, true, true, true, true, true, false, false, false, false, false, false, false, false, false] rfl rfl (one_of HT_.out (by kernel_rfl)) (by decide) (fun K hK => ?_)
                    refine goes_ Try.func15 (by kernel_rfl) rfl #[.pointer (some ⟨g188, 0, none⟩)] (by rfl) rfl rfl (by (try simp only [List.map_toArray, List.map_cons, List.map_nil]); first | done | rfl | (simp only [List.length_drop, List.length_take]; rfl)) ?_
                    with_reducible refine (bucket_Bucket_Tick.calls g188 t184 t185 t186 t187 t194 t195 t196 t197 t198 w _ ?side1 ?side2 A50.out).mono ?_
                    (case side1 => repeat (first | (with_reducible first | exact HI188.out | apply IsS47.alloc | apply IsS47.drewN | apply IsS47.drew | apply IsS47.set_0 | apply IsS47.set_1 | apply IsS47.set_2 | apply IsS47.set_3 | refine IsS47.far ?_ NB188_155.out _ | refine IsS47.far ?_ NB188_161.out _ | refine IsS47.far ?_ NB188_183.out _) | exact HI188.out))
                    (case side2 => repeat (first | (with_reducible first | exact HB.out | apply below_alloc | apply pw_below_drewN | apply below_drew1 | refine below_set ?_ (IsS47.ge HI150.out) | refine below_set ?_ (IsS47.ge HI160.out) | refine below_set ?_ (IsS47.ge HI188.out) | refine below_set ?_ GE155.out | refine below_set ?_ GE161.out | refine below_set ?_ GE183.out) | exact HB.out))
                    rintro e w59 ⟨rfl, hi, hb, hk⟩
                    refine ⟨_, rfl, ?_⟩
                    have n0_ := Aside0.mk (KeepBut.blk hk (g' := gb155) (o := .cells #[.int .u64 t174, .int .u64 t175, .int .u64 t176, .int .u64 t177] 34 (0, 0)) (by (with_reducible repeat (first | refine blk_drewN ?_ _ | refine blk_drew ?_ | refine blk_alloc ?_ _)); exact BK155.out) NB155_188.out (by simp))
                    have n1_ := Aside0.mk (KeepBut.blk hk (g' := gb161) (o := .cells #[.int .u64 t151, .int .u64 t152, .int .u64 t153, .int .u64 t154] 34 (0, 0)) (by (with_reducible repeat (first | refine blk_drewN ?_ _ | refine blk_drew ?_ | refine blk_alloc ?_ _)); exact BK161.out) NB161_188.out (by simp))
                    have n2_ := Aside0.mk (IsS47.keepG (by repeat (first | (with_reducible first | exact HI150.out | apply IsS47.alloc | apply IsS47.drewN | apply IsS47.drew | apply IsS47.set_0 | apply IsS47.set_1 | apply IsS47.set_2 | apply IsS47.set_3 | refine IsS47.far ?_ NB150_155.out _ | refine IsS47.far ?_ NB150_161.out _ | refine IsS47.far ?_ NB150_183.out _) | exact HI150.out)) hk NB150_188.out)
                    have n3_ := Aside0.mk (IsS47.keepG (by repeat (first | (with_reducible first | exact HI160.out | apply IsS47.alloc | apply IsS47.drewN | apply IsS47.drew | apply IsS47.set_0 | apply IsS47.set_1 | apply IsS47.set_2 | apply IsS47.set_3 | refine IsS47.far ?_ NB160_155.out _ | refine IsS47.far ?_ NB160_161.out _ | refine IsS47.far ?_ NB160_183.out _) | exact HI160.out)) hk NB160_188.out)
                    have n4_ := Aside0.mk (KeepBut.blk hk (g' := gb183) (o := .cells #[.int .u64 t174, .int .u64 t175, .int .u64 t176, .int .u64 t177] 34 (0, 0)) (by (with_reducible repeat (first | refine blk_drewN ?_ _ | refine blk_drew ?_ | refine blk_alloc ?_ _)); exact BK183.out) NB183_188.out (by simp))
                    have n5_ := Aside0.mk (hb)
                    have n6_ := Aside0.mk (hi)
                    clear BK155
                    clear BK161
                    clear HI150
                    clear HI160
                    clear BK183
                    clear HB
                    clear HI188
                    have BK155 := n0_
                    have BK161 := n1_
                    have HI150 := n2_
                    have HI160 := n3_
                    have BK183 := n4_
                    have HB := n5_
                    have HI188 := n6_
                    clear n0_ n1_ n2_ n3_ n4_ n5_ n6_
                    (try clear hb)
                    (try clear hb2)
                    (try clear hk)
                    (try clear hi)
                    (try clear hge)
                    refine hK.out _ _ ⟨(blk_cell BK155.out 0).trans rfl, (blk_cell BK155.out 1).trans rfl, (blk_cell BK155.out 2).trans rfl, (blk_cell BK155.out 3).trans rfl⟩ (fun hHeld => ?_)
                    clear hK K
                    refine norm_ (a' := ?_) ?_ ?_
                    rotate_left
                    · show Act.put _ (some 64) _ = _
                      simp only [Act.put, List.setIfInBounds_toArray, List.set_cons_zero, List.set_cons_succ, i64_w, i32_w]
                      rfl
                    refine pure_ (i := 14) (N := some 67) (v := ?_) (a' := ?_) #[true, true, true, true, true, true, true, true, true, true, true, true, true, true, true, false, false, false, false, false, false, false, false] rfl rfl (any_of HT_.out (by kernel_rfl)) (fun _ _ _ h => h) (Or.inl ⟨by rfl, ?_⟩) ?_ ?_
                    rotate_left
                    · intro w'
                      go_simp
                      with_reducible rfl
                    rotate_left
                    · simp only [Act.put, List.setIfInBounds_toArray, List.set_cons_zero, List.set_cons_succ, i64_w, i32_w]
                      rfl
                    refine pure_ (i := 15) (N := some 68) (v := ?_) (a' := ?_) #[true, true, true, true, true, true, true, true, true, true, true, true, true, true, true, true, false, false, false, false, false, false, false] rfl rfl (any_of HT_.out (by kernel_rfl)) (fun _ _ _ h => h) (Or.inl ⟨by rfl, ?_⟩) ?_ ?_
                    rotate_left
                    · intro w'
                      go_simp
                      with_reducible rfl
                    rotate_left
                    · simp only [Act.put, List.setIfInBounds_toArray, List.set_cons_zero, List.set_cons_succ, i64_w, i32_w]
                      rfl
                    refine pure_ (i := 16) (N := some 69) (v := ?_) (a' := ?_) #[true, true, true, true, true, true, true, true, true, true, true, true, true, true, true, true, true, false, false, false, false, false, false] rfl rfl (any_of HT_.out (by kernel_rfl)) (fun _ _ _ h => h) (Or.inl ⟨by rfl, ?_⟩) ?_ ?_
                    rotate_left
                    · intro w'
                      go_simp
                      with_reducible rfl
                    rotate_left
                    · simp only [Act.put, List.setIfInBounds_toArray, List.set_cons_zero, List.set_cons_succ, i64_w, i32_w]
                      rfl
                    refine pure_ (i := 17) (N := some 70) (v := undef) (a' := ?_) #[true, true, true, true, true, true, true, true, true, true, true, true, true, true, true, true, true, true, false, false, false, false, false] rfl rfl (any_of HT_.out (by kernel_rfl)) (fun _ _ _ h => h) (Or.inr ⟨by rfl, rfl⟩) ?_ ?_
                    rotate_left
                    · simp only [Act.put, List.setIfInBounds_toArray, List.set_cons_zero, List.set_cons_succ, i64_w, i32_w]
                      rfl
                    refine pure_ (i := 18) (N := some 71) (v := undef) (a' := ?_) #[true, true, true, true, true, true, true, true, true, true, true, true, true, true, true, true, true, true, true, false, false, false, false] rfl rfl (any_of HT_.out (by kernel_rfl)) (fun _ _ _ h => h) (Or.inr ⟨by rfl, rfl⟩) ?_ ?_
                    rotate_left
                    · simp only [Act.put, List.setIfInBounds_toArray, List.set_cons_zero, List.set_cons_succ, i64_w, i32_w]
                      rfl
                    refine pure_ (i := 19) (N := some 72) (v := undef) (a' := ?_) #[true, true, true, true, true, true, true, true, true, true, true, true, true, true, true, true, true, true, true, true, false, false, false] rfl rfl (any_of HT_.out (by kernel_rfl)) (fun _ _ _ h => h) (Or.inr ⟨by rfl, rfl⟩) ?_ ?_
                    rotate_left
                    · simp only [Act.put, List.setIfInBounds_toArray, List.set_cons_zero, List.set_cons_succ, i64_w, i32_w]
                      rfl
                    refine pure_ (i := 20) (N := some 73) (v := undef) (a' := ?_) #[true, true, true, true, true, true, true, true, true, true, true, true, true, true, true, true, true, true, true, true, true, false, false] rfl rfl (any_of HT_.out (by kernel_rfl)) (fun _ _ _ h => h) (Or.inr ⟨by rfl, rfl⟩) ?_ ?_
                    rotate_left
                    · simp only [Act.put, List.setIfInBounds_toArray, List.set_cons_zero, List.set_cons_succ, i64_w, i32_w]
                      rfl
                    refine pure_ (i := 21) (N := some 74) (v := undef) (a' := ?_) #[true, true, true, true, true, true, true, true, true, true, true, true, true, true, true, true, true, true, true, true, true, true, false] rfl rfl (any_of HT_.out (by kernel_rfl)) (fun _ _ _ h => h) (Or.inr ⟨by rfl, rfl⟩) ?_ ?_
                    rotate_left
                    · simp only [Act.put, List.setIfInBounds_toArray, List.set_cons_zero, List.set_cons_succ, i64_w, i32_w]
                      rfl
                    refine pure_ (i := 22) (N := some 75) (v := ?_) (a' := ?_) #[true, true, true, true, true, true, true, true, true, true, true, true, true, true, true, true, true, true, true, true, true, true, true] rfl rfl (any_of HT_.out (by kernel_rfl)) (fun _ _ _ h => h) (Or.inl ⟨by rfl, ?_⟩) ?_ ?_
                    rotate_left
                    · intro w'
                      go_simp
                      with_reducible rfl
                    rotate_left
                    · simp only [Act.put, List.setIfInBounds_toArray, List.set_cons_zero, List.set_cons_succ, i64_w, i32_w]
                      rfl
                    refine done_ (done_of HT_.out (by kernel_rfl)) ?_
                    try go_wp2
                    go_meet
                    case rel => exact ⟨_, (true), (t190), (t191), (t192), (t193), (t195), (t196), (t197), (t198), (by first | rfl | (simp; done) | (simp [*]; done)), H', ⟨by have := HK1.out; first | omega | exact Nat.le_refl _⟩, ⟨by (with_reducible repeat (first | refine blk_drewN ?_ _ | refine blk_drew ?_ | refine blk_alloc ?_ _)); exact BK155.out⟩, ⟨by (with_reducible repeat (first | refine blk_drewN ?_ _ | refine blk_drew ?_ | refine blk_alloc ?_ _)); exact BK161.out⟩, ⟨by (with_reducible repeat (first | refine blk_drewN ?_ _ | refine blk_drew ?_ | refine blk_alloc ?_ _)); exact BK183.out⟩, ⟨by repeat (first | (with_reducible first | exact HI150.out | apply IsS47.alloc | apply IsS47.drewN | apply IsS47.drew | apply IsS47.set_0 | apply IsS47.set_1 | apply IsS47.set_2 | apply IsS47.set_3 | refine IsS47.far ?_ NB150_155.out _ | refine IsS47.far ?_ NB150_161.out _ | refine IsS47.far ?_ NB150_183.out _) | exact HI150.out)⟩, ⟨by repeat (first | (with_reducible first | exact HI160.out | apply IsS47.alloc | apply IsS47.drewN | apply IsS47.drew | apply IsS47.set_0 | apply IsS47.set_1 | apply IsS47.set_2 | apply IsS47.set_3 | refine IsS47.far ?_ NB160_155.out _ | refine IsS47.far ?_ NB160_161.out _ | refine IsS47.far ?_ NB160_183.out _) | exact HI160.out)⟩, ⟨by repeat (first | (with_reducible first | exact HI188.out | apply IsS47.alloc | apply IsS47.drewN | apply IsS47.drew | apply IsS47.set_0 | apply IsS47.set_1 | apply IsS47.set_2 | apply IsS47.set_3 | refine IsS47.far ?_ NB188_155.out _ | refine IsS47.far ?_ NB188_161.out _ | refine IsS47.far ?_ NB188_183.out _) | exact HI188.out)⟩, ⟨by repeat (first | (with_reducible first | exact HB.out | apply below_alloc | apply pw_below_drewN | apply below_drew1 | refine below_set ?_ (IsS47.ge HI150.out) | refine below_set ?_ (IsS47.ge HI160.out) | refine below_set ?_ (IsS47.ge HI188.out) | refine below_set ?_ GE155.out | refine below_set ?_ GE161.out | refine below_set ?_ GE183.out) | exact HB.out)⟩⟩
                · rw [if_neg c49] at H
                  have c49b0 : (t189 == t176) = false := beq_eq_false_iff_ne.mpr c49
                  have c49b1 : (t189 != t176) = true := bne_iff_ne.mpr c49
                  (first | rw [c49b0] | (simp only [i64_w, i32_w]; rw [c49b0]) | rw [c49b1] | skip)
                  have H' := Aside0.mk H
                  clear H
                  try go_wp2
                  have n0_ := Aside0.mk (blk_drew BK155.out)
                  have n1_ := Aside0.mk (blk_drew BK161.out)
                  have n2_ := Aside0.mk (blk_drew BK183.out)
                  have n3_ := Aside0.mk (IsS47.drew HI150.out)
                  have n4_ := Aside0.mk (IsS47.drew HI160.out)
                  have n5_ := Aside0.mk (IsS47.drew HI188.out)
                  have n6_ := Aside0.mk (below_drew1 HB.out)
                  clear BK155
                  clear BK161
                  clear BK183
                  clear HI150
                  clear HI160
                  clear HI188
                  clear HB
                  have BK155 := n0_
                  have BK161 := n1_
                  have BK183 := n2_
                  have HI150 := n3_
                  have HI160 := n4_
                  have HI188 := n5_
                  have HB := n6_
                  clear n0_ n1_ n2_ n3_ n4_ n5_ n6_
                  refine start_ (n := 23) (S := fun w' => w'.cell? ⟨gb155, 0, none⟩ = some (.int .u64 t174) ∧ w'.cell? ⟨gb155, 1, none⟩ = some (.int .u64 t175) ∧ w'.cell? ⟨gb155, 2, none⟩ = some (.int .u64 t176) ∧ w'.cell? ⟨gb155, 3, none⟩ = some (.int .u64 t177)) (ds := []) #[false, false, false, false, false, false, false, false, false, false, false, false, false, false, false, false, false, false, false, false, false, false, false] (by kernel_rfl) rfl rfl ⟨(blk_cell BK155.out 0).trans rfl, (blk_cell BK155.out 1).trans rfl, (blk_cell BK155.out 2).trans rfl, (blk_cell BK155.out 3).trans rfl⟩ (fun hHeld => ?_); refine with_tabW octroilaw10_BucketPlays.tab13 octroilaw10_BucketPlays.bits13 (fun HT_ HW_ => ?_)
                  generalize w46.drew = w60 at BK155 BK161 BK183 HI150 HI160 HI188 HB hHeld ⊢
                  refine pure_ (i := 0) (N := some 53) (v := ?_) (a' := ?_) #[true, false, false, false, false, false, false, false, false, false, false, false, false, false, false, false, false, false, false, false, false, false, false] rfl rfl (any_of HT_.out (by kernel_rfl)) (fun _ _ _ h => h) (Or.inl ⟨by rfl, ?_⟩) ?_ ?_
                  rotate_left
                  · intro w'
                    go_simp
                    with_reducible rfl
                  rotate_left
                  · simp only [Act.put, List.setIfInBounds_toArray, List.set_cons_zero, List.set_cons_succ, i64_w, i32_w]
                    rfl
                  refine pure_ (i := 1) (N := some 54) (v := ?_) (a' := ?_) #[true, true, false, false, false, false, false, false, false, false, false, false, false, false, false, false, false, false, false, false, false, false, false] rfl rfl (any_of HT_.out (by kernel_rfl)) (fun _ _ _ h => h) (Or.inl ⟨by rfl, ?_⟩) ?_ ?_
                  rotate_left
                  · intro w'
                    go_simp
                    with_reducible rfl
                  rotate_left
                  · simp only [Act.put, List.setIfInBounds_toArray, List.set_cons_zero, List.set_cons_succ, i64_w, i32_w]
                    rfl
                  refine pure_ (i := 2) (N := some 55) (v := ?_) (a' := ?_) #[true, true, true, false, false, false, false, false, false, false, false, false, false, false, false, false, false, false, false, false, false, false, false] rfl rfl (any_of HT_.out (by kernel_rfl)) (fun _ _ _ h => h) (Or.inl ⟨by rfl, ?_⟩) ?_ ?_
                  rotate_left
                  · intro w'
                    go_simp
                    with_reducible rfl
                  rotate_left
                  · simp only [Act.put, List.setIfInBounds_toArray, List.set_cons_zero, List.set_cons_succ, i64_w, i32_w]
                    rfl
                  refine pure_ (i := 3) (N := some 56) (v := ?_) (a' := ?_) #[true, true, true, true, false, false, false, false, false, false, false, false, false, false, false, false, false, false, false, false, false, false, false] rfl rfl (any_of HT_.out (by kernel_rfl)) (fun _ _ _ h => h) (Or.inl ⟨by rfl, ?_⟩) ?_ ?_
                  rotate_left
                  · intro w'
                    go_simp
                    with_reducible rfl
                  rotate_left
                  · simp only [Act.put, List.setIfInBounds_toArray, List.set_cons_zero, List.set_cons_succ, i64_w, i32_w]
                    rfl
                  refine pure_ (i := 5) (N := some 58) (v := ?_) (a' := ?_) #[true, true, true, true, false, true, false, false, false, false, false, false, false, false, false, false, false, false, false, false, false, false, false] rfl rfl (any_of HT_.out (by kernel_rfl)) (fun _ _ _ h => h) (Or.inl ⟨by rfl, ?_⟩) ?_ ?_
                  rotate_left
                  · intro w'
                    go_simp
                    with_reducible rfl
                  rotate_left
                  · simp only [Act.put, List.setIfInBounds_toArray, List.set_cons_zero, List.set_cons_succ, i64_w, i32_w]
                    rfl
                  refine take_ (i := 6) (N := some 59) (v := ?_) (a' := ?_) #[true, true, true, true, false, true, true, false, false, false, false, false, false, false, false, false, false, false, false, false, false, false, false] rfl rfl (take_ofW HT_.out HW_.out (by kernel_rfl)) (fun _ _ _ h => h) (Or.inl ⟨by rfl, ?_⟩) hHeld ?_ ?_
                  rotate_left
                  · rintro w' ⟨s0, s1, s2, s3⟩
                    go_simp
                    with_reducible rfl
                  rotate_left
                  · simp only [Act.put, List.setIfInBounds_toArray, List.set_cons_zero, List.set_cons_succ, i64_w, i32_w]
                    rfl
                  refine one_ (i := 4) (N := some 57) #[true, true, true, true, true, true, true, false, false, false, false, false, false, false, false, false, false, false, false, false, false, false, false] rfl rfl (one_of HT_.out (by kernel_rfl)) (by decide) (fun K hK => ?_)
                  refine goes_ Try.func15 (by kernel_rfl) rfl #[.pointer (some ⟨g150, 0, none⟩)] (by rfl) rfl rfl (by (try simp only [List.map_toArray, List.map_cons, List.map_nil]); first | done | rfl | (simp only [List.length_drop, List.length_take]; rfl)) ?_
                  with_reducible refine (bucket_Bucket_Tick.calls g150 t179 t180 t181 t182 t189 t190 t191 t192 t193 w _ ?side1 ?side2 A48.out).mono ?_
                  (case side1 => repeat (first | (with_reducible first | exact HI150.out | apply IsS47.alloc | apply IsS47.drewN | apply IsS47.drew | apply IsS47.set_0 | apply IsS47.set_1 | apply IsS47.set_2 | apply IsS47.set_3 | refine IsS47.far ?_ NB150_155.out _ | refine IsS47.far ?_ NB150_161.out _ | refine IsS47.far ?_ NB150_183.out _) | exact HI150.out))
                  (case side2 => repeat (first | (with_reducible first | exact HB.out | apply below_alloc | apply pw_below_drewN | apply below_drew1 | refine below_set ?_ (IsS47.ge HI150.out) | refine below_set ?_ (IsS47.ge HI160.out) | refine below_set ?_ (IsS47.ge HI188.out) | refine below_set ?_ GE155.out | refine below_set ?_ GE161.out | refine below_set ?_ GE183.out) | exact HB.out))
                  rintro e w61 ⟨rfl, hi, hb, hk⟩
                  refine ⟨_, rfl, ?_⟩
                  have n0_ := Aside0.mk (KeepBut.blk hk (g' := gb155) (o := .cells #[.int .u64 t174, .int .u64 t175, .int .u64 t176, .int .u64 t177] 34 (0, 0)) (by (with_reducible repeat (first | refine blk_drewN ?_ _ | refine blk_drew ?_ | refine blk_alloc ?_ _)); exact BK155.out) NB155_150.out (by simp))
                  have n1_ := Aside0.mk (KeepBut.blk hk (g' := gb161) (o := .cells #[.int .u64 t151, .int .u64 t152, .int .u64 t153, .int .u64 t154] 34 (0, 0)) (by (with_reducible repeat (first | refine blk_drewN ?_ _ | refine blk_drew ?_ | refine blk_alloc ?_ _)); exact BK161.out) NB161_150.out (by simp))
                  have n2_ := Aside0.mk (IsS47.keepG (by repeat (first | (with_reducible first | exact HI160.out | apply IsS47.alloc | apply IsS47.drewN | apply IsS47.drew | apply IsS47.set_0 | apply IsS47.set_1 | apply IsS47.set_2 | apply IsS47.set_3 | refine IsS47.far ?_ NB160_155.out _ | refine IsS47.far ?_ NB160_161.out _ | refine IsS47.far ?_ NB160_183.out _) | exact HI160.out)) hk NB160_150.out)
                  have n3_ := Aside0.mk (KeepBut.blk hk (g' := gb183) (o := .cells #[.int .u64 t174, .int .u64 t175, .int .u64 t176, .int .u64 t177] 34 (0, 0)) (by (with_reducible repeat (first | refine blk_drewN ?_ _ | refine blk_drew ?_ | refine blk_alloc ?_ _)); exact BK183.out) NB183_150.out (by simp))
                  have n4_ := Aside0.mk (IsS47.keepG (by repeat (first | (with_reducible first | exact HI188.out | apply IsS47.alloc | apply IsS47.drewN | apply IsS47.drew | apply IsS47.set_0 | apply IsS47.set_1 | apply IsS47.set_2 | apply IsS47.set_3 | refine IsS47.far ?_ NB188_155.out _ | refine IsS47.far ?_ NB188_161.out _ | refine IsS47.far ?_ NB188_183.out _) | exact HI188.out)) hk NB188_150.out)
                  have n5_ := Aside0.mk (hb)
                  have n6_ := Aside0.mk (hi)
                  clear BK155
                  clear BK161
                  clear HI160
                  clear BK183
                  clear HI188
                  clear HB
                  clear HI150
                  have BK155 := n0_
                  have BK161 := n1_
                  have HI160 := n2_
                  have BK183 := n3_
                  have HI188 := n4_
                  have HB := n5_
                  have HI150 := n6_
                  clear n0_ n1_ n2_ n3_ n4_ n5_ n6_
                  (try clear hb)
                  (try clear hb2)
                  (try clear hk)
                  (try clear hi)
                  (try clear hge)
                  refine hK.out _ _ ⟨(blk_cell BK155.out 0).trans rfl, (blk_cell BK155.out 1).trans rfl, (blk_cell BK155.out 2).trans rfl, (blk_cell BK155.out 3).trans rfl⟩ (fun hHeld => ?_)
                  clear hK K
                  refine norm_ (a' := ?_) ?_ ?_
                  rotate_left
                  · show Act.put _ (some 57) _ = _
                    simp only [Act.put, List.setIfInBounds_toArray, List.set_cons_zero, List.set_cons_succ, i64_w, i32_w]
                    rfl
                  refine pure_ (i := 7) (N := some 60) (v := ?_) (a' := ?_) #[true, true, true, true, true, true, true, true, false, false, false, false, false, false, false, false, false, false, false, false, false, false, false] rfl rfl (any_of HT_.out (by kernel_rfl)) (fun _ _ _ h => h) (Or.inl ⟨by rfl, ?_⟩) ?_ ?_
                  rotate_left
                  · intro w'
                    go_simp
                    with_reducible rfl
                  rotate_left
                  · simp only [Act.put, List.setIfInBounds_toArray, List.set_cons_zero, List.set_cons_succ, i64_w, i32_w]
                    rfl
                  refine pure_ (i := 8) (N := some 61) (v := ?_) (a' := ?_) #[true, true, true, true, true, true, true, true, true, false, false, false, false, false, false, false, false, false, false, false, false, false, false] rfl rfl (any_of HT_.out (by kernel_rfl)) (fun _ _ _ h => h) (Or.inl ⟨by rfl, ?_⟩) ?_ ?_
                  rotate_left
                  · intro w'
                    go_simp
                    with_reducible rfl
                  rotate_left
                  · simp only [Act.put, List.setIfInBounds_toArray, List.set_cons_zero, List.set_cons_succ, i64_w, i32_w]
                    rfl
                  refine pure_ (i := 9) (N := some 62) (v := ?_) (a' := ?_) #[true, true, true, true, true, true, true, true, true, true, false, false, false, false, false, false, false, false, false, false, false, false, false] rfl rfl (any_of HT_.out (by kernel_rfl)) (fun _ _ _ h => h) (Or.inl ⟨by rfl, ?_⟩) ?_ ?_
                  rotate_left
                  · intro w'
                    go_simp
                    with_reducible rfl
                  rotate_left
                  · simp only [Act.put, List.setIfInBounds_toArray, List.set_cons_zero, List.set_cons_succ, i64_w, i32_w]
                    rfl
                  refine pure_ (i := 10) (N := some 63) (v := undef) (a' := ?_) #[true, true, true, true, true, true, true, true, true, true, true, false, false, false, false, false, false, false, false, false, false, false, false] rfl rfl (any_of HT_.out (by kernel_rfl)) (fun _ _ _ h => h) (Or.inr ⟨by rfl, rfl⟩) ?_ ?_
                  rotate_left
                  · simp only [Act.put, List.setIfInBounds_toArray, List.set_cons_zero, List.set_cons_succ, i64_w, i32_w]
                    rfl
                  refine pure_ (i := 11) (N := some 64) (v := undef) (a' := ?_) #[true, true, true, true, true, true, true, true, true, true, true, true, false, false, false, false, false, false, false, false, false, false, false] rfl rfl (any_of HT_.out (by kernel_rfl)) (fun _ _ _ h => h) (Or.inr ⟨by rfl, rfl⟩) ?_ ?_
                  rotate_left
                  · simp only [Act.put, List.setIfInBounds_toArray, List.set_cons_zero, List.set_cons_succ, i64_w, i32_w]
                    rfl
                  refine pure_ (i := 12) (N := some 65) (v := undef) (a' := ?_) #[true, true, true, true, true, true, true, true, true, true, true, true, true, false, false, false, false, false, false, false, false, false, false] rfl rfl (any_of HT_.out (by kernel_rfl)) (fun _ _ _ h => h) (Or.inr ⟨by rfl, rfl⟩) ?_ ?_
                  rotate_left
                  · simp only [Act.put, List.setIfInBounds_toArray, List.set_cons_zero, List.set_cons_succ, i64_w, i32_w]
                    rfl
                  refine pure_ (i := 13) (N := some 66) (v := undef) (a' := ?_) #[true, true, true, true, true, true, true, true, true, true, true, true, true, true, false, false, false, false, false, false, false, false, false] rfl rfl (any_of HT_.out (by kernel_rfl)) (fun _ _ _ h => h) (Or.inr ⟨by rfl, rfl⟩) ?_ ?_
                  rotate_left
                  · simp only [Act.put, List.setIfInBounds_toArray, List.set_cons_zero, List.set_cons_succ, i64_w, i32_w]
                    rfl
                  refine pure_ (i := 14) (N := some 67) (v := undef) (a' := ?_) #[true, true, true, true, true, true, true, true, true, true, true, true, true, true, true, false, false, false, false, false, false, false, false] rfl rfl (any_of HT_.out (by kernel_rfl)) (fun _ _ _ h => h) (Or.inr ⟨by rfl, rfl⟩) ?_ ?_
                  rotate_left
                  · simp only [Act.put, List.setIfInBounds_toArray, List.set_cons_zero, List.set_cons_succ, i64_w, i32_w]
                    rfl
                  refine pure_ (i := 15) (N := some 68) (v := ?_) (a' := ?_) #[true, true, true, true, true, true, true, true, true, true, true, true, true, true, true, true, false, false, false, false, false, false, false] rfl rfl (any_of HT_.out (by kernel_rfl)) (fun _ _ _ h => h) (Or.inl ⟨by rfl, ?_⟩) ?_ ?_
                  rotate_left
                  · intro w'
                    go_simp
                    with_reducible rfl
                  rotate_left
                  · simp only [Act.put, List.setIfInBounds_toArray, List.set_cons_zero, List.set_cons_succ, i64_w, i32_w]
                    rfl
                  refine pure_ (i := 16) (N := some 69) (v := ?_) (a' := ?_) #[true, true, true, true, true, true, true, true, true, true, true, true, true, true, true, true, true, false, false, false, false, false, false] rfl rfl (any_of HT_.out (by kernel_rfl)) (fun _ _ _ h => h) (Or.inl ⟨by rfl, ?_⟩) ?_ ?_
                  rotate_left
                  · intro w'
                    go_simp
                    with_reducible rfl
                  rotate_left
                  · simp only [Act.put, List.setIfInBounds_toArray, List.set_cons_zero, List.set_cons_succ, i64_w, i32_w]
                    rfl
                  refine pure_ (i := 17) (N := some 70) (v := undef) (a' := ?_) #[true, true, true, true, true, true, true, true, true, true, true, true, true, true, true, true, true, true, false, false, false, false, false] rfl rfl (any_of HT_.out (by kernel_rfl)) (fun _ _ _ h => h) (Or.inr ⟨by rfl, rfl⟩) ?_ ?_
                  rotate_left
                  · simp only [Act.put, List.setIfInBounds_toArray, List.set_cons_zero, List.set_cons_succ, i64_w, i32_w]
                    rfl
                  refine pure_ (i := 18) (N := some 71) (v := undef) (a' := ?_) #[true, true, true, true, true, true, true, true, true, true, true, true, true, true, true, true, true, true, true, false, false, false, false] rfl rfl (any_of HT_.out (by kernel_rfl)) (fun _ _ _ h => h) (Or.inr ⟨by rfl, rfl⟩) ?_ ?_
                  rotate_left
                  · simp only [Act.put, List.setIfInBounds_toArray, List.set_cons_zero, List.set_cons_succ, i64_w, i32_w]
                    rfl
                  refine pure_ (i := 19) (N := some 72) (v := undef) (a' := ?_) #[true, true, true, true, true, true, true, true, true, true, true, true, true, true, true, true, true, true, true, true, false, false, false] rfl rfl (any_of HT_.out (by kernel_rfl)) (fun _ _ _ h => h) (Or.inr ⟨by rfl, rfl⟩) ?_ ?_
                  rotate_left
                  · simp only [Act.put, List.setIfInBounds_toArray, List.set_cons_zero, List.set_cons_succ, i64_w, i32_w]
                    rfl
                  refine pure_ (i := 20) (N := some 73) (v := undef) (a' := ?_) #[true, true, true, true, true, true, true, true, true, true, true, true, true, true, true, true, true, true, true, true, true, false, false] rfl rfl (any_of HT_.out (by kernel_rfl)) (fun _ _ _ h => h) (Or.inr ⟨by rfl, rfl⟩) ?_ ?_
                  rotate_left
                  · simp only [Act.put, List.setIfInBounds_toArray, List.set_cons_zero, List.set_cons_succ, i64_w, i32_w]
                    rfl
                  refine pure_ (i := 21) (N := some 74) (v := undef) (a' := ?_) #[true, true, true, true, true, true, true, true, true, true, true, true, true, true, true, true, true, true, true, true, true, true, false] rfl rfl (any_of HT_.out (by kernel_rfl)) (fun _ _ _ h => h) (Or.inr ⟨by rfl, rfl⟩) ?_ ?_
                  rotate_left
                  · simp only [Act.put, List.setIfInBounds_toArray, List.set_cons_zero, List.set_cons_succ, i64_w, i32_w]
                    rfl
                  refine pure_ (i := 22) (N := some 75) (v := ?_) (a' := ?_) #[true, true, true, true, true, true, true, true, true, true, true, true, true, true, true, true, true, true, true, true, true, true, true] rfl rfl (any_of HT_.out (by kernel_rfl)) (fun _ _ _ h => h) (Or.inl ⟨by rfl, ?_⟩) ?_ ?_
                  rotate_left
                  · intro w'
                    go_simp
                    with_reducible rfl
                  rotate_left
                  · simp only [Act.put, List.setIfInBounds_toArray, List.set_cons_zero, List.set_cons_succ, i64_w, i32_w]
                    rfl
                  refine done_ (done_of HT_.out (by kernel_rfl)) ?_
                  try go_wp2
                  go_meet
                  case rel => exact ⟨_, (true), (t190), (t191), (t192), (t193), (t184), (t185), (t186), (t187), (by first | rfl | (simp; done) | (simp [*]; done)), H', ⟨by have := HK1.out; first | omega | exact Nat.le_refl _⟩, ⟨by (with_reducible repeat (first | refine blk_drewN ?_ _ | refine blk_drew ?_ | refine blk_alloc ?_ _)); exact BK155.out⟩, ⟨by (with_reducible repeat (first | refine blk_drewN ?_ _ | refine blk_drew ?_ | refine blk_alloc ?_ _)); exact BK161.out⟩, ⟨by (with_reducible repeat (first | refine blk_drewN ?_ _ | refine blk_drew ?_ | refine blk_alloc ?_ _)); exact BK183.out⟩, ⟨by repeat (first | (with_reducible first | exact HI150.out | apply IsS47.alloc | apply IsS47.drewN | apply IsS47.drew | apply IsS47.set_0 | apply IsS47.set_1 | apply IsS47.set_2 | apply IsS47.set_3 | refine IsS47.far ?_ NB150_155.out _ | refine IsS47.far ?_ NB150_161.out _ | refine IsS47.far ?_ NB150_183.out _) | exact HI150.out)⟩, ⟨by repeat (first | (with_reducible first | exact HI160.out | apply IsS47.alloc | apply IsS47.drewN | apply IsS47.drew | apply IsS47.set_0 | apply IsS47.set_1 | apply IsS47.set_2 | apply IsS47.set_3 | refine IsS47.far ?_ NB160_155.out _ | refine IsS47.far ?_ NB160_161.out _ | refine IsS47.far ?_ NB160_183.out _) | exact HI160.out)⟩, ⟨by repeat (first | (with_reducible first | exact HI188.out | apply IsS47.alloc | apply IsS47.drewN | apply IsS47.drew | apply IsS47.set_0 | apply IsS47.set_1 | apply IsS47.set_2 | apply IsS47.set_3 | refine IsS47.far ?_ NB188_155.out _ | refine IsS47.far ?_ NB188_161.out _ | refine IsS47.far ?_ NB188_183.out _) | exact HI188.out)⟩, ⟨by repeat (first | (with_reducible first | exact HB.out | apply below_alloc | apply pw_below_drewN | apply below_drew1 | refine below_set ?_ (IsS47.ge HI150.out) | refine below_set ?_ (IsS47.ge HI160.out) | refine below_set ?_ (IsS47.ge HI188.out) | refine below_set ?_ GE155.out | refine below_set ?_ GE161.out | refine below_set ?_ GE183.out) | exact HB.out)⟩⟩
              · replace c47 := Bool.eq_false_iff.mpr c47
                subst c47
                have H1 : (octroilaw10_BucketPlays.j1 k1 l3 x13_1 true t179 t180 t181 t182 t174 t175 t176 t177 x161000_1 x161001_1 x161002_1 x161003_1 t151 t152 t153 t154 t184 t185 t186 t187) = some r := by rw [if_neg (show ¬ (false = true) by decide)] at H; exact H
                clear H
                have H := H1
                clear H1
                have H' := Aside0.mk H
                clear H
                try go_wp2
                have n0_ := Aside0.mk (blk_drew BK155.out)
                have n1_ := Aside0.mk (blk_drew BK161.out)
                have n2_ := Aside0.mk (blk_drew BK183.out)
                have n3_ := Aside0.mk (IsS47.drew HI150.out)
                have n4_ := Aside0.mk (IsS47.drew HI160.out)
                have n5_ := Aside0.mk (IsS47.drew HI188.out)
                have n6_ := Aside0.mk (below_drew1 HB.out)
                clear BK155
                clear BK161
                clear BK183
                clear HI150
                clear HI160
                clear HI188
                clear HB
                have BK155 := n0_
                have BK161 := n1_
                have BK183 := n2_
                have HI150 := n3_
                have HI160 := n4_
                have HI188 := n5_
                have HB := n6_
                clear n0_ n1_ n2_ n3_ n4_ n5_ n6_
                refine start_ (n := 23) (S := fun w' => True) (ds := []) #[false, false, false, false, false, false, false, false, false, false, false, false, false, false, false, false, false, false, false, false, false, false, false] (by kernel_rfl) rfl rfl trivial (fun hHeld => ?_); refine with_tabW octroilaw10_BucketPlays.tab13 octroilaw10_BucketPlays.bits13 (fun HT_ HW_ => ?_)
                generalize w46.drew = w62 at BK155 BK161 BK183 HI150 HI160 HI188 HB hHeld ⊢
                refine pure_ (i := 0) (N := some 53) (v := ?_) (a' := ?_) #[true, false, false, false, false, false, false, false, false, false, false, false, false, false, false, false, false, false, false, false, false, false, false] rfl rfl (any_of HT_.out (by kernel_rfl)) (fun _ _ _ h => h) (Or.inl ⟨by rfl, ?_⟩) ?_ ?_
                rotate_left
                · intro w'
                  go_simp
                  with_reducible rfl
                rotate_left
                · simp only [Act.put, List.setIfInBounds_toArray, List.set_cons_zero, List.set_cons_succ, i64_w, i32_w]
                  rfl
                refine pure_ (i := 1) (N := some 54) (v := ?_) (a' := ?_) #[true, true, false, false, false, false, false, false, false, false, false, false, false, false, false, false, false, false, false, false, false, false, false] rfl rfl (any_of HT_.out (by kernel_rfl)) (fun _ _ _ h => h) (Or.inl ⟨by rfl, ?_⟩) ?_ ?_
                rotate_left
                · intro w'
                  go_simp
                  with_reducible rfl
                rotate_left
                · simp only [Act.put, List.setIfInBounds_toArray, List.set_cons_zero, List.set_cons_succ, i64_w, i32_w]
                  rfl
                refine pure_ (i := 2) (N := some 55) (v := ?_) (a' := ?_) #[true, true, true, false, false, false, false, false, false, false, false, false, false, false, false, false, false, false, false, false, false, false, false] rfl rfl (any_of HT_.out (by kernel_rfl)) (fun _ _ _ h => h) (Or.inl ⟨by rfl, ?_⟩) ?_ ?_
                rotate_left
                · intro w'
                  go_simp
                  with_reducible rfl
                rotate_left
                · simp only [Act.put, List.setIfInBounds_toArray, List.set_cons_zero, List.set_cons_succ, i64_w, i32_w]
                  rfl
                refine pure_ (i := 3) (N := some 56) (v := undef) (a' := ?_) #[true, true, true, true, false, false, false, false, false, false, false, false, false, false, false, false, false, false, false, false, false, false, false] rfl rfl (any_of HT_.out (by kernel_rfl)) (fun _ _ _ h => h) (Or.inr ⟨by rfl, rfl⟩) ?_ ?_
                rotate_left
                · simp only [Act.put, List.setIfInBounds_toArray, List.set_cons_zero, List.set_cons_succ, i64_w, i32_w]
                  rfl
                refine pure_ (i := 4) (N := some 57) (v := undef) (a' := ?_) #[true, true, true, true, true, false, false, false, false, false, false, false, false, false, false, false, false, false, false, false, false, false, false] rfl rfl (any_of HT_.out (by kernel_rfl)) (fun _ _ _ h => h) (Or.inr ⟨by rfl, rfl⟩) ?_ ?_
                rotate_left
                · simp only [Act.put, List.setIfInBounds_toArray, List.set_cons_zero, List.set_cons_succ, i64_w, i32_w]
                  rfl
                refine pure_ (i := 5) (N := some 58) (v := undef) (a' := ?_) #[true, true, true, true, true, true, false, false, false, false, false, false, false, false, false, false, false, false, false, false, false, false, false] rfl rfl (any_of HT_.out (by kernel_rfl)) (fun _ _ _ h => h) (Or.inr ⟨by rfl, rfl⟩) ?_ ?_
                rotate_left
                · simp only [Act.put, List.setIfInBounds_toArray, List.set_cons_zero, List.set_cons_succ, i64_w, i32_w]
                  rfl
                refine pure_ (i := 6) (N := some 59) (v := undef) (a' := ?_) #[true, true, true, true, true, true, true, false, false, false, false, false, false, false, false, false, false, false, false, false, false, false, false] rfl rfl (any_of HT_.out (by kernel_rfl)) (fun _ _ _ h => h) (Or.inr ⟨by rfl, rfl⟩) ?_ ?_
                rotate_left
                · simp only [Act.put, List.setIfInBounds_toArray, List.set_cons_zero, List.set_cons_succ, i64_w, i32_w]
                  rfl
                refine pure_ (i := 7) (N := some 60) (v := undef) (a' := ?_) #[true, true, true, true, true, true, true, true, false, false, false, false, false, false, false, false, false, false, false, false, false, false, false] rfl rfl (any_of HT_.out (by kernel_rfl)) (fun _ _ _ h => h) (Or.inr ⟨by rfl, rfl⟩) ?_ ?_
                rotate_left
                · simp only [Act.put, List.setIfInBounds_toArray, List.set_cons_zero, List.set_cons_succ, i64_w, i32_w]
                  rfl
                refine pure_ (i := 8) (N := some 61) (v := ?_) (a' := ?_) #[true, true, true, true, true, true, true, true, true, false, false, false, false, false, false, false, false, false, false, false, false, false, false] rfl rfl (any_of HT_.out (by kernel_rfl)) (fun _ _ _ h => h) (Or.inl ⟨by rfl, ?_⟩) ?_ ?_
                rotate_left
                · intro w'
                  go_simp
                  with_reducible rfl
                rotate_left
                · simp only [Act.put, List.setIfInBounds_toArray, List.set_cons_zero, List.set_cons_succ, i64_w, i32_w]
                  rfl
                refine pure_ (i := 9) (N := some 62) (v := ?_) (a' := ?_) #[true, true, true, true, true, true, true, true, true, true, false, false, false, false, false, false, false, false, false, false, false, false, false] rfl rfl (any_of HT_.out (by kernel_rfl)) (fun _ _ _ h => h) (Or.inl ⟨by rfl, ?_⟩) ?_ ?_
                rotate_left
                · intro w'
                  go_simp
                  with_reducible rfl
                rotate_left
                · simp only [Act.put, List.setIfInBounds_toArray, List.set_cons_zero, List.set_cons_succ, i64_w, i32_w]
                  rfl
                refine pure_ (i := 10) (N := some 63) (v := undef) (a' := ?_) #[true, true, true, true, true, true, true, true, true, true, true, false, false, false, false, false, false, false, false, false, false, false, false] rfl rfl (any_of HT_.out (by kernel_rfl)) (fun _ _ _ h => h) (Or.inr ⟨by rfl, rfl⟩) ?_ ?_
                rotate_left
                · simp only [Act.put, List.setIfInBounds_toArray, List.set_cons_zero, List.set_cons_succ, i64_w, i32_w]
                  rfl
                refine pure_ (i := 11) (N := some 64) (v := undef) (a' := ?_) #[true, true, true, true, true, true, true, true, true, true, true, true, false, false, false, false, false, false, false, false, false, false, false] rfl rfl (any_of HT_.out (by kernel_rfl)) (fun _ _ _ h => h) (Or.inr ⟨by rfl, rfl⟩) ?_ ?_
                rotate_left
                · simp only [Act.put, List.setIfInBounds_toArray, List.set_cons_zero, List.set_cons_succ, i64_w, i32_w]
                  rfl
                refine pure_ (i := 12) (N := some 65) (v := undef) (a' := ?_) #[true, true, true, true, true, true, true, true, true, true, true, true, true, false, false, false, false, false, false, false, false, false, false] rfl rfl (any_of HT_.out (by kernel_rfl)) (fun _ _ _ h => h) (Or.inr ⟨by rfl, rfl⟩) ?_ ?_
                rotate_left
                · simp only [Act.put, List.setIfInBounds_toArray, List.set_cons_zero, List.set_cons_succ, i64_w, i32_w]
                  rfl
                refine pure_ (i := 13) (N := some 66) (v := undef) (a' := ?_) #[true, true, true, true, true, true, true, true, true, true, true, true, true, true, false, false, false, false, false, false, false, false, false] rfl rfl (any_of HT_.out (by kernel_rfl)) (fun _ _ _ h => h) (Or.inr ⟨by rfl, rfl⟩) ?_ ?_
                rotate_left
                · simp only [Act.put, List.setIfInBounds_toArray, List.set_cons_zero, List.set_cons_succ, i64_w, i32_w]
                  rfl
                refine pure_ (i := 14) (N := some 67) (v := undef) (a' := ?_) #[true, true, true, true, true, true, true, true, true, true, true, true, true, true, true, false, false, false, false, false, false, false, false] rfl rfl (any_of HT_.out (by kernel_rfl)) (fun _ _ _ h => h) (Or.inr ⟨by rfl, rfl⟩) ?_ ?_
                rotate_left
                · simp only [Act.put, List.setIfInBounds_toArray, List.set_cons_zero, List.set_cons_succ, i64_w, i32_w]
                  rfl
                refine pure_ (i := 15) (N := some 68) (v := ?_) (a' := ?_) #[true, true, true, true, true, true, true, true, true, true, true, true, true, true, true, true, false, false, false, false, false, false, false] rfl rfl (any_of HT_.out (by kernel_rfl)) (fun _ _ _ h => h) (Or.inl ⟨by rfl, ?_⟩) ?_ ?_
                rotate_left
                · intro w'
                  go_simp
                  with_reducible rfl
                rotate_left
                · simp only [Act.put, List.setIfInBounds_toArray, List.set_cons_zero, List.set_cons_succ, i64_w, i32_w]
                  rfl
                refine pure_ (i := 16) (N := some 69) (v := ?_) (a' := ?_) #[true, true, true, true, true, true, true, true, true, true, true, true, true, true, true, true, true, false, false, false, false, false, false] rfl rfl (any_of HT_.out (by kernel_rfl)) (fun _ _ _ h => h) (Or.inl ⟨by rfl, ?_⟩) ?_ ?_
                rotate_left
                · intro w'
                  go_simp
                  with_reducible rfl
                rotate_left
                · simp only [Act.put, List.setIfInBounds_toArray, List.set_cons_zero, List.set_cons_succ, i64_w, i32_w]
                  rfl
                refine pure_ (i := 17) (N := some 70) (v := undef) (a' := ?_) #[true, true, true, true, true, true, true, true, true, true, true, true, true, true, true, true, true, true, false, false, false, false, false] rfl rfl (any_of HT_.out (by kernel_rfl)) (fun _ _ _ h => h) (Or.inr ⟨by rfl, rfl⟩) ?_ ?_
                rotate_left
                · simp only [Act.put, List.setIfInBounds_toArray, List.set_cons_zero, List.set_cons_succ, i64_w, i32_w]
                  rfl
                refine pure_ (i := 18) (N := some 71) (v := undef) (a' := ?_) #[true, true, true, true, true, true, true, true, true, true, true, true, true, true, true, true, true, true, true, false, false, false, false] rfl rfl (any_of HT_.out (by kernel_rfl)) (fun _ _ _ h => h) (Or.inr ⟨by rfl, rfl⟩) ?_ ?_
                rotate_left
                · simp only [Act.put, List.setIfInBounds_toArray, List.set_cons_zero, List.set_cons_succ, i64_w, i32_w]
                  rfl
                refine pure_ (i := 19) (N := some 72) (v := undef) (a' := ?_) #[true, true, true, true, true, true, true, true, true, true, true, true, true, true, true, true, true, true, true, true, false, false, false] rfl rfl (any_of HT_.out (by kernel_rfl)) (fun _ _ _ h => h) (Or.inr ⟨by rfl, rfl⟩) ?_ ?_
                rotate_left
                · simp only [Act.put, List.setIfInBounds_toArray, List.set_cons_zero, List.set_cons_succ, i64_w, i32_w]
                  rfl
                refine pure_ (i := 20) (N := some 73) (v := undef) (a' := ?_) #[true, true, true, true, true, true, true, true, true, true, true, true, true, true, true, true, true, true, true, true, true, false, false] rfl rfl (any_of HT_.out (by kernel_rfl)) (fun _ _ _ h => h) (Or.inr ⟨by rfl, rfl⟩) ?_ ?_
                rotate_left
                · simp only [Act.put, List.setIfInBounds_toArray, List.set_cons_zero, List.set_cons_succ, i64_w, i32_w]
                  rfl
                refine pure_ (i := 21) (N := some 74) (v := undef) (a' := ?_) #[true, true, true, true, true, true, true, true, true, true, true, true, true, true, true, true, true, true, true, true, true, true, false] rfl rfl (any_of HT_.out (by kernel_rfl)) (fun _ _ _ h => h) (Or.inr ⟨by rfl, rfl⟩) ?_ ?_
                rotate_left
                · simp only [Act.put, List.setIfInBounds_toArray, List.set_cons_zero, List.set_cons_succ, i64_w, i32_w]
                  rfl
                refine pure_ (i := 22) (N := some 75) (v := ?_) (a' := ?_) #[true, true, true, true, true, true, true, true, true, true, true, true, true, true, true, true, true, true, true, true, true, true, true] rfl rfl (any_of HT_.out (by kernel_rfl)) (fun _ _ _ h => h) (Or.inl ⟨by rfl, ?_⟩) ?_ ?_
                rotate_left
                · intro w'
                  go_simp
                  with_reducible rfl
                rotate_left
                · simp only [Act.put, List.setIfInBounds_toArray, List.set_cons_zero, List.set_cons_succ, i64_w, i32_w]
                  rfl
                refine done_ (done_of HT_.out (by kernel_rfl)) ?_
                try go_wp2
                go_meet
                case rel => exact ⟨_, (true), (t179), (t180), (t181), (t182), (t184), (t185), (t186), (t187), (by first | rfl | (simp; done) | (simp [*]; done)), H', ⟨by have := HK1.out; first | omega | exact Nat.le_refl _⟩, ⟨by (with_reducible repeat (first | refine blk_drewN ?_ _ | refine blk_drew ?_ | refine blk_alloc ?_ _)); exact BK155.out⟩, ⟨by (with_reducible repeat (first | refine blk_drewN ?_ _ | refine blk_drew ?_ | refine blk_alloc ?_ _)); exact BK161.out⟩, ⟨by (with_reducible repeat (first | refine blk_drewN ?_ _ | refine blk_drew ?_ | refine blk_alloc ?_ _)); exact BK183.out⟩, ⟨by repeat (first | (with_reducible first | exact HI150.out | apply IsS47.alloc | apply IsS47.drewN | apply IsS47.drew | apply IsS47.set_0 | apply IsS47.set_1 | apply IsS47.set_2 | apply IsS47.set_3 | refine IsS47.far ?_ NB150_155.out _ | refine IsS47.far ?_ NB150_161.out _ | refine IsS47.far ?_ NB150_183.out _) | exact HI150.out)⟩, ⟨by repeat (first | (with_reducible first | exact HI160.out | apply IsS47.alloc | apply IsS47.drewN | apply IsS47.drew | apply IsS47.set_0 | apply IsS47.set_1 | apply IsS47.set_2 | apply IsS47.set_3 | refine IsS47.far ?_ NB160_155.out _ | refine IsS47.far ?_ NB160_161.out _ | refine IsS47.far ?_ NB160_183.out _) | exact HI160.out)⟩, ⟨by repeat (first | (with_reducible first | exact HI188.out | apply IsS47.alloc | apply IsS47.drewN | apply IsS47.drew | apply IsS47.set_0 | apply IsS47.set_1 | apply IsS47.set_2 | apply IsS47.set_3 | refine IsS47.far ?_ NB188_155.out _ | refine IsS47.far ?_ NB188_161.out _ | refine IsS47.far ?_ NB188_183.out _) | exact HI188.out)⟩, ⟨by repeat (first | (with_reducible first | exact HB.out | apply below_alloc | apply pw_below_drewN | apply below_drew1 | refine below_set ?_ (IsS47.ge HI150.out) | refine below_set ?_ (IsS47.ge HI160.out) | refine below_set ?_ (IsS47.ge HI188.out) | refine below_set ?_ GE155.out | refine below_set ?_ GE161.out | refine below_set ?_ GE183.out) | exact HB.out)⟩⟩
            case rest =>
              clear HC28
              try clear c1
              try clear p2
              try clear c4
              try clear c15
              try clear c47
              try clear c49
              try clear c49b0
              try clear c49b1
              obtain ⟨kq, x75_27, x151000_27, x151001_27, x151002_27, x151003_27, x189000_27, x189001_27, x189002_27, x189003_27, rfl, HA, HJ27, BK155, BK161, BK183, HI150, HI160, HI188, HB⟩ := hcut
              cases kq with
              | zero => exact absurd HA.out (by simp [octroilaw10_BucketPlays.j1])
              | succ kj27 =>
                have H := HA.out
                clear HA
                simp only [octroilaw10_BucketPlays.j1] at H
                by_cases c63 : x75_27 = true
                · subst c63
                  have H1 : (none) = some r := by rw [if_pos rfl] at H; exact H
                  clear H
                  have H := H1
                  clear H1
                  exact absurd H (by simp)
                · replace c63 := Bool.eq_false_iff.mpr c63
                  subst c63
                  have H1 : ((bucket_Bucket_Take.f x189000_27 x189001_27 x189002_27 x189003_27 0 t177).bind fun bt204 => (if bt204.1 = true then ((bucket_Bucket_Level.f bt204.2.1 bt204.2.2.1 bt204.2.2.2.1 bt204.2.2.2.2 0).bind fun bt209 => (if bt209.1 = 0 then ((bucket_Bucket_Level.f x151000_27 x151001_27 x151002_27 x151003_27 0).bind fun bt214 => (if bt214.1 = t177 then (octroilaw10_BucketPlays.l0 kj27 l3 (wrap64 (x13_1 + 1)) bt214.2.1 bt214.2.2.1 bt214.2.2.2.1 bt214.2.2.2.2 t174 t175 t176 t177 x161000_1 x161001_1 x161002_1 x161003_1 t151 t152 t153 t154) else (none))) else (none))) else (none))) = some r := by rw [if_neg (show ¬ (false = true) by decide)] at H; exact H
                  clear H
                  have H := H1
                  clear H1
                  replace H := Option.bind_eq_some_iff.mp H
                  obtain ⟨⟨t204, t205, t206, t207, t208⟩, A640, H⟩ := H
                  replace H : (if t204 = true then ((bucket_Bucket_Level.f t205 t206 t207 t208 0).bind fun bt209 => (if bt209.1 = 0 then ((bucket_Bucket_Level.f x151000_27 x151001_27 x151002_27 x151003_27 0).bind fun bt214 => (if bt214.1 = t177 then (octroilaw10_BucketPlays.l0 kj27 l3 (wrap64 (x13_1 + 1)) bt214.2.1 bt214.2.2.1 bt214.2.2.2.1 bt214.2.2.2.2 t174 t175 t176 t177 x161000_1 x161001_1 x161002_1 x161003_1 t151 t152 t153 t154) else (none))) else (none))) else (none)) = some r := H
                  have A64 := Aside0.mk A640
                  clear A640
                  by_cases c65 : t204 = true
                  · subst c65
                    have H1 : ((bucket_Bucket_Level.f t205 t206 t207 t208 0).bind fun bt209 => (if bt209.1 = 0 then ((bucket_Bucket_Level.f x151000_27 x151001_27 x151002_27 x151003_27 0).bind fun bt214 => (if bt214.1 = t177 then (octroilaw10_BucketPlays.l0 kj27 l3 (wrap64 (x13_1 + 1)) bt214.2.1 bt214.2.2.1 bt214.2.2.2.1 bt214.2.2.2.2 t174 t175 t176 t177 x161000_1 x161001_1 x161002_1 x161003_1 t151 t152 t153 t154) else (none))) else (none))) = some r := by rw [if_pos rfl] at H; exact H
                    clear H
                    have H := H1
                    clear H1
                    replace H := Option.bind_eq_some_iff.mp H
                    obtain ⟨⟨t209, t210, t211, t212, t213⟩, A660, H⟩ := H
                    replace H : (if t209 = 0 then ((bucket_Bucket_Level.f x151000_27 x151001_27 x151002_27 x151003_27 0).bind fun bt214 => (if bt214.1 = t177 then (octroilaw10_BucketPlays.l0 kj27 l3 (wrap64 (x13_1 + 1)) bt214.2.1 bt214.2.2.1 bt214.2.2.2.1 bt214.2.2.2.2 t174 t175 t176 t177 x161000_1 x161001_1 x161002_1 x161003_1 t151 t152 t153 t154) else (none))) else (none)) = some r := H
                    have A66 := Aside0.mk A660
                    clear A660
                    by_cases c67 : t209 = 0
                    · rw [if_pos c67] at H
                      have c67b0 : (t209 == 0) = true := beq_iff_eq.mpr c67
                      have c67b1 : (t209 != 0) = false := bne_eq_false_iff_eq.mpr c67
                      clear c67
                      replace H := Option.bind_eq_some_iff.mp H
                      obtain ⟨⟨t214, t215, t216, t217, t218⟩, A680, H⟩ := H
                      replace H : (if t214 = t177 then (octroilaw10_BucketPlays.l0 kj27 l3 (wrap64 (x13_1 + 1)) t215 t216 t217 t218 t174 t175 t176 t177 x161000_1 x161001_1 x161002_1 x161003_1 t151 t152 t153 t154) else (none)) = some r := H
                      have A68 := Aside0.mk A680
                      clear A680
                      by_cases c69 : t214 = t177
                      · rw [if_pos c69] at H
                        have c69b0 : (t214 == t177) = true := beq_iff_eq.mpr c69
                        have c69b1 : (t214 != t177) = false := bne_eq_false_iff_eq.mpr c69
                        clear c69
                        have H' := Aside0.mk H
                        clear H
                        try go_wp2
                        have n0_ := Aside0.mk (blk_drew BK155.out)
                        have n1_ := Aside0.mk (blk_drew BK161.out)
                        have n2_ := Aside0.mk (blk_drew BK183.out)
                        have n3_ := Aside0.mk (IsS47.drew HI150.out)
                        have n4_ := Aside0.mk (IsS47.drew HI160.out)
                        have n5_ := Aside0.mk (IsS47.drew HI188.out)
                        have n6_ := Aside0.mk (below_drew1 HB.out)
                        clear BK155
                        clear BK161
                        clear BK183
                        clear HI150
                        clear HI160
                        clear HI188
                        clear HB
                        have BK155 := n0_
                        have BK161 := n1_
                        have BK183 := n2_
                        have HI150 := n3_
                        have HI160 := n4_
                        have HI188 := n5_
                        have HB := n6_
                        clear n0_ n1_ n2_ n3_ n4_ n5_ n6_
                        refine start_ (n := 17) (S := fun w' => w'.cell? ⟨gb155, 0, none⟩ = some (.int .u64 t174) ∧ w'.cell? ⟨gb155, 1, none⟩ = some (.int .u64 t175) ∧ w'.cell? ⟨gb155, 2, none⟩ = some (.int .u64 t176) ∧ w'.cell? ⟨gb155, 3, none⟩ = some (.int .u64 t177)) (ds := []) #[false, false, false, false, false, false, false, false, false, false, false, false, false, false, false, false, false] (by kernel_rfl) rfl rfl ⟨(blk_cell BK155.out 0).trans rfl, (blk_cell BK155.out 1).trans rfl, (blk_cell BK155.out 2).trans rfl, (blk_cell BK155.out 3).trans rfl⟩ (fun hHeld => ?_); refine with_tabW octroilaw10_BucketPlays.tab15 octroilaw10_BucketPlays.bits15 (fun HT_ HW_ => ?_)
                        generalize wc.drew = w70 at BK155 BK161 BK183 HI150 HI160 HI188 HB hHeld ⊢
                        refine pure_ (i := 0) (N := some 76) (v := ?_) (a' := ?_) #[true, false, false, false, false, false, false, false, false, false, false, false, false, false, false, false, false] rfl rfl (any_of HT_.out (by kernel_rfl)) (fun _ _ _ h => h) (Or.inl ⟨by rfl, ?_⟩) ?_ ?_
                        rotate_left
                        · intro w'
                          go_simp
                          with_reducible rfl
                        rotate_left
                        · simp only [Act.put, List.setIfInBounds_toArray, List.set_cons_zero, List.set_cons_succ, i64_w, i32_w]
                          rfl
                        refine pure_ (i := 1) (N := some 77) (v := ?_) (a' := ?_) #[true, true, false, false, false, false, false, false, false, false, false, false, false, false, false, false, false] rfl rfl (any_of HT_.out (by kernel_rfl)) (fun _ _ _ h => h) (Or.inl ⟨by rfl, ?_⟩) ?_ ?_
                        rotate_left
                        · intro w'
                          go_simp
                          with_reducible rfl
                        rotate_left
                        · simp only [Act.put, List.setIfInBounds_toArray, List.set_cons_zero, List.set_cons_succ, i64_w, i32_w]
                          rfl
                        refine take_ (i := 2) (N := some 78) (v := ?_) (a' := ?_) #[true, true, true, false, false, false, false, false, false, false, false, false, false, false, false, false, false] rfl rfl (take_ofW HT_.out HW_.out (by kernel_rfl)) (fun _ _ _ h => h) (Or.inl ⟨by rfl, ?_⟩) hHeld ?_ ?_
                        rotate_left
                        · rintro w' ⟨s0, s1, s2, s3⟩
                          go_simp
                          with_reducible rfl
                        rotate_left
                        · simp only [Act.put, List.setIfInBounds_toArray, List.set_cons_zero, List.set_cons_succ, i64_w, i32_w]
                          rfl
                        refine one_ (i := 3) (N := some 79) #[true, true, true, true, false, false, false, false, false, false, false, false, false, false, false, false, false] rfl rfl (one_of HT_.out (by kernel_rfl)) (by decide) (fun K hK => ?_)
                        refine goes_ Try.func10 (by kernel_rfl) rfl #[.pointer (some ⟨g188, 0, none⟩), .int .u64 0, .int .u64 t177] (by rfl) rfl rfl (by (try simp only [List.map_toArray, List.map_cons, List.map_nil]); first | done | rfl | (simp only [List.length_drop, List.length_take]; rfl)) ?_
                        with_reducible refine (bucket_Bucket_Take.calls g188 x189000_27 x189001_27 x189002_27 x189003_27 0 t177 true t205 t206 t207 t208 w _ ?side1 ?side2 A64.out).mono ?_
                        (case side1 => repeat (first | (with_reducible first | exact HI188.out | apply IsS47.alloc | apply IsS47.drewN | apply IsS47.drew | apply IsS47.set_0 | apply IsS47.set_1 | apply IsS47.set_2 | apply IsS47.set_3 | refine IsS47.far ?_ NB188_155.out _ | refine IsS47.far ?_ NB188_161.out _ | refine IsS47.far ?_ NB188_183.out _) | exact HI188.out))
                        (case side2 => repeat (first | (with_reducible first | exact HB.out | apply below_alloc | apply pw_below_drewN | apply below_drew1 | refine below_set ?_ (IsS47.ge HI150.out) | refine below_set ?_ (IsS47.ge HI160.out) | refine below_set ?_ (IsS47.ge HI188.out) | refine below_set ?_ GE155.out | refine below_set ?_ GE161.out | refine below_set ?_ GE183.out) | exact HB.out))
                        rintro e w71 ⟨rfl, hi, hb, hk⟩
                        refine ⟨_, rfl, ?_⟩
                        have n0_ := Aside0.mk (KeepBut.blk hk (g' := gb155) (o := .cells #[.int .u64 t174, .int .u64 t175, .int .u64 t176, .int .u64 t177] 34 (0, 0)) (by (with_reducible repeat (first | refine blk_drewN ?_ _ | refine blk_drew ?_ | refine blk_alloc ?_ _)); exact BK155.out) NB155_188.out (by simp))
                        have n1_ := Aside0.mk (KeepBut.blk hk (g' := gb161) (o := .cells #[.int .u64 t151, .int .u64 t152, .int .u64 t153, .int .u64 t154] 34 (0, 0)) (by (with_reducible repeat (first | refine blk_drewN ?_ _ | refine blk_drew ?_ | refine blk_alloc ?_ _)); exact BK161.out) NB161_188.out (by simp))
                        have n2_ := Aside0.mk (KeepBut.blk hk (g' := gb183) (o := .cells #[.int .u64 t174, .int .u64 t175, .int .u64 t176, .int .u64 t177] 34 (0, 0)) (by (with_reducible repeat (first | refine blk_drewN ?_ _ | refine blk_drew ?_ | refine blk_alloc ?_ _)); exact BK183.out) NB183_188.out (by simp))
                        have n3_ := Aside0.mk (IsS47.keepG (by repeat (first | (with_reducible first | exact HI150.out | apply IsS47.alloc | apply IsS47.drewN | apply IsS47.drew | apply IsS47.set_0 | apply IsS47.set_1 | apply IsS47.set_2 | apply IsS47.set_3 | refine IsS47.far ?_ NB150_155.out _ | refine IsS47.far ?_ NB150_161.out _ | refine IsS47.far ?_ NB150_183.out _) | exact HI150.out)) hk NB150_188.out)
                        have n4_ := Aside0.mk (IsS47.keepG (by repeat (first | (with_reducible first | exact HI160.out | apply IsS47.alloc | apply IsS47.drewN | apply IsS47.drew | apply IsS47.set_0 | apply IsS47.set_1 | apply IsS47.set_2 | apply IsS47.set_3 | refine IsS47.far ?_ NB160_155.out _ | refine IsS47.far ?_ NB160_161.out _ | refine IsS47.far ?_ NB160_183.out _) | exact HI160.out)) hk NB160_188.out)
                        have n5_ := Aside0.mk (hb)
                        have n6_ := Aside0.mk (hi)
                        clear BK155
                        clear BK161
                        clear BK183
                        clear HI150
                        clear HI160
                        clear HB
                        clear HI188
                        have BK155 := n0_
                        have BK161 := n1_
                        have BK183 := n2_
                        have HI150 := n3_
                        have HI160 := n4_
                        have HB := n5_
                        have HI188 := n6_
                        clear n0_ n1_ n2_ n3_ n4_ n5_ n6_
                        (try clear hb)
                        (try clear hb2)
                        (try clear hk)
                        (try clear hi)
                        (try clear hge)
                        refine hK.out _ _ ⟨(blk_cell BK155.out 0).trans rfl, (blk_cell BK155.out 1).trans rfl, (blk_cell BK155.out 2).trans rfl, (blk_cell BK155.out 3).trans rfl⟩ (fun hHeld => ?_)
                        clear hK K
                        refine norm_ (a' := ?_) ?_ ?_
                        rotate_left
                        · show Act.put _ (some 79) _ = _
                          simp only [Act.put, List.setIfInBounds_toArray, List.set_cons_zero, List.set_cons_succ, i64_w, i32_w]
                          rfl
                        refine pure_ (i := 4) (N := some 80) (v := ?_) (a' := ?_) #[true, true, true, true, true, false, false, false, false, false, false, false, false, false, false, false, false] rfl rfl (any_of HT_.out (by kernel_rfl)) (fun _ _ _ h => h) (Or.inl ⟨by rfl, ?_⟩) ?_ ?_
                        rotate_left
                        · intro w'
                          go_simp
                          with_reducible rfl
                        rotate_left
                        · simp only [Act.put, List.setIfInBounds_toArray, List.set_cons_zero, List.set_cons_succ, i64_w, i32_w]
                          rfl
                        refine pure_ (i := 5) (N := some 81) (v := ?_) (a' := ?_) #[true, true, true, true, true, true, false, false, false, false, false, false, false, false, false, false, false] rfl rfl (any_of HT_.out (by kernel_rfl)) (fun _ _ _ h => h) (Or.inl ⟨by rfl, ?_⟩) ?_ ?_
                        rotate_left
                        · intro w'
                          go_simp
                          with_reducible rfl
                        rotate_left
                        · simp only [Act.put, List.setIfInBounds_toArray, List.set_cons_zero, List.set_cons_succ, i64_w, i32_w]
                          rfl
                        refine pure_ (i := 6) (N := some 82) (v := ?_) (a' := ?_) #[true, true, true, true, true, true, true, false, false, false, false, false, false, false, false, false, false] rfl rfl (any_of HT_.out (by kernel_rfl)) (fun _ _ _ h => h) (Or.inl ⟨by rfl, ?_⟩) ?_ ?_
                        rotate_left
                        · intro w'
                          go_simp
                          with_reducible rfl
                        rotate_left
                        · simp only [Act.put, List.setIfInBounds_toArray, List.set_cons_zero, List.set_cons_succ, i64_w, i32_w]
                          rfl
                        refine one_ (i := 7) (N := some 83) #[true, true, true, true, true, true, true, true, false, false, false, false, false, false, false, false, false] rfl rfl (one_of HT_.out (by kernel_rfl)) (by decide) (fun K hK => ?_)
                        refine goes_ Try.func11 (by kernel_rfl) rfl #[.pointer (some ⟨g188, 0, none⟩), .int .u64 0] (by rfl) rfl rfl (by (try simp only [List.map_toArray, List.map_cons, List.map_nil]); first | done | rfl | (simp only [List.length_drop, List.length_take]; rfl)) ?_
                        with_reducible refine (bucket_Bucket_Level.calls g188 t205 t206 t207 t208 0 t209 t210 t211 t212 t213 w _ ?side1 ?side2 A66.out).mono ?_
                        (case side1 => repeat (first | (with_reducible first | exact HI188.out | apply IsS47.alloc | apply IsS47.drewN | apply IsS47.drew | apply IsS47.set_0 | apply IsS47.set_1 | apply IsS47.set_2 | apply IsS47.set_3 | refine IsS47.far ?_ NB188_155.out _ | refine IsS47.far ?_ NB188_161.out _ | refine IsS47.far ?_ NB188_183.out _) | exact HI188.out))
                        (case side2 => repeat (first | (with_reducible first | exact HB.out | apply below_alloc | apply pw_below_drewN | apply below_drew1 | refine below_set ?_ (IsS47.ge HI150.out) | refine below_set ?_ (IsS47.ge HI160.out) | refine below_set ?_ (IsS47.ge HI188.out) | refine below_set ?_ GE155.out | refine below_set ?_ GE161.out | refine below_set ?_ GE183.out) | exact HB.out))
                        rintro e w72 ⟨rfl, hi, hb, hk⟩
                        refine ⟨_, rfl, ?_⟩
                        have n0_ := Aside0.mk (KeepBut.blk hk (g' := gb155) (o := .cells #[.int .u64 t174, .int .u64 t175, .int .u64 t176, .int .u64 t177] 34 (0, 0)) (by (with_reducible repeat (first | refine blk_drewN ?_ _ | refine blk_drew ?_ | refine blk_alloc ?_ _)); exact BK155.out) NB155_188.out (by simp))
                        have n1_ := Aside0.mk (KeepBut.blk hk (g' := gb161) (o := .cells #[.int .u64 t151, .int .u64 t152, .int .u64 t153, .int .u64 t154] 34 (0, 0)) (by (with_reducible repeat (first | refine blk_drewN ?_ _ | refine blk_drew ?_ | refine blk_alloc ?_ _)); exact BK161.out) NB161_188.out (by simp))
                        have n2_ := Aside0.mk (KeepBut.blk hk (g' := gb183) (o := .cells #[.int .u64 t174, .int .u64 t175, .int .u64 t176, .int .u64 t177] 34 (0, 0)) (by (with_reducible repeat (first | refine blk_drewN ?_ _ | refine blk_drew ?_ | refine blk_alloc ?_ _)); exact BK183.out) NB183_188.out (by simp))
                        have n3_ := Aside0.mk (IsS47.keepG (by repeat (first | (with_reducible first | exact HI150.out | apply IsS47.alloc | apply IsS47.drewN | apply IsS47.drew | apply IsS47.set_0 | apply IsS47.set_1 | apply IsS47.set_2 | apply IsS47.set_3 | refine IsS47.far ?_ NB150_155.out _ | refine IsS47.far ?_ NB150_161.out _ | refine IsS47.far ?_ NB150_183.out _) | exact HI150.out)) hk NB150_188.out)
                        have n4_ := Aside0.mk (IsS47.keepG (by repeat (first | (with_reducible first | exact HI160.out | apply IsS47.alloc | apply IsS47.drewN | apply IsS47.drew | apply IsS47.set_0 | apply IsS47.set_1 | apply IsS47.set_2 | apply IsS47.set_3 | refine IsS47.far ?_ NB160_155.out _ | refine IsS47.far ?_ NB160_161.out _ | refine IsS47.far ?_ NB160_183.out _) | exact HI160.out)) hk NB160_188.out)
                        have n5_ := Aside0.mk (hb)
                        have n6_ := Aside0.mk (hi)
                        clear BK155
                        clear BK161
                        clear BK183
                        clear HI150
                        clear HI160
                        clear HB
                        clear HI188
                        have BK155 := n0_
                        have BK161 := n1_
                        have BK183 := n2_
                        have HI150 := n3_
                        have HI160 := n4_
                        have HB := n5_
                        have HI188 := n6_
                        clear n0_ n1_ n2_ n3_ n4_ n5_ n6_
                        (try clear hb)
                        (try clear hb2)
                        (try clear hk)
                        (try clear hi)
                        (try clear hge)
                        refine hK.out _ _ ⟨(blk_cell BK155.out 0).trans rfl, (blk_cell BK155.out 1).trans rfl, (blk_cell BK155.out 2).trans rfl, (blk_cell BK155.out 3).trans rfl⟩ (fun hHeld => ?_)
                        clear hK K
                        refine norm_ (a' := ?_) ?_ ?_
                        rotate_left
                        · show Act.put _ (some 83) _ = _
                          simp only [Act.put, List.setIfInBounds_toArray, List.set_cons_zero, List.set_cons_succ, i64_w, i32_w]
                          rfl
                        refine pure_ (i := 8) (N := some 84) (v := ?_) (a' := ?_) #[true, true, true, true, true, true, true, true, true, false, false, false, false, false, false, false, false] rfl rfl (any_of HT_.out (by kernel_rfl)) (fun _ _ _ h => h) (Or.inl ⟨by rfl, ?_⟩) ?_ ?_
                        rotate_left
                        · intro w'
                          go_simp
                          with_reducible rfl
                        rotate_left
                        · simp only [Act.put, List.setIfInBounds_toArray, List.set_cons_zero, List.set_cons_succ, i64_w, i32_w]
                          rfl
                        refine pure_ (i := 9) (N := some 85) (v := ?_) (a' := ?_) #[true, true, true, true, true, true, true, true, true, true, false, false, false, false, false, false, false] rfl rfl (any_of HT_.out (by kernel_rfl)) (fun _ _ _ h => h) (Or.inl ⟨by rfl, ?_⟩) ?_ ?_
                        rotate_left
                        · intro w'
                          go_simp
                          with_reducible rfl
                        rotate_left
                        · simp only [Act.put, List.setIfInBounds_toArray, List.set_cons_zero, List.set_cons_succ, i64_w, i32_w]
                          rfl
                        refine pure_ (i := 10) (N := some 86) (v := ?_) (a' := ?_) #[true, true, true, true, true, true, true, true, true, true, true, false, false, false, false, false, false] rfl rfl (any_of HT_.out (by kernel_rfl)) (fun _ _ _ h => h) (Or.inl ⟨by rfl, ?_⟩) ?_ ?_
                        rotate_left
                        · intro w'
                          go_simp
                          with_reducible rfl
                        rotate_left
                        · simp only [Act.put, List.setIfInBounds_toArray, List.set_cons_zero, List.set_cons_succ, i64_w, i32_w]
                          rfl
                        refine pure_ (i := 11) (N := some 87) (v := ?_) (a' := ?_) #[true, true, true, true, true, true, true, true, true, true, true, true, false, false, false, false, false] rfl rfl (any_of HT_.out (by kernel_rfl)) (fun _ _ _ h => h) (Or.inl ⟨by rfl, ?_⟩) ?_ ?_
                        rotate_left
                        · intro w'
                          go_simp
                          with_reducible rfl
                        rotate_left
                        · simp only [Act.put, List.setIfInBounds_toArray, List.set_cons_zero, List.set_cons_succ, i64_w, i32_w]
                          rfl
                        refine pure_ (i := 13) (N := some 89) (v := ?_) (a' := ?_) #[true, true, true, true, true, true, true, true, true, true, true, true, false, true, false, false, false] rfl rfl (any_of HT_.out (by kernel_rfl)) (fun _ _ _ h => h) (Or.inl ⟨by rfl, ?_⟩) ?_ ?_
                        rotate_left
                        · intro w'
                          go_simp
                          with_reducible rfl
                        rotate_left
                        · simp only [Act.put, List.setIfInBounds_toArray, List.set_cons_zero, List.set_cons_succ, i64_w, i32_w]
                          rfl
                        refine take_ (i := 14) (N := some 90) (v := ?_) (a' := ?_) #[true, true, true, true, true, true, true, true, true, true, true, true, false, true, true, false, false] rfl rfl (take_ofW HT_.out HW_.out (by kernel_rfl)) (fun _ _ _ h => h) (Or.inl ⟨by rfl, ?_⟩) hHeld ?_ ?_
                        rotate_left
                        · rintro w' ⟨s0, s1, s2, s3⟩
                          go_simp
                          with_reducible rfl
                        rotate_left
                        · simp only [Act.put, List.setIfInBounds_toArray, List.set_cons_zero, List.set_cons_succ, i64_w, i32_w]
                          rfl
                        refine one_ (i := 12) (N := some 88) #[true, true, true, true, true, true, true, true, true, true, true, true, true, true, true, false, false] rfl rfl (one_of HT_.out (by kernel_rfl)) (by decide) (fun K hK => ?_)
                        refine goes_ Try.func11 (by kernel_rfl) rfl #[.pointer (some ⟨g150, 0, none⟩), .int .u64 0] (by rfl) rfl rfl (by (try simp only [List.map_toArray, List.map_cons, List.map_nil]); first | done | rfl | (simp only [List.length_drop, List.length_take]; rfl)) ?_
                        with_reducible refine (bucket_Bucket_Level.calls g150 x151000_27 x151001_27 x151002_27 x151003_27 0 t214 t215 t216 t217 t218 w _ ?side1 ?side2 A68.out).mono ?_
                        (case side1 => repeat (first | (with_reducible first | exact HI150.out | apply IsS47.alloc | apply IsS47.drewN | apply IsS47.drew | apply IsS47.set_0 | apply IsS47.set_1 | apply IsS47.set_2 | apply IsS47.set_3 | refine IsS47.far ?_ NB150_155.out _ | refine IsS47.far ?_ NB150_161.out _ | refine IsS47.far ?_ NB150_183.out _) | exact HI150.out))
                        (case side2 => repeat (first | (with_reducible first | exact HB.out | apply below_alloc | apply pw_below_drewN | apply below_drew1 | refine below_set ?_ (IsS47.ge HI150.out) | refine below_set ?_ (IsS47.ge HI160.out) | refine below_set ?_ (IsS47.ge HI188.out) | refine below_set ?_ GE155.out | refine below_set ?_ GE161.out | refine below_set ?_ GE183.out) | exact HB.out))
                        rintro e w73 ⟨rfl, hi, hb, hk⟩
                        refine ⟨_, rfl, ?_⟩
                        have n0_ := Aside0.mk (KeepBut.blk hk (g' := gb155) (o := .cells #[.int .u64 t174, .int .u64 t175, .int .u64 t176, .int .u64 t177] 34 (0, 0)) (by (with_reducible repeat (first | refine blk_drewN ?_ _ | refine blk_drew ?_ | refine blk_alloc ?_ _)); exact BK155.out) NB155_150.out (by simp))
                        have n1_ := Aside0.mk (KeepBut.blk hk (g' := gb161) (o := .cells #[.int .u64 t151, .int .u64 t152, .int .u64 t153, .int .u64 t154] 34 (0, 0)) (by (with_reducible repeat (first | refine blk_drewN ?_ _ | refine blk_drew ?_ | refine blk_alloc ?_ _)); exact BK161.out) NB161_150.out (by simp))
                        have n2_ := Aside0.mk (KeepBut.blk hk (g' := gb183) (o := .cells #[.int .u64 t174, .int .u64 t175, .int .u64 t176, .int .u64 t177] 34 (0, 0)) (by (with_reducible repeat (first | refine blk_drewN ?_ _ | refine blk_drew ?_ | refine blk_alloc ?_ _)); exact BK183.out) NB183_150.out (by simp))
                        have n3_ := Aside0.mk (IsS47.keepG (by repeat (first | (with_reducible first | exact HI160.out | apply IsS47.alloc | apply IsS47.drewN | apply IsS47.drew | apply IsS47.set_0 | apply IsS47.set_1 | apply IsS47.set_2 | apply IsS47.set_3 | refine IsS47.far ?_ NB160_155.out _ | refine IsS47.far ?_ NB160_161.out _ | refine IsS47.far ?_ NB160_183.out _) | exact HI160.out)) hk NB160_150.out)
                        have n4_ := Aside0.mk (IsS47.keepG (by repeat (first | (with_reducible first | exact HI188.out | apply IsS47.alloc | apply IsS47.drewN | apply IsS47.drew | apply IsS47.set_0 | apply IsS47.set_1 | apply IsS47.set_2 | apply IsS47.set_3 | refine IsS47.far ?_ NB188_155.out _ | refine IsS47.far ?_ NB188_161.out _ | refine IsS47.far ?_ NB188_183.out _) | exact HI188.out)) hk NB188_150.out)
                        have n5_ := Aside0.mk (hb)
                        have n6_ := Aside0.mk (hi)
                        clear BK155
                        clear BK161
                        clear BK183
                        clear HI160
                        clear HI188
                        clear HB
                        clear HI150
                        have BK155 := n0_
                        have BK161 := n1_
                        have BK183 := n2_
                        have HI160 := n3_
                        have HI188 := n4_
                        have HB := n5_
                        have HI150 := n6_
                        clear n0_ n1_ n2_ n3_ n4_ n5_ n6_
                        (try clear hb)
                        (try clear hb2)
                        (try clear hk)
                        (try clear hi)
                        (try clear hge)
                        refine hK.out _ _ ⟨(blk_cell BK155.out 0).trans rfl, (blk_cell BK155.out 1).trans rfl, (blk_cell BK155.out 2).trans rfl, (blk_cell BK155.out 3).trans rfl⟩ (fun hHeld => ?_)
                        clear hK K
                        refine norm_ (a' := ?_) ?_ ?_
                        rotate_left
                        · show Act.put _ (some 88) _ = _
                          simp only [Act.put, List.setIfInBounds_toArray, List.set_cons_zero, List.set_cons_succ, i64_w, i32_w]
                          rfl
                        refine pure_ (i := 15) (N := some 91) (v := ?_) (a' := ?_) #[true, true, true, true, true, true, true, true, true, true, true, true, true, true, true, true, false] rfl rfl (any_of HT_.out (by kernel_rfl)) (fun _ _ _ h => h) (Or.inl ⟨by rfl, ?_⟩) ?_ ?_
                        rotate_left
                        · intro w'
                          go_simp
                          with_reducible rfl
                        rotate_left
                        · simp only [Act.put, List.setIfInBounds_toArray, List.set_cons_zero, List.set_cons_succ, i64_w, i32_w]
                          rfl
                        refine pure_ (i := 16) (N := some 92) (v := ?_) (a' := ?_) #[true, true, true, true, true, true, true, true, true, true, true, true, true, true, true, true, true] rfl rfl (any_of HT_.out (by kernel_rfl)) (fun _ _ _ h => h) (Or.inl ⟨by rfl, ?_⟩) ?_ ?_
                        rotate_left
                        · intro w'
                          go_simp
                          with_reducible rfl
                        rotate_left
                        · simp only [Act.put, List.setIfInBounds_toArray, List.set_cons_zero, List.set_cons_succ, i64_w, i32_w]
                          rfl
                        refine done_ (done_of HT_.out (by kernel_rfl)) ?_
                        try go_wp2
                        go_roundg kj27
                        case measure => have := HK1.out; have := HJ27.out; omega
                        case rel => exact ⟨(wrap64 (x13_1 + 1)), (t215), (t216), (t217), (t218), (t174), (t175), (t176), (t177), (x161000_1), (x161001_1), (x161002_1), (x161003_1), (by first | rfl | (simp; done) | (simp [*]; done)), H', ⟨by have := HK1.out; have := HJ27.out; omega⟩, ⟨by (with_reducible repeat (first | refine blk_drewN ?_ _ | refine blk_drew ?_ | refine blk_alloc ?_ _)); exact BK155.out⟩, ⟨by (with_reducible repeat (first | refine blk_drewN ?_ _ | refine blk_drew ?_ | refine blk_alloc ?_ _)); exact BK161.out⟩, ⟨by repeat (first | (with_reducible first | exact HI150.out | apply IsS47.alloc | apply IsS47.drewN | apply IsS47.drew | apply IsS47.set_0 | apply IsS47.set_1 | apply IsS47.set_2 | apply IsS47.set_3 | refine IsS47.far ?_ NB150_155.out _ | refine IsS47.far ?_ NB150_161.out _ | refine IsS47.far ?_ NB150_183.out _) | exact HI150.out)⟩, ⟨by repeat (first | (with_reducible first | exact HI160.out | apply IsS47.alloc | apply IsS47.drewN | apply IsS47.drew | apply IsS47.set_0 | apply IsS47.set_1 | apply IsS47.set_2 | apply IsS47.set_3 | refine IsS47.far ?_ NB160_155.out _ | refine IsS47.far ?_ NB160_161.out _ | refine IsS47.far ?_ NB160_183.out _) | exact HI160.out)⟩, ⟨by repeat (first | (with_reducible first | exact HB.out | apply below_alloc | apply pw_below_drewN | apply below_drew1 | refine below_set ?_ (IsS47.ge HI150.out) | refine below_set ?_ (IsS47.ge HI160.out) | refine below_set ?_ (IsS47.ge HI188.out) | refine below_set ?_ GE155.out | refine below_set ?_ GE161.out | refine below_set ?_ GE183.out) | exact HB.out)⟩⟩
                      · rw [if_neg c69] at H
                        exact absurd H (by simp)
                    · rw [if_neg c67] at H
                      exact absurd H (by simp)
                  · replace c65 := Bool.eq_false_iff.mpr c65
                    subst c65
                    have H1 : (none) = some r := by rw [if_neg (show ¬ (false = true) by decide)] at H; exact H
                    clear H
                    have H := H1
                    clear H1
                    exact absurd H (by simp)
          · rw [if_neg c25] at H
            exact absurd H (by simp)
        · rw [if_neg c24] at H
          have c24b0 : decide (x13_1 < (l3.length : Int)) = false := decide_eq_false c24
          clear c24
          replace H := Option.bind_eq_some_iff.mp H
          obtain ⟨⟨t162, t163, t164, t165, t166⟩, A740, H⟩ := H
          replace H : (if t162 = t153 then ((bucket_Bucket_Level.f t163 t164 t165 t166 0).bind fun bt167 => (if bt167.1 = t154 then ((octroilaw10_works.f).bind fun t172 => (some t172)) else (none))) else (none)) = some r := H
          have A74 := Aside0.mk A740
          clear A740
          by_cases c75 : t162 = t153
          · rw [if_pos c75] at H
            have c75b0 : (t162 == t153) = true := beq_iff_eq.mpr c75
            have c75b1 : (t162 != t153) = false := bne_eq_false_iff_eq.mpr c75
            clear c75
            replace H := Option.bind_eq_some_iff.mp H
            obtain ⟨⟨t167, t168, t169, t170, t171⟩, A760, H⟩ := H
            replace H : (if t167 = t154 then ((octroilaw10_works.f).bind fun t172 => (some t172)) else (none)) = some r := H
            have A76 := Aside0.mk A760
            clear A760
            by_cases c77 : t167 = t154
            · rw [if_pos c77] at H
              have c77b0 : (t167 == t154) = true := beq_iff_eq.mpr c77
              have c77b1 : (t167 != t154) = false := bne_eq_false_iff_eq.mpr c77
              clear c77
              replace H := Option.bind_eq_some_iff.mp H
              obtain ⟨t172, A780, H⟩ := H
              replace H : (some t172) = some r := H
              have A78 := Aside0.mk A780
              clear A780
              obtain rfl := Option.some.inj H
              try go_wp2
              have n0_ := Aside0.mk (blk_drew BK155.out)
              have n1_ := Aside0.mk (blk_drew BK161.out)
              have n2_ := Aside0.mk (IsS47.drew HI150.out)
              have n3_ := Aside0.mk (IsS47.drew HI160.out)
              have n4_ := Aside0.mk (below_drew1 HB.out)
              clear BK155
              clear BK161
              clear HI150
              clear HI160
              clear HB
              have BK155 := n0_
              have BK161 := n1_
              have HI150 := n2_
              have HI160 := n3_
              have HB := n4_
              clear n0_ n1_ n2_ n3_ n4_
              refine start_ (n := 16) (S := fun w' => w'.cell? ⟨gb161, 0, none⟩ = some (.int .u64 t151) ∧ w'.cell? ⟨gb161, 1, none⟩ = some (.int .u64 t152) ∧ w'.cell? ⟨gb161, 2, none⟩ = some (.int .u64 t153) ∧ w'.cell? ⟨gb161, 3, none⟩ = some (.int .u64 t154)) (ds := []) #[false, false, false, false, false, false, false, false, false, false, false, false, false, false, false, false] (by kernel_rfl) rfl rfl ⟨(blk_cell BK161.out 0).trans rfl, (blk_cell BK161.out 1).trans rfl, (blk_cell BK161.out 2).trans rfl, (blk_cell BK161.out 3).trans rfl⟩ (fun hHeld => ?_); refine with_tabW octroilaw10_BucketPlays.tab17 octroilaw10_BucketPlays.bits17 (fun HT_ HW_ => ?_)
              generalize wr.drew = w79 at BK155 BK161 HI150 HI160 HB hHeld ⊢
              refine pure_ (i := 0) (N := some 93) (v := ?_) (a' := ?_) #[true, false, false, false, false, false, false, false, false, false, false, false, false, false, false, false] rfl rfl (any_of HT_.out (by kernel_rfl)) (fun _ _ _ h => h) (Or.inl ⟨by rfl, ?_⟩) ?_ ?_
              rotate_left
              · intro w'
                go_simp
                with_reducible rfl
              rotate_left
              · simp only [Act.put, List.setIfInBounds_toArray, List.set_cons_zero, List.set_cons_succ, i64_w, i32_w]
                rfl
              refine pure_ (i := 2) (N := some 95) (v := ?_) (a' := ?_) #[true, false, true, false, false, false, false, false, false, false, false, false, false, false, false, false] rfl rfl (any_of HT_.out (by kernel_rfl)) (fun _ _ _ h => h) (Or.inl ⟨by rfl, ?_⟩) ?_ ?_
              rotate_left
              · intro w'
                go_simp
                with_reducible rfl
              rotate_left
              · simp only [Act.put, List.setIfInBounds_toArray, List.set_cons_zero, List.set_cons_succ, i64_w, i32_w]
                rfl
              refine take_ (i := 3) (N := some 96) (v := ?_) (a' := ?_) #[true, false, true, true, false, false, false, false, false, false, false, false, false, false, false, false] rfl rfl (take_ofW HT_.out HW_.out (by kernel_rfl)) (fun _ _ _ h => h) (Or.inl ⟨by rfl, ?_⟩) hHeld ?_ ?_
              rotate_left
              · rintro w' ⟨s0, s1, s2, s3⟩
                go_simp
                with_reducible rfl
              rotate_left
              · simp only [Act.put, List.setIfInBounds_toArray, List.set_cons_zero, List.set_cons_succ, i64_w, i32_w]
                rfl
              refine one_ (i := 1) (N := some 94) #[true, true, true, true, false, false, false, false, false, false, false, false, false, false, false, false] rfl rfl (one_of HT_.out (by kernel_rfl)) (by decide) (fun K hK => ?_)
              refine goes_ Try.func15 (by kernel_rfl) rfl #[.pointer (some ⟨g160, 0, none⟩)] (by rfl) rfl rfl (by (try simp only [List.map_toArray, List.map_cons, List.map_nil]); first | done | rfl | (simp only [List.length_drop, List.length_take]; rfl)) ?_
              with_reducible refine (bucket_Bucket_Tick.calls g160 x161000_1 x161001_1 x161002_1 x161003_1 t162 t163 t164 t165 t166 w _ ?side1 ?side2 A74.out).mono ?_
              (case side1 => repeat (first | (with_reducible first | exact HI160.out | apply IsS47.alloc | apply IsS47.drewN | apply IsS47.drew | apply IsS47.set_0 | apply IsS47.set_1 | apply IsS47.set_2 | apply IsS47.set_3 | refine IsS47.far ?_ NB160_155.out _ | refine IsS47.far ?_ NB160_161.out _) | exact HI160.out))
              (case side2 => repeat (first | (with_reducible first | exact HB.out | apply below_alloc | apply pw_below_drewN | apply below_drew1 | refine below_set ?_ (IsS47.ge HI150.out) | refine below_set ?_ (IsS47.ge HI160.out) | refine below_set ?_ GE155.out | refine below_set ?_ GE161.out) | exact HB.out))
              rintro e w80 ⟨rfl, hi, hb, hk⟩
              refine ⟨_, rfl, ?_⟩
              have n0_ := Aside0.mk (KeepBut.blk hk (g' := gb155) (o := .cells #[.int .u64 x156000_1, .int .u64 x156001_1, .int .u64 x156002_1, .int .u64 x156003_1] 34 (0, 0)) (by (with_reducible repeat (first | refine blk_drewN ?_ _ | refine blk_drew ?_ | refine blk_alloc ?_ _)); exact BK155.out) NB155_160.out (by simp))
              have n1_ := Aside0.mk (KeepBut.blk hk (g' := gb161) (o := .cells #[.int .u64 t151, .int .u64 t152, .int .u64 t153, .int .u64 t154] 34 (0, 0)) (by (with_reducible repeat (first | refine blk_drewN ?_ _ | refine blk_drew ?_ | refine blk_alloc ?_ _)); exact BK161.out) NB161_160.out (by simp))
              have n2_ := Aside0.mk (IsS47.keepG (by repeat (first | (with_reducible first | exact HI150.out | apply IsS47.alloc | apply IsS47.drewN | apply IsS47.drew | apply IsS47.set_0 | apply IsS47.set_1 | apply IsS47.set_2 | apply IsS47.set_3 | refine IsS47.far ?_ NB150_155.out _ | refine IsS47.far ?_ NB150_161.out _) | exact HI150.out)) hk NB150_160.out)
              have n3_ := Aside0.mk (hb)
              have n4_ := Aside0.mk (hi)
              clear BK155
              clear BK161
              clear HI150
              clear HB
              clear HI160
              have BK155 := n0_
              have BK161 := n1_
              have HI150 := n2_
              have HB := n3_
              have HI160 := n4_
              clear n0_ n1_ n2_ n3_ n4_
              (try clear hb)
              (try clear hb2)
              (try clear hk)
              (try clear hi)
              (try clear hge)
              refine hK.out _ _ ⟨(blk_cell BK161.out 0).trans rfl, (blk_cell BK161.out 1).trans rfl, (blk_cell BK161.out 2).trans rfl, (blk_cell BK161.out 3).trans rfl⟩ (fun hHeld => ?_)
              clear hK K
              refine norm_ (a' := ?_) ?_ ?_
              rotate_left
              · show Act.put _ (some 94) _ = _
                simp only [Act.put, List.setIfInBounds_toArray, List.set_cons_zero, List.set_cons_succ, i64_w, i32_w]
                rfl
              refine pure_ (i := 4) (N := some 97) (v := ?_) (a' := ?_) #[true, true, true, true, true, false, false, false, false, false, false, false, false, false, false, false] rfl rfl (any_of HT_.out (by kernel_rfl)) (fun _ _ _ h => h) (Or.inl ⟨by rfl, ?_⟩) ?_ ?_
              rotate_left
              · intro w'
                go_simp
                with_reducible rfl
              rotate_left
              · simp only [Act.put, List.setIfInBounds_toArray, List.set_cons_zero, List.set_cons_succ, i64_w, i32_w]
                rfl
              refine pure_ (i := 5) (N := some 98) (v := ?_) (a' := ?_) #[true, true, true, true, true, true, false, false, false, false, false, false, false, false, false, false] rfl rfl (any_of HT_.out (by kernel_rfl)) (fun _ _ _ h => h) (Or.inl ⟨by rfl, ?_⟩) ?_ ?_
              rotate_left
              · intro w'
                go_simp
                with_reducible rfl
              rotate_left
              · simp only [Act.put, List.setIfInBounds_toArray, List.set_cons_zero, List.set_cons_succ, i64_w, i32_w]
                rfl
              refine pure_ (i := 6) (N := some 99) (v := ?_) (a' := ?_) #[true, true, true, true, true, true, true, false, false, false, false, false, false, false, false, false] rfl rfl (any_of HT_.out (by kernel_rfl)) (fun _ _ _ h => h) (Or.inl ⟨by rfl, ?_⟩) ?_ ?_
              rotate_left
              · intro w'
                go_simp
                with_reducible rfl
              rotate_left
              · simp only [Act.put, List.setIfInBounds_toArray, List.set_cons_zero, List.set_cons_succ, i64_w, i32_w]
                rfl
              refine pure_ (i := 8) (N := some 101) (v := ?_) (a' := ?_) #[true, true, true, true, true, true, true, false, true, false, false, false, false, false, false, false] rfl rfl (any_of HT_.out (by kernel_rfl)) (fun _ _ _ h => h) (Or.inl ⟨by rfl, ?_⟩) ?_ ?_
              rotate_left
              · intro w'
                go_simp
                with_reducible rfl
              rotate_left
              · simp only [Act.put, List.setIfInBounds_toArray, List.set_cons_zero, List.set_cons_succ, i64_w, i32_w]
                rfl
              refine take_ (i := 9) (N := some 102) (v := ?_) (a' := ?_) #[true, true, true, true, true, true, true, false, true, true, false, false, false, false, false, false] rfl rfl (take_ofW HT_.out HW_.out (by kernel_rfl)) (fun _ _ _ h => h) (Or.inl ⟨by rfl, ?_⟩) hHeld ?_ ?_
              rotate_left
              · rintro w' ⟨s0, s1, s2, s3⟩
                go_simp
                with_reducible rfl
              rotate_left
              · simp only [Act.put, List.setIfInBounds_toArray, List.set_cons_zero, List.set_cons_succ, i64_w, i32_w]
                rfl
              refine one_ (i := 7) (N := some 100) #[true, true, true, true, true, true, true, true, true, true, false, false, false, false, false, false] rfl rfl (one_of HT_.out (by kernel_rfl)) (by decide) (fun K hK => ?_)
              refine goes_ Try.func11 (by kernel_rfl) rfl #[.pointer (some ⟨g160, 0, none⟩), .int .u64 0] (by rfl) rfl rfl (by (try simp only [List.map_toArray, List.map_cons, List.map_nil]); first | done | rfl | (simp only [List.length_drop, List.length_take]; rfl)) ?_
              with_reducible refine (bucket_Bucket_Level.calls g160 t163 t164 t165 t166 0 t167 t168 t169 t170 t171 w _ ?side1 ?side2 A76.out).mono ?_
              (case side1 => repeat (first | (with_reducible first | exact HI160.out | apply IsS47.alloc | apply IsS47.drewN | apply IsS47.drew | apply IsS47.set_0 | apply IsS47.set_1 | apply IsS47.set_2 | apply IsS47.set_3 | refine IsS47.far ?_ NB160_155.out _ | refine IsS47.far ?_ NB160_161.out _) | exact HI160.out))
              (case side2 => repeat (first | (with_reducible first | exact HB.out | apply below_alloc | apply pw_below_drewN | apply below_drew1 | refine below_set ?_ (IsS47.ge HI150.out) | refine below_set ?_ (IsS47.ge HI160.out) | refine below_set ?_ GE155.out | refine below_set ?_ GE161.out) | exact HB.out))
              rintro e w81 ⟨rfl, hi, hb, hk⟩
              refine ⟨_, rfl, ?_⟩
              have n0_ := Aside0.mk (KeepBut.blk hk (g' := gb155) (o := .cells #[.int .u64 x156000_1, .int .u64 x156001_1, .int .u64 x156002_1, .int .u64 x156003_1] 34 (0, 0)) (by (with_reducible repeat (first | refine blk_drewN ?_ _ | refine blk_drew ?_ | refine blk_alloc ?_ _)); exact BK155.out) NB155_160.out (by simp))
              have n1_ := Aside0.mk (KeepBut.blk hk (g' := gb161) (o := .cells #[.int .u64 t151, .int .u64 t152, .int .u64 t153, .int .u64 t154] 34 (0, 0)) (by (with_reducible repeat (first | refine blk_drewN ?_ _ | refine blk_drew ?_ | refine blk_alloc ?_ _)); exact BK161.out) NB161_160.out (by simp))
              have n2_ := Aside0.mk (IsS47.keepG (by repeat (first | (with_reducible first | exact HI150.out | apply IsS47.alloc | apply IsS47.drewN | apply IsS47.drew | apply IsS47.set_0 | apply IsS47.set_1 | apply IsS47.set_2 | apply IsS47.set_3 | refine IsS47.far ?_ NB150_155.out _ | refine IsS47.far ?_ NB150_161.out _) | exact HI150.out)) hk NB150_160.out)
              have n3_ := Aside0.mk (hb)
              have n4_ := Aside0.mk (hi)
              clear BK155
              clear BK161
              clear HI150
              clear HB
              clear HI160
              have BK155 := n0_
              have BK161 := n1_
              have HI150 := n2_
              have HB := n3_
              have HI160 := n4_
              clear n0_ n1_ n2_ n3_ n4_
              (try clear hb)
              (try clear hb2)
              (try clear hk)
              (try clear hi)
              (try clear hge)
              refine hK.out _ _ ⟨(blk_cell BK161.out 0).trans rfl, (blk_cell BK161.out 1).trans rfl, (blk_cell BK161.out 2).trans rfl, (blk_cell BK161.out 3).trans rfl⟩ (fun hHeld => ?_)
              clear hK K
              refine norm_ (a' := ?_) ?_ ?_
              rotate_left
              · show Act.put _ (some 100) _ = _
                simp only [Act.put, List.setIfInBounds_toArray, List.set_cons_zero, List.set_cons_succ, i64_w, i32_w]
                rfl
              refine pure_ (i := 10) (N := some 103) (v := ?_) (a' := ?_) #[true, true, true, true, true, true, true, true, true, true, true, false, false, false, false, false] rfl rfl (any_of HT_.out (by kernel_rfl)) (fun _ _ _ h => h) (Or.inl ⟨by rfl, ?_⟩) ?_ ?_
              rotate_left
              · intro w'
                go_simp
                with_reducible rfl
              rotate_left
              · simp only [Act.put, List.setIfInBounds_toArray, List.set_cons_zero, List.set_cons_succ, i64_w, i32_w]
                rfl
              refine pure_ (i := 11) (N := some 104) (v := ?_) (a' := ?_) #[true, true, true, true, true, true, true, true, true, true, true, true, false, false, false, false] rfl rfl (any_of HT_.out (by kernel_rfl)) (fun _ _ _ h => h) (Or.inl ⟨by rfl, ?_⟩) ?_ ?_
              rotate_left
              · intro w'
                go_simp
                with_reducible rfl
              rotate_left
              · simp only [Act.put, List.setIfInBounds_toArray, List.set_cons_zero, List.set_cons_succ, i64_w, i32_w]
                rfl
              refine pure_ (i := 12) (N := some 105) (v := ?_) (a' := ?_) #[true, true, true, true, true, true, true, true, true, true, true, true, true, false, false, false] rfl rfl (any_of HT_.out (by kernel_rfl)) (fun _ _ _ h => h) (Or.inl ⟨by rfl, ?_⟩) ?_ ?_
              rotate_left
              · intro w'
                go_simp
                with_reducible rfl
              rotate_left
              · simp only [Act.put, List.setIfInBounds_toArray, List.set_cons_zero, List.set_cons_succ, i64_w, i32_w]
                rfl
              refine one_ (i := 13) (N := some 106) #[true, true, true, true, true, true, true, true, true, true, true, true, true, true, false, false] rfl rfl (one_of HT_.out (by kernel_rfl)) (by decide) (fun K hK => ?_)
              refine goes_ Try.func8 (by kernel_rfl) rfl #[] (by rfl) rfl rfl (by (try simp only [List.map_toArray, List.map_cons, List.map_nil]); first | done | rfl | (simp only [List.length_drop, List.length_take]; rfl)) ?_
              with_reducible refine (octroilaw10_works.calls  t172 _ A78.out).mono ?_
              rintro e w82 ⟨rfl, hb⟩
              refine ⟨_, rfl, ?_⟩
              have n0_ := Aside0.mk (blk_below (g := gb155) (o := .cells #[.int .u64 x156000_1, .int .u64 x156001_1, .int .u64 x156002_1, .int .u64 x156003_1] 34 (0, 0)) (by (with_reducible repeat (first | refine blk_drewN ?_ _ | refine blk_drew ?_ | refine blk_alloc ?_ _)); exact BK155.out) hb)
              have n1_ := Aside0.mk (blk_below (g := gb161) (o := .cells #[.int .u64 t151, .int .u64 t152, .int .u64 t153, .int .u64 t154] 34 (0, 0)) (by (with_reducible repeat (first | refine blk_drewN ?_ _ | refine blk_drew ?_ | refine blk_alloc ?_ _)); exact BK161.out) hb)
              have n2_ := Aside0.mk (IsS47.below (by repeat (first | (with_reducible first | exact HI150.out | apply IsS47.alloc | apply IsS47.drewN | apply IsS47.drew | apply IsS47.set_0 | apply IsS47.set_1 | apply IsS47.set_2 | apply IsS47.set_3 | refine IsS47.far ?_ NB150_155.out _ | refine IsS47.far ?_ NB150_161.out _) | exact HI150.out)) hb)
              have n3_ := Aside0.mk (IsS47.below (by repeat (first | (with_reducible first | exact HI160.out | apply IsS47.alloc | apply IsS47.drewN | apply IsS47.drew | apply IsS47.set_0 | apply IsS47.set_1 | apply IsS47.set_2 | apply IsS47.set_3 | refine IsS47.far ?_ NB160_155.out _ | refine IsS47.far ?_ NB160_161.out _) | exact HI160.out)) hb)
              have n4_ := Aside0.mk (below_step (by repeat (first | (with_reducible first | exact HB.out | apply below_alloc | apply pw_below_drewN | apply below_drew1 | refine below_set ?_ (IsS47.ge HI150.out) | refine below_set ?_ (IsS47.ge HI160.out) | refine below_set ?_ GE155.out | refine below_set ?_ GE161.out) | exact HB.out)) hb)
              clear BK155
              clear BK161
              clear HI150
              clear HI160
              clear HB
              have BK155 := n0_
              have BK161 := n1_
              have HI150 := n2_
              have HI160 := n3_
              have HB := n4_
              clear n0_ n1_ n2_ n3_ n4_
              (try clear hb)
              (try clear hb2)
              (try clear hk)
              (try clear hi)
              (try clear hge)
              refine hK.out _ _ ⟨(blk_cell BK161.out 0).trans rfl, (blk_cell BK161.out 1).trans rfl, (blk_cell BK161.out 2).trans rfl, (blk_cell BK161.out 3).trans rfl⟩ (fun hHeld => ?_)
              clear hK K
              refine norm_ (a' := ?_) ?_ ?_
              rotate_left
              · show Act.put _ (some 106) _ = _
                simp only [Act.put, List.setIfInBounds_toArray, List.set_cons_zero, List.set_cons_succ, i64_w, i32_w]
                rfl
              refine pure_ (i := 14) (N := some 107) (v := ?_) (a' := ?_) #[true, true, true, true, true, true, true, true, true, true, true, true, true, true, true, false] rfl rfl (any_of HT_.out (by kernel_rfl)) (fun _ _ _ h => h) (Or.inl ⟨by rfl, ?_⟩) ?_ ?_
              rotate_left
              · intro w'
                go_simp
                with_reducible rfl
              rotate_left
              · simp only [Act.put, List.setIfInBounds_toArray, List.set_cons_zero, List.set_cons_succ, i64_w, i32_w]
                rfl
              refine pure_ (i := 15) (N := some 8) (v := ?_) (a' := ?_) #[true, true, true, true, true, true, true, true, true, true, true, true, true, true, true, true] rfl rfl (any_of HT_.out (by kernel_rfl)) (fun _ _ _ h => h) (Or.inl ⟨by rfl, ?_⟩) ?_ ?_
              rotate_left
              · intro w'
                go_simp
                with_reducible rfl
              rotate_left
              · simp only [Act.put, List.setIfInBounds_toArray, List.set_cons_zero, List.set_cons_succ, i64_w, i32_w]
                rfl
              refine done_ (done_of HT_.out (by kernel_rfl)) ?_
              try go_wp2
              go_ret
              exact ⟨by first | rfl | (simp [errW_none, errW_some] <;> rfl) | (simp [*, errW_none, errW_some] <;> rfl), by repeat (first | (with_reducible first | exact HB.out | apply below_alloc | apply pw_below_drewN | apply below_drew1 | refine below_set ?_ (IsS47.ge HI150.out) | refine below_set ?_ (IsS47.ge HI160.out) | refine below_set ?_ GE155.out | refine below_set ?_ GE161.out) | exact HB.out)⟩
            · rw [if_neg c77] at H
              exact absurd H (by simp)
          · rw [if_neg c75] at H
            exact absurd H (by simp)

end Go.Proofs.Ytdaiabgdlopfiaa.D
