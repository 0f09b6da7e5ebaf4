/- The Go functions that a law reaches, each with a Lean function of the same answers and its contract; no condition but that this function answers. Written by this session's program (over the kit's printer); Lean checks it. -/
import Derived.Test.YtbbjedpbmofmkaaEx0
import Derived.Test.YtbbjedpbmofmkaaEx1
import Derived.Test.YtbbjedpbmofmkaaEx2
namespace Go.Proofs.Ytbbjedpbmofmkaa.E
open Go.RowKit Go.Proofs.YtbbjedpbmofmkaaW.PrintWords Go.Proofs.YtbbjedpbmofmkaaW.PrintLast Go.Proofs.YtbbjedpbmofmkaaW.PrintMore
attribute [local go_sem] max2_int min2_int max_two min_two max_three min_three max_four min_four   -- for this text's walks alone
set_option linter.unusedVariables false
set_option linter.unusedSimpArgs false

/-! ### segment_Ring_Room: function 24 (by hand) -/
def segment_Ring_Room.g (k : Nat) (a0_0 : Int) (a0_1 : Int) (a0_2 : Int) (h : Int) (t : Int) : Option Int :=
  (segment_Ring_Blocks.f k a0_0 a0_1 a0_2).bind fun b => if t < h then some 0 else if IntKind.u64.wrap (t - h) > b then some 0 else some (IntKind.u64.wrap (b - IntKind.u64.wrap (t - h)))

set_option maxHeartbeats 400000 in
theorem segment_Ring_Room.calls1 (k : Nat) (a0 a1 a2 h t : Int) (r : Int) (bt bh br : Nat) (w : World) (ct : w.cell? ⟨bt, 0, none⟩ = some (.int .u64 t)) (ch : w.cell? ⟨bh, 0, none⟩ = some (.int .u64 h))
    (c0 : w.cell? ⟨br, 0, none⟩ = some (.int .i64 a0)) (c1 : w.cell? ⟨br, 1, none⟩ = some (.int .i64 a1)) (c2 : w.cell? ⟨br, 2, none⟩ = some (.int .i64 a2))
    (hG : segment_Ring_Room.g k a0 a1 a2 h t = some r) :
    Calls Try.prog 30 #[.pointer (some ⟨bt, 0, none⟩), .pointer (some ⟨bh, 0, none⟩), .pointer (some ⟨br, 0, none⟩)] w fun e w' => e = .returned (.int .u64 r) ∧ Below w.heap.size w w' := by
  have hu23 := Try.underlying23
  unfold segment_Ring_Room.g at hG
  obtain ⟨b, hB0, hG⟩ := Option.bind_eq_some_iff.mp hG
  have hB := Aside0.mk hB0
  clear hB0
  by_cases hlt : t < h
  · rw [if_pos hlt] at hG
    obtain rfl := Option.some.inj hG
    have hltb : decide (t < h) = true := decide_eq_true hlt
    clear hlt hG
    go_enter Try.func30, Try.ntmps30
    go_wp2_with fail
    go_ret
    exact ⟨rfl, Below.refl _ _⟩
  · rw [if_neg hlt] at hG
    have hltb : decide (t < h) = false := decide_eq_false hlt
    clear hlt
    by_cases hgt : IntKind.u64.wrap (t - h) > b
    · rw [if_pos hgt] at hG
      obtain rfl := Option.some.inj hG
      have hgtb : decide (b < IntKind.u64.wrap (t - h)) = true := decide_eq_true hgt
      clear hgt hG
      go_enter Try.func30, Try.ntmps30
      go_wp2_with (go_at_call 17; refine (segment_Ring_Blocks.calls k _ _ _ _ _ hB.out).mono ?_; rintro e w1 ⟨rfl, hb1⟩; have HB1 := Aside0.mk hb1; clear hb1)
      go_ret
      exact ⟨rfl, HB1.out⟩
    · rw [if_neg hgt] at hG
      obtain rfl := Option.some.inj hG
      have hgtb : decide (b < IntKind.u64.wrap (t - h)) = false := decide_eq_false hgt
      clear hgt hG
      go_enter Try.func30, Try.ntmps30
      go_wp2_with fail
      refine (segment_Ring_Blocks.calls k _ _ _ _ _ hB.out).mono ?_
      rintro e w1 ⟨rfl, hb1⟩
      have HB1 := Aside0.mk hb1
      have c0' := pw_cell_below hb1 c0
      have c1' := pw_cell_below hb1 c1
      have c2' := pw_cell_below hb1 c2
      clear hb1
      go_wp2_with fail
      refine (segment_Ring_Blocks.calls k _ _ _ _ _ hB.out).mono ?_
      rintro e w2 ⟨rfl, hb2⟩
      have HB2 := Aside0.mk (below_step HB1.out hb2)
      clear hb2
      go_wp2_with fail
      go_ret
      exact ⟨rfl, HB2.out⟩

def segment_Ring_Room.f (k : Nat) (a0_0 : Int) (a0_1 : Int) (a0_2 : Int) (a1 : Int) (a2 : Int) : Option Int :=
  (segment_Ring_may.f k a0_0 a0_1 a0_2 ([a1, a2] : List Int)).bind fun t => (if t = true then (segment_Ring_Room.g k a0_0 a0_1 a0_2 a1 a2) else (some 0))

/-- What lies in memory when Room asks may: three variables, and a row of two. -/
theorem segment_Ring_Room.mem (a0_0 a0_1 a0_2 a1 a2 : Int) (w W : World)
    (hW : W = ((((w.alloc (Obj.cells #[Value.int IntKind.i64 a0_0, Value.int IntKind.i64 a0_1, Value.int IntKind.i64 a0_2] 23)).alloc (Obj.cells #[Value.int IntKind.u64 a1] 24)).alloc (Obj.cells #[Value.int IntKind.u64 a2] 24)).alloc (Obj.cells #[Value.int IntKind.u64 a1, Value.int IntKind.u64 a2] 24))) :
    Kd.C (Kd.int .u64) W (some { block := w.heap.size + 1 + 1 + 1, off := 0 }) 2 [a1, a2] ∧ Below w.heap.size w W ∧
    W.cell? ⟨w.heap.size + 1 + 1, 0, none⟩ = some (.int .u64 a2) ∧ W.cell? ⟨w.heap.size + 1, 0, none⟩ = some (.int .u64 a1) ∧
    W.cell? ⟨w.heap.size, 0, none⟩ = some (.int .i64 a0_0) ∧ W.cell? ⟨w.heap.size, 1, none⟩ = some (.int .i64 a0_1) ∧ W.cell? ⟨w.heap.size, 2, none⟩ = some (.int .i64 a0_2) := by
  subst hW
  refine ⟨Kd.C_of_reads (d := (0 : Int)) (h1 := fun _ => rfl) ⟨rfl, by decide, fun _ => ⟨_, rfl, ?_⟩⟩, below_alloc (below_alloc (below_alloc (below_alloc (Below.refl _ _) _) _) _) _, ?_, ?_, ?_, ?_, ?_⟩
  · intro j hj
    match j, hj with
    | 0, _ => go_simp
    | 1, _ => go_simp
  all_goals go_simp

theorem segment_Ring_Room.mono : ∀ a0 a1 a2 a3 a4 k, LeO (segment_Ring_Room.f k a0 a1 a2 a3 a4) (segment_Ring_Room.f (k + 1) a0 a1 a2 a3 a4) := by
  intro a0 a1 a2 a3 a4 k
  unfold segment_Ring_Room.f segment_Ring_Room.g
  repeat' first
      | (with_reducible exact segment_Ring_may.mono _ _ _ _ _)
      | (with_reducible exact segment_Ring_Blocks.mono _ _ _ _)
      | (with_reducible exact LeO.refl _)
      | (with_reducible exact LeO.none _)
      | (with_reducible refine LeO.ite ?_ ?_)
      | (with_reducible refine LeO.bind ?_ (fun _ => ?_))
      | exact LeO.none _
      | refine LeO.ite ?_ ?_
      | refine LeO.bind ?_ (fun _ => ?_)
set_option maxHeartbeats 400000 in
theorem segment_Ring_Room.calls (k : Nat) (a0_0 : Int) (a0_1 : Int) (a0_2 : Int) (a1 : Int) (a2 : Int) (r : Int) (w : World) (h : segment_Ring_Room.f k a0_0 a0_1 a0_2 a1 a2 = some r) :
    Calls Try.prog 24 #[.agg #[.int .i64 a0_0, .int .i64 a0_1, .int .i64 a0_2], .int .u64 a1, .int .u64 a2] w fun e w' => e = .returned (.int .u64 r) ∧ Below w.heap.size w w' := by
  have hu23 := Try.underlying23
  have hmf : ∀ (fn : Fn) (first cap : Array Value) (w : World), (Instr.makeFunc fn first cap).run Try.prog w = .ok (.func fn first cap) w := fun _ _ _ _ => rfl
  unfold segment_Ring_Room.f at h
  obtain ⟨t, hM0, hG⟩ := Option.bind_eq_some_iff.mp h
  have hM := Aside0.mk hM0
  clear hM0 h
  cases t with
  | false =>
    obtain rfl : (0 : Int) = r := by simpa using hG
    clear hG
    go_enter Try.func24, Try.ntmps24
    go_wp2_with fail
    obtain ⟨hC, hB, -⟩ := segment_Ring_Room.mem a0_0 a0_1 a0_2 a1 a2 w _ rfl
    have HB := Aside0.mk hB
    have HC := Aside0.mk hC
    clear hB hC
    refine (segment_Ring_may.calls k a0_0 a0_1 a0_2 _ 2 [a1, a2] false _ HC.out (Nat.le_refl _) hM.out).mono ?_
    rintro e w1 ⟨rfl, hb1⟩
    have HB1 := Aside0.mk (below_step HB.out hb1)
    clear hb1 HB HC
    go_wp2_with fail
    go_ret
    exact ⟨rfl, HB1.out⟩
  | true =>
    have hG2 : segment_Ring_Room.g k a0_0 a0_1 a0_2 a1 a2 = some r := by simpa using hG
    have HG := Aside0.mk hG2
    clear hG hG2
    go_enter Try.func24, Try.ntmps24
    go_wp2_with fail
    obtain ⟨hC, hB, h1, h2, h3, h4, h5⟩ := segment_Ring_Room.mem a0_0 a0_1 a0_2 a1 a2 w _ rfl
    have HB := Aside0.mk hB
    have HC := Aside0.mk hC
    have H1 := Aside0.mk h1
    have H2 := Aside0.mk h2
    have H3 := Aside0.mk h3
    have H4 := Aside0.mk h4
    have H5 := Aside0.mk h5
    clear hB hC h1 h2 h3 h4 h5
    refine (segment_Ring_may.calls k a0_0 a0_1 a0_2 _ 2 [a1, a2] true _ HC.out (Nat.le_refl _) hM.out).mono ?_
    rintro e w1 ⟨rfl, hb1⟩
    have HB1 := Aside0.mk (below_step HB.out hb1)
    have G1 := Aside0.mk (pw_cell_below hb1 H1.out)
    have G2 := Aside0.mk (pw_cell_below hb1 H2.out)
    have G3 := Aside0.mk (pw_cell_below hb1 H3.out)
    have G4 := Aside0.mk (pw_cell_below hb1 H4.out)
    have G5 := Aside0.mk (pw_cell_below hb1 H5.out)
    clear hb1 HB HC H1 H2 H3 H4 H5
    go_wp2_with fail
    refine (segment_Ring_Room.calls1 k a0_0 a0_1 a0_2 a1 a2 r _ _ _ _ G1.out G2.out G3.out G4.out G5.out HG.out).mono ?_
    rintro e w2 ⟨rfl, hb2⟩
    have HB2 := Aside0.mk (below_step HB1.out hb2)
    clear hb2
    go_wp2_with fail
    go_ret
    exact ⟨rfl, HB2.out⟩

/-! ### segment_Ring_Fits: function 22 -/
def segment_Ring_Fits.f (k : Nat) (a0_0 : Int) (a0_1 : Int) (a0_2 : Int) (a1 : Int) (a2 : Int) (a3 : Int) : Option (Int × Bool) := (segment_Ring_Start.f k a0_0 a0_1 a0_2 a2 a3).bind fun bt173 => (if bt173.2 = true then ((segment_Ring_Room.f k a0_0 a0_1 a0_2 a1 a2).bind fun t175 => (if (IntKind.u64.wrap ((IntKind.u64.wrap (bt173.1 - a2)) + (IntKind.u64.wrap (a3)))) > t175 then (some (0, false)) else (some (bt173.1, true)))) else (some (0, false)))
theorem segment_Ring_Fits.mono : ∀ a0 a1 a2 a3 a4 a5 k, LeO (segment_Ring_Fits.f k a0 a1 a2 a3 a4 a5) (segment_Ring_Fits.f (k + 1) a0 a1 a2 a3 a4 a5) := by
  intro a0 a1 a2 a3 a4 a5 k
  unfold segment_Ring_Fits.f
  repeat' first
      | (with_reducible exact segment_Ring_Room.mono _ _ _ _ _ _)
      | (with_reducible exact segment_Ring_Start.mono _ _ _ _ _ _)
      | (with_reducible exact LeO.refl _)
      | (with_reducible exact LeO.none _)
      | (with_reducible refine LeO.ite ?_ ?_)
      | (with_reducible refine LeO.bind ?_ (fun _ => ?_))
      | exact segment_Ring_Room.mono _ _ _ _ _ _
      | exact segment_Ring_Start.mono _ _ _ _ _ _
      | exact LeO.none _
      | refine LeO.ite ?_ ?_
      | refine LeO.bind ?_ (fun _ => ?_)
set_option maxHeartbeats 8000000 in
set_option maxRecDepth 100000 in
theorem segment_Ring_Fits.calls (k : Nat) (a0_0 : Int) (a0_1 : Int) (a0_2 : Int) (a1 : Int) (a2 : Int) (a3 : Int) (r1 : Int) (r2 : Bool) (w : World) (h : segment_Ring_Fits.f k a0_0 a0_1 a0_2 a1 a2 a3 = some (r1, r2)) :
    Calls Try.prog 22 #[.agg #[.int .i64 a0_0, .int .i64 a0_1, .int .i64 a0_2], .int .u64 a1, .int .u64 a2, .int .i64 a3] w fun e w' => e = .returned (.tuple #[.int .u64 r1, .bool r2]) ∧ Below w.heap.size w w' := by
  have hu23 := Try.underlying23
  have HB := Aside0.mk (Below.refl w.heap.size w)
  have H : ((segment_Ring_Start.f k a0_0 a0_1 a0_2 a2 a3).bind fun bt173 => (if bt173.2 = true then ((segment_Ring_Room.f k a0_0 a0_1 a0_2 a1 a2).bind fun t175 => (if (IntKind.u64.wrap ((IntKind.u64.wrap (bt173.1 - a2)) + (IntKind.u64.wrap (a3)))) > t175 then (some (0, false)) else (some (bt173.1, true)))) else (some (0, false)))) = some (r1, r2) := h
  clear h
  replace H := Option.bind_eq_some_iff.mp H
  obtain ⟨⟨t173, t174⟩, A50, H⟩ := H
  replace H : (if t174 = true then ((segment_Ring_Room.f k a0_0 a0_1 a0_2 a1 a2).bind fun t175 => (if (IntKind.u64.wrap ((IntKind.u64.wrap (t173 - a2)) + (IntKind.u64.wrap (a3)))) > t175 then (some (0, false)) else (some (t173, true)))) else (some (0, false))) = some (r1, r2) := H
  have A5 := Aside0.mk A50
  clear A50
  by_cases c6 : t174 = true
  · subst c6
    have H1 : ((segment_Ring_Room.f k a0_0 a0_1 a0_2 a1 a2).bind fun t175 => (if (IntKind.u64.wrap ((IntKind.u64.wrap (t173 - a2)) + (IntKind.u64.wrap (a3)))) > t175 then (some (0, false)) else (some (t173, true)))) = some (r1, r2) := by rw [if_pos rfl] at H; exact H
    clear H
    have H := H1
    clear H1
    replace H := Option.bind_eq_some_iff.mp H
    obtain ⟨t175, A70, H⟩ := H
    replace H : (if (IntKind.u64.wrap ((IntKind.u64.wrap (t173 - a2)) + (IntKind.u64.wrap (a3)))) > t175 then (some (0, false)) else (some (t173, true))) = some (r1, r2) := H
    have A7 := Aside0.mk A70
    clear A70
    by_cases c8 : (IntKind.u64.wrap ((IntKind.u64.wrap (t173 - a2)) + (IntKind.u64.wrap (a3)))) > t175
    · rw [if_pos c8] at H
      have c8b0 : decide (t175 < (IntKind.u64.wrap ((IntKind.u64.wrap (t173 - a2)) + (IntKind.u64.wrap (a3))))) = true := decide_eq_true c8
      clear c8
      simp only [Option.some.injEq, Prod.mk.injEq] at H
      obtain ⟨rfl, rfl⟩ := H
      go_enter Try.func22, Try.ntmps22
      go_wp2_with (first | ((with_reducible refine gate_dst (N := 4) rfl ?_); refine box_event ?hg (N := 4) ?hd (cs := #[.int .i64 a0_0, .int .i64 a0_1, .int .i64 a0_2]) (t := 23) ?hr ?_; (case hd => rfl); (case hg => rfl); (case hr => first | (go_simp; done) | (go_simp; rfl)); intro gb172 hg w9 hbox hb; have n0_ := Aside0.mk (below_step (by repeat (first | (with_reducible first | exact HB.out | apply below_alloc | apply pw_below_drewN | apply below_drew1) | exact HB.out)) hb); have n1_ := Aside0.mk (hbox); have n2_ := Aside0.mk ((by rw [hg]; exact (below_size (by repeat (first | (with_reducible first | exact HB.out | apply below_alloc | apply pw_below_drewN | apply below_drew1) | exact HB.out))) : w.heap.size ≤ gb172)); have n3_ := Aside0.mk ((by rw [hg]; exact (below_size (by repeat (first | (with_reducible first | exact HB.out | apply below_alloc | apply pw_below_drewN | apply below_drew1) | exact HB.out))) : w.heap.size ≤ gb172)); clear HB; have HB := n0_; have BK172 := n1_; have GW172 := n2_; have GE172 := n3_; clear n0_ n1_ n2_ n3_; clear hb hbox hg; have hcz10_0 : w9.cell? ⟨gb172, 0, none⟩ = some (.int .i64 a0_0) := (blk_cell BK172.out 0).trans rfl; have hcz10_1 : w9.cell? ⟨gb172, 1, none⟩ = some (.int .i64 a0_1) := (blk_cell BK172.out 1).trans rfl; have hcz10_2 : w9.cell? ⟨gb172, 2, none⟩ = some (.int .i64 a0_2) := (blk_cell BK172.out 2).trans rfl; have hfz10_0 := blk_frozen BK172.out 0; have hfz10_1 := blk_frozen BK172.out 1; have hfz10_2 := blk_frozen BK172.out 2) | ((with_reducible refine gate_callee (f := 10) rfl ?_); refine goesL_ (some 16) rfl rfl Try.func10 (by kernel_rfl) rfl #[.agg #[.int .i64 a0_0, .int .i64 a0_1, .int .i64 a0_2], .int .u64 a2, .int .i64 a3] rfl (by (try simp only [List.map_toArray, List.map_cons, List.map_nil]); first | done | rfl | (simp only [List.length_drop, List.length_take]; rfl)) ?_; (with_reducible refine (segment_Ring_Start.calls k a0_0 a0_1 a0_2 a2 a3 t173 true _ A5.out).mono ?_); rintro e w11 ⟨rfl, hb⟩; refine ⟨_, rfl, ?_⟩; have n0_ := Aside0.mk (blk_below (g := gb172) (o := .cells #[.int .i64 a0_0, .int .i64 a0_1, .int .i64 a0_2] 23 (0, 0)) (by (with_reducible repeat (first | refine blk_drewN ?_ _ | refine blk_drew ?_ | refine blk_alloc ?_ _)); exact BK172.out) hb); have n1_ := Aside0.mk (below_step (by repeat (first | (with_reducible first | exact HB.out | apply below_alloc | apply pw_below_drewN | apply below_drew1 | refine below_set ?_ GE172.out) | exact HB.out)) hb); clear BK172; clear HB; have BK172 := n0_; have HB := n1_; clear n0_ n1_; (try clear hb); (try clear hb2); (try clear hk); (try clear hi); have hcz12_0 : w11.cell? ⟨gb172, 0, none⟩ = some (.int .i64 a0_0) := (blk_cell BK172.out 0).trans rfl; have hcz12_1 : w11.cell? ⟨gb172, 1, none⟩ = some (.int .i64 a0_1) := (blk_cell BK172.out 1).trans rfl; have hcz12_2 : w11.cell? ⟨gb172, 2, none⟩ = some (.int .i64 a0_2) := (blk_cell BK172.out 2).trans rfl; have hfz12_0 := blk_frozen BK172.out 0; have hfz12_1 := blk_frozen BK172.out 1; have hfz12_2 := blk_frozen BK172.out 2) | (go_at_call 24; (with_reducible refine (segment_Ring_Room.calls k a0_0 a0_1 a0_2 a1 a2 t175 _ A7.out).mono ?_); rintro e w13 ⟨rfl, hb⟩; have n0_ := Aside0.mk (blk_below (g := gb172) (o := .cells #[.int .i64 a0_0, .int .i64 a0_1, .int .i64 a0_2] 23 (0, 0)) (by (with_reducible repeat (first | refine blk_drewN ?_ _ | refine blk_drew ?_ | refine blk_alloc ?_ _)); exact BK172.out) hb); have n1_ := Aside0.mk (below_step (by repeat (first | (with_reducible first | exact HB.out | apply below_alloc | apply pw_below_drewN | apply below_drew1 | refine below_set ?_ GE172.out) | exact HB.out)) hb); clear BK172; clear HB; have BK172 := n0_; have HB := n1_; clear n0_ n1_; (try clear hb); (try clear hb2); (try clear hk); (try clear hi)))
      go_ret2
      exact ⟨by first | rfl | (simp [errW_none, errW_some] <;> rfl) | (simp [*, errW_none, errW_some] <;> rfl), by repeat (first | (with_reducible first | exact HB.out | apply below_alloc | apply pw_below_drewN | apply below_drew1 | refine below_set ?_ GE172.out) | exact HB.out)⟩
    · rw [if_neg c8] at H
      have c8b0 : decide (t175 < (IntKind.u64.wrap ((IntKind.u64.wrap (t173 - a2)) + (IntKind.u64.wrap (a3))))) = false := decide_eq_false c8
      clear c8
      simp only [Option.some.injEq, Prod.mk.injEq] at H
      obtain ⟨rfl, rfl⟩ := H
      go_enter Try.func22, Try.ntmps22
      go_wp2_with (first | ((with_reducible refine gate_dst (N := 4) rfl ?_); refine box_event ?hg (N := 4) ?hd (cs := #[.int .i64 a0_0, .int .i64 a0_1, .int .i64 a0_2]) (t := 23) ?hr ?_; (case hd => rfl); (case hg => rfl); (case hr => first | (go_simp; done) | (go_simp; rfl)); intro gb172 hg w14 hbox hb; have n0_ := Aside0.mk (below_step (by repeat (first | (with_reducible first | exact HB.out | apply below_alloc | apply pw_below_drewN | apply below_drew1) | exact HB.out)) hb); have n1_ := Aside0.mk (hbox); have n2_ := Aside0.mk ((by rw [hg]; exact (below_size (by repeat (first | (with_reducible first | exact HB.out | apply below_alloc | apply pw_below_drewN | apply below_drew1) | exact HB.out))) : w.heap.size ≤ gb172)); have n3_ := Aside0.mk ((by rw [hg]; exact (below_size (by repeat (first | (with_reducible first | exact HB.out | apply below_alloc | apply pw_below_drewN | apply below_drew1) | exact HB.out))) : w.heap.size ≤ gb172)); clear HB; have HB := n0_; have BK172 := n1_; have GW172 := n2_; have GE172 := n3_; clear n0_ n1_ n2_ n3_; clear hb hbox hg; have hcz15_0 : w14.cell? ⟨gb172, 0, none⟩ = some (.int .i64 a0_0) := (blk_cell BK172.out 0).trans rfl; have hcz15_1 : w14.cell? ⟨gb172, 1, none⟩ = some (.int .i64 a0_1) := (blk_cell BK172.out 1).trans rfl; have hcz15_2 : w14.cell? ⟨gb172, 2, none⟩ = some (.int .i64 a0_2) := (blk_cell BK172.out 2).trans rfl; have hfz15_0 := blk_frozen BK172.out 0; have hfz15_1 := blk_frozen BK172.out 1; have hfz15_2 := blk_frozen BK172.out 2) | ((with_reducible refine gate_callee (f := 10) rfl ?_); refine goesL_ (some 16) rfl rfl Try.func10 (by kernel_rfl) rfl #[.agg #[.int .i64 a0_0, .int .i64 a0_1, .int .i64 a0_2], .int .u64 a2, .int .i64 a3] rfl (by (try simp only [List.map_toArray, List.map_cons, List.map_nil]); first | done | rfl | (simp only [List.length_drop, List.length_take]; rfl)) ?_; (with_reducible refine (segment_Ring_Start.calls k a0_0 a0_1 a0_2 a2 a3 t173 true _ A5.out).mono ?_); rintro e w16 ⟨rfl, hb⟩; refine ⟨_, rfl, ?_⟩; have n0_ := Aside0.mk (blk_below (g := gb172) (o := .cells #[.int .i64 a0_0, .int .i64 a0_1, .int .i64 a0_2] 23 (0, 0)) (by (with_reducible repeat (first | refine blk_drewN ?_ _ | refine blk_drew ?_ | refine blk_alloc ?_ _)); exact BK172.out) hb); have n1_ := Aside0.mk (below_step (by repeat (first | (with_reducible first | exact HB.out | apply below_alloc | apply pw_below_drewN | apply below_drew1 | refine below_set ?_ GE172.out) | exact HB.out)) hb); clear BK172; clear HB; have BK172 := n0_; have HB := n1_; clear n0_ n1_; (try clear hb); (try clear hb2); (try clear hk); (try clear hi); have hcz17_0 : w16.cell? ⟨gb172, 0, none⟩ = some (.int .i64 a0_0) := (blk_cell BK172.out 0).trans rfl; have hcz17_1 : w16.cell? ⟨gb172, 1, none⟩ = some (.int .i64 a0_1) := (blk_cell BK172.out 1).trans rfl; have hcz17_2 : w16.cell? ⟨gb172, 2, none⟩ = some (.int .i64 a0_2) := (blk_cell BK172.out 2).trans rfl; have hfz17_0 := blk_frozen BK172.out 0; have hfz17_1 := blk_frozen BK172.out 1; have hfz17_2 := blk_frozen BK172.out 2) | (go_at_call 24; (with_reducible refine (segment_Ring_Room.calls k a0_0 a0_1 a0_2 a1 a2 t175 _ A7.out).mono ?_); rintro e w18 ⟨rfl, hb⟩; have n0_ := Aside0.mk (blk_below (g := gb172) (o := .cells #[.int .i64 a0_0, .int .i64 a0_1, .int .i64 a0_2] 23 (0, 0)) (by (with_reducible repeat (first | refine blk_drewN ?_ _ | refine blk_drew ?_ | refine blk_alloc ?_ _)); exact BK172.out) hb); have n1_ := Aside0.mk (below_step (by repeat (first | (with_reducible first | exact HB.out | apply below_alloc | apply pw_below_drewN | apply below_drew1 | refine below_set ?_ GE172.out) | exact HB.out)) hb); clear BK172; clear HB; have BK172 := n0_; have HB := n1_; clear n0_ n1_; (try clear hb); (try clear hb2); (try clear hk); (try clear hi)))
      go_ret2
      exact ⟨by first | rfl | (simp [errW_none, errW_some] <;> rfl) | (simp [*, errW_none, errW_some] <;> rfl), by repeat (first | (with_reducible first | exact HB.out | apply below_alloc | apply pw_below_drewN | apply below_drew1 | refine below_set ?_ GE172.out) | exact HB.out)⟩
  · replace c6 := Bool.eq_false_iff.mpr c6
    subst c6
    have H1 : (some (0, false)) = some (r1, r2) := by rw [if_neg (show ¬ (false = true) by decide)] at H; exact H
    clear H
    have H := H1
    clear H1
    simp only [Option.some.injEq, Prod.mk.injEq] at H
    obtain ⟨rfl, rfl⟩ := H
    go_enter Try.func22, Try.ntmps22
    go_wp2_with (first | ((with_reducible refine gate_dst (N := 4) rfl ?_); refine box_event ?hg (N := 4) ?hd (cs := #[.int .i64 a0_0, .int .i64 a0_1, .int .i64 a0_2]) (t := 23) ?hr ?_; (case hd => rfl); (case hg => rfl); (case hr => first | (go_simp; done) | (go_simp; rfl)); intro gb172 hg w19 hbox hb; have n0_ := Aside0.mk (below_step (by repeat (first | (with_reducible first | exact HB.out | apply below_alloc | apply pw_below_drewN | apply below_drew1) | exact HB.out)) hb); have n1_ := Aside0.mk (hbox); have n2_ := Aside0.mk ((by rw [hg]; exact (below_size (by repeat (first | (with_reducible first | exact HB.out | apply below_alloc | apply pw_below_drewN | apply below_drew1) | exact HB.out))) : w.heap.size ≤ gb172)); have n3_ := Aside0.mk ((by rw [hg]; exact (below_size (by repeat (first | (with_reducible first | exact HB.out | apply below_alloc | apply pw_below_drewN | apply below_drew1) | exact HB.out))) : w.heap.size ≤ gb172)); clear HB; have HB := n0_; have BK172 := n1_; have GW172 := n2_; have GE172 := n3_; clear n0_ n1_ n2_ n3_; clear hb hbox hg; have hcz20_0 : w19.cell? ⟨gb172, 0, none⟩ = some (.int .i64 a0_0) := (blk_cell BK172.out 0).trans rfl; have hcz20_1 : w19.cell? ⟨gb172, 1, none⟩ = some (.int .i64 a0_1) := (blk_cell BK172.out 1).trans rfl; have hcz20_2 : w19.cell? ⟨gb172, 2, none⟩ = some (.int .i64 a0_2) := (blk_cell BK172.out 2).trans rfl; have hfz20_0 := blk_frozen BK172.out 0; have hfz20_1 := blk_frozen BK172.out 1; have hfz20_2 := blk_frozen BK172.out 2) | ((with_reducible refine gate_callee (f := 10) rfl ?_); refine goesL_ (some 16) rfl rfl Try.func10 (by kernel_rfl) rfl #[.agg #[.int .i64 a0_0, .int .i64 a0_1, .int .i64 a0_2], .int .u64 a2, .int .i64 a3] rfl (by (try simp only [List.map_toArray, List.map_cons, List.map_nil]); first | done | rfl | (simp only [List.length_drop, List.length_take]; rfl)) ?_; (with_reducible refine (segment_Ring_Start.calls k a0_0 a0_1 a0_2 a2 a3 t173 false _ A5.out).mono ?_); rintro e w21 ⟨rfl, hb⟩; refine ⟨_, rfl, ?_⟩; have n0_ := Aside0.mk (blk_below (g := gb172) (o := .cells #[.int .i64 a0_0, .int .i64 a0_1, .int .i64 a0_2] 23 (0, 0)) (by (with_reducible repeat (first | refine blk_drewN ?_ _ | refine blk_drew ?_ | refine blk_alloc ?_ _)); exact BK172.out) hb); have n1_ := Aside0.mk (below_step (by repeat (first | (with_reducible first | exact HB.out | apply below_alloc | apply pw_below_drewN | apply below_drew1 | refine below_set ?_ GE172.out) | exact HB.out)) hb); clear BK172; clear HB; have BK172 := n0_; have HB := n1_; clear n0_ n1_; (try clear hb); (try clear hb2); (try clear hk); (try clear hi)))
    go_ret2
    exact ⟨by first | rfl | (simp [errW_none, errW_some] <;> rfl) | (simp [*, errW_none, errW_some] <;> rfl), by repeat (first | (with_reducible first | exact HB.out | apply below_alloc | apply pw_below_drewN | apply below_drew1 | refine below_set ?_ GE172.out) | exact HB.out)⟩

/-! ### octroilaw16_works: function 21 (by hand) -/
theorem below_of_drawn {w w1 : World} (h : Drawn0 w w1) : Below w.heap.size w w1 := by
  obtain ⟨n, rfl⟩ := h.out
  exact pw_below_drewN (Below.refl _ _) n
theorem lit_C (k : IntKind) (w : World) (t : Nat) (xs : List Int) (hl : xs.length ≤ 9223372036854775807) : Kd.C (Kd.int k) (w.alloc (.cells (xs.map (Value.int k)).toArray t)) (some ⟨w.heap.size, 0, none⟩) xs.length xs := by
  refine Kd.C_of_reads (d := (0 : Int)) (h1 := fun _ => rfl) ⟨rfl, hl, fun _ => ⟨_, rfl, ?_⟩⟩
  intro j hj
  rw [add_plain]
  refine (blk_cell (g := w.heap.size) (t := t) (cs := (xs.map (Value.int k)).toArray) (by exact blk_new w _) _).trans ?_
  simp [hj]

def octroilaw16_works.f : Option (Bool) := some true
set_option maxHeartbeats 400000 in
set_option maxRecDepth 100000 in
theorem octroilaw16_works.calls0 (w : World) :
    Calls Try.prog 21 #[] w fun e w' => e = .returned (.bool true) ∧ Below w.heap.size w w' := by
  have hu23 := Try.underlying23
  go_enter Try.func21, Try.ntmps21
  go_wp2_with fail
  have HB0 := Aside0.mk (below_alloc (Below.refl w.heap.size w) (.cells #[.int .i64 2, .int .i64 3, .int .i64 4] 23))
  have BKr0 := Aside0.mk (blk_new w (.cells #[.int .i64 2, .int .i64 3, .int .i64 4] 23))
  refine (segment_Ring_Segment.calls 50 2 3 4 13 0 1 _ (by decide +kernel)).mono ?_
  rintro e w1 ⟨rfl, hb⟩
  have HB1 := Aside0.mk (below_step HB0.out hb)
  have BKr1 := Aside0.mk (blk_below BKr0.out hb)
  have cr1_0 : w1.cell? ⟨w.heap.size, 0, none⟩ = some (.int .i64 2) := (blk_cell BKr1.out 0).trans rfl
  have cr1_1 : w1.cell? ⟨w.heap.size, 1, none⟩ = some (.int .i64 3) := (blk_cell BKr1.out 1).trans rfl
  have cr1_2 : w1.cell? ⟨w.heap.size, 2, none⟩ = some (.int .i64 4) := (blk_cell BKr1.out 2).trans rfl
  clear HB0 BKr0
  clear hb
  go_wp2_with fail
  refine (segment_Ring_Start.calls 50 2 3 4 6 2 6 true _ (by decide +kernel)).mono ?_
  rintro e w2 ⟨rfl, hb⟩
  have HB2 := Aside0.mk (below_step HB1.out hb)
  have BKr2 := Aside0.mk (blk_below BKr1.out hb)
  have cr2_0 : w2.cell? ⟨w.heap.size, 0, none⟩ = some (.int .i64 2) := (blk_cell BKr2.out 0).trans rfl
  have cr2_1 : w2.cell? ⟨w.heap.size, 1, none⟩ = some (.int .i64 3) := (blk_cell BKr2.out 1).trans rfl
  have cr2_2 : w2.cell? ⟨w.heap.size, 2, none⟩ = some (.int .i64 4) := (blk_cell BKr2.out 2).trans rfl
  clear HB1 BKr1 cr1_0 cr1_1 cr1_2
  clear hb
  go_wp2_with fail
  refine (segment_Ring_Start.calls 50 2 3 4 7 2 8 true _ (by decide +kernel)).mono ?_
  rintro e w3 ⟨rfl, hb⟩
  have HB3 := Aside0.mk (below_step HB2.out hb)
  have BKr3 := Aside0.mk (blk_below BKr2.out hb)
  have cr3_0 : w3.cell? ⟨w.heap.size, 0, none⟩ = some (.int .i64 2) := (blk_cell BKr3.out 0).trans rfl
  have cr3_1 : w3.cell? ⟨w.heap.size, 1, none⟩ = some (.int .i64 3) := (blk_cell BKr3.out 1).trans rfl
  have cr3_2 : w3.cell? ⟨w.heap.size, 2, none⟩ = some (.int .i64 4) := (blk_cell BKr3.out 2).trans rfl
  clear HB2 BKr2 cr2_0 cr2_1 cr2_2
  clear hb
  go_wp2_with fail
  refine (segment_Ring_Start.calls 50 2 3 4 7 5 0 false _ (by decide +kernel)).mono ?_
  rintro e w4 ⟨rfl, hb⟩
  have HB4 := Aside0.mk (below_step HB3.out hb)
  have BKr4 := Aside0.mk (blk_below BKr3.out hb)
  have cr4_0 : w4.cell? ⟨w.heap.size, 0, none⟩ = some (.int .i64 2) := (blk_cell BKr4.out 0).trans rfl
  have cr4_1 : w4.cell? ⟨w.heap.size, 1, none⟩ = some (.int .i64 3) := (blk_cell BKr4.out 1).trans rfl
  have cr4_2 : w4.cell? ⟨w.heap.size, 2, none⟩ = some (.int .i64 4) := (blk_cell BKr4.out 2).trans rfl
  clear HB3 BKr3 cr3_0 cr3_1 cr3_2
  clear hb
  go_wp2_with fail
  refine (segment_Ring_Fits.calls 50 2 3 4 3 13 2 13 true _ (by decide +kernel)).mono ?_
  rintro e w5 ⟨rfl, hb⟩
  have HB5 := Aside0.mk (below_step HB4.out hb)
  have BKr5 := Aside0.mk (blk_below BKr4.out hb)
  have cr5_0 : w5.cell? ⟨w.heap.size, 0, none⟩ = some (.int .i64 2) := (blk_cell BKr5.out 0).trans rfl
  have cr5_1 : w5.cell? ⟨w.heap.size, 1, none⟩ = some (.int .i64 3) := (blk_cell BKr5.out 1).trans rfl
  have cr5_2 : w5.cell? ⟨w.heap.size, 2, none⟩ = some (.int .i64 4) := (blk_cell BKr5.out 2).trans rfl
  clear HB4 BKr4 cr4_0 cr4_1 cr4_2
  clear hb
  go_wp2_with fail
  refine (segment_Ring_Fits.calls 50 2 3 4 3 14 2 0 false _ (by decide +kernel)).mono ?_
  rintro e w6 ⟨rfl, hb⟩
  have HB6 := Aside0.mk (below_step HB5.out hb)
  have BKr6 := Aside0.mk (blk_below BKr5.out hb)
  have cr6_0 : w6.cell? ⟨w.heap.size, 0, none⟩ = some (.int .i64 2) := (blk_cell BKr6.out 0).trans rfl
  have cr6_1 : w6.cell? ⟨w.heap.size, 1, none⟩ = some (.int .i64 3) := (blk_cell BKr6.out 1).trans rfl
  have cr6_2 : w6.cell? ⟨w.heap.size, 2, none⟩ = some (.int .i64 4) := (blk_cell BKr6.out 2).trans rfl
  clear HB5 BKr5 cr5_0 cr5_1 cr5_2
  clear hb
  go_wp2_with fail
  refine (segment_Ring_Blocks.calls 50 2 3 4 12 _ (by decide +kernel)).mono ?_
  rintro e w7 ⟨rfl, hb⟩
  have HB7 := Aside0.mk (below_step HB6.out hb)
  have BKr7 := Aside0.mk (blk_below BKr6.out hb)
  have cr7_0 : w7.cell? ⟨w.heap.size, 0, none⟩ = some (.int .i64 2) := (blk_cell BKr7.out 0).trans rfl
  have cr7_1 : w7.cell? ⟨w.heap.size, 1, none⟩ = some (.int .i64 3) := (blk_cell BKr7.out 1).trans rfl
  have cr7_2 : w7.cell? ⟨w.heap.size, 2, none⟩ = some (.int .i64 4) := (blk_cell BKr7.out 2).trans rfl
  clear HB6 BKr6 cr6_0 cr6_1 cr6_2
  clear hb
  go_wp2_with fail
  refine (segment_Ring_Place.calls 50 2 3 4 0 2 _ (by decide +kernel)).mono ?_
  rintro e w8 ⟨rfl, hb⟩
  have HB8 := Aside0.mk (below_step HB7.out hb)
  have BKr8 := Aside0.mk (blk_below BKr7.out hb)
  have cr8_0 : w8.cell? ⟨w.heap.size, 0, none⟩ = some (.int .i64 2) := (blk_cell BKr8.out 0).trans rfl
  have cr8_1 : w8.cell? ⟨w.heap.size, 1, none⟩ = some (.int .i64 3) := (blk_cell BKr8.out 1).trans rfl
  have cr8_2 : w8.cell? ⟨w.heap.size, 2, none⟩ = some (.int .i64 4) := (blk_cell BKr8.out 2).trans rfl
  clear HB7 BKr7 cr7_0 cr7_1 cr7_2
  clear hb
  go_wp2_with fail
  refine (segment_Ring_Place.calls 50 2 3 4 13 3 _ (by decide +kernel)).mono ?_
  rintro e w9 ⟨rfl, hb⟩
  have HB9 := Aside0.mk (below_step HB8.out hb)
  have BKr9 := Aside0.mk (blk_below BKr8.out hb)
  have cr9_0 : w9.cell? ⟨w.heap.size, 0, none⟩ = some (.int .i64 2) := (blk_cell BKr9.out 0).trans rfl
  have cr9_1 : w9.cell? ⟨w.heap.size, 1, none⟩ = some (.int .i64 3) := (blk_cell BKr9.out 1).trans rfl
  have cr9_2 : w9.cell? ⟨w.heap.size, 2, none⟩ = some (.int .i64 4) := (blk_cell BKr9.out 2).trans rfl
  clear HB8 BKr8 cr8_0 cr8_1 cr8_2
  clear hb
  go_wp2_with fail
  refine (segment_Ring_Room.calls 50 2 3 4 3 14 1 _ (by decide +kernel)).mono ?_
  rintro e w10 ⟨rfl, hb⟩
  have HB10 := Aside0.mk (below_step HB9.out hb)
  have BKr10 := Aside0.mk (blk_below BKr9.out hb)
  have cr10_0 : w10.cell? ⟨w.heap.size, 0, none⟩ = some (.int .i64 2) := (blk_cell BKr10.out 0).trans rfl
  have cr10_1 : w10.cell? ⟨w.heap.size, 1, none⟩ = some (.int .i64 3) := (blk_cell BKr10.out 1).trans rfl
  have cr10_2 : w10.cell? ⟨w.heap.size, 2, none⟩ = some (.int .i64 4) := (blk_cell BKr10.out 2).trans rfl
  clear HB9 BKr9 cr9_0 cr9_1 cr9_2
  clear hb
  go_wp2_with fail
  refine (segment_Ring_Starts.calls 50 2 3 4 6 [6, 8] _ (by decide +kernel)).mono ?_
  rintro e w11 ⟨v, rfl, hR, hb⟩
  obtain ⟨A, c, rfl, hl, hC⟩ := Kd.R_reads hR
  have HB11 := Aside0.mk (below_step HB10.out hb)
  have BKr11 := Aside0.mk (blk_below BKr10.out hb)
  have cr11_0 : w11.cell? ⟨w.heap.size, 0, none⟩ = some (.int .i64 2) := (blk_cell BKr11.out 0).trans rfl
  have cr11_1 : w11.cell? ⟨w.heap.size, 1, none⟩ = some (.int .i64 3) := (blk_cell BKr11.out 1).trans rfl
  have cr11_2 : w11.cell? ⟨w.heap.size, 2, none⟩ = some (.int .i64 4) := (blk_cell BKr11.out 2).trans rfl
  clear HB10 BKr10 cr10_0 cr10_1 cr10_2
  have HC := Aside0.mk hC; have HL := Aside0.mk hl; clear hR hC hl hb
  go_wp2_with fail
  have HA11 := Aside0.mk (below_alloc HB11.out (.cells #[.int .u64 6, .int .u64 8] 24))
  have BA11 := Aside0.mk (blk_alloc BKr11.out (.cells #[.int .u64 6, .int .u64 8] 24))
  clear HB11 BKr11; have HB11 := HA11; have BKr11 := BA11; clear HA11 BA11
  refine (octroilaw16_same.calls 50 A c [6, 8] _ 2 [6, 8] true _ (Kd.C_alloc HC.out _) HL.out (lit_C .u64 w11 24 [6, 8] (by decide)) (Nat.le_refl _) (by decide +kernel)).mono ?_
  rintro e w12 ⟨rfl, hd⟩
  have hb := below_of_drawn hd
  have HB12 := Aside0.mk (below_step HB11.out hb)
  have BKr12 := Aside0.mk (blk_below BKr11.out hb)
  have cr12_0 : w12.cell? ⟨w.heap.size, 0, none⟩ = some (.int .i64 2) := (blk_cell BKr12.out 0).trans rfl
  have cr12_1 : w12.cell? ⟨w.heap.size, 1, none⟩ = some (.int .i64 3) := (blk_cell BKr12.out 1).trans rfl
  have cr12_2 : w12.cell? ⟨w.heap.size, 2, none⟩ = some (.int .i64 4) := (blk_cell BKr12.out 2).trans rfl
  clear HB11 BKr11 cr11_0 cr11_1 cr11_2
  clear HC HL hb hd
  go_wp2_with fail
  refine (segment_Ring_Starts.calls 50 2 3 4 8 [8] _ (by decide +kernel)).mono ?_
  rintro e w13 ⟨v, rfl, hR, hb⟩
  obtain ⟨A, c, rfl, hl, hC⟩ := Kd.R_reads hR
  have HB13 := Aside0.mk (below_step HB12.out hb)
  have BKr13 := Aside0.mk (blk_below BKr12.out hb)
  have cr13_0 : w13.cell? ⟨w.heap.size, 0, none⟩ = some (.int .i64 2) := (blk_cell BKr13.out 0).trans rfl
  have cr13_1 : w13.cell? ⟨w.heap.size, 1, none⟩ = some (.int .i64 3) := (blk_cell BKr13.out 1).trans rfl
  have cr13_2 : w13.cell? ⟨w.heap.size, 2, none⟩ = some (.int .i64 4) := (blk_cell BKr13.out 2).trans rfl
  clear HB12 BKr12 cr12_0 cr12_1 cr12_2
  have HC := Aside0.mk hC; have HL := Aside0.mk hl; clear hR hC hl hb
  go_wp2_with fail
  have HA13 := Aside0.mk (below_alloc HB13.out (.cells #[.int .u64 8] 24))
  have BA13 := Aside0.mk (blk_alloc BKr13.out (.cells #[.int .u64 8] 24))
  clear HB13 BKr13; have HB13 := HA13; have BKr13 := BA13; clear HA13 BA13
  refine (octroilaw16_same.calls 50 A c [8] _ 1 [8] true _ (Kd.C_alloc HC.out _) HL.out (lit_C .u64 w13 24 [8] (by decide)) (Nat.le_refl _) (by decide +kernel)).mono ?_
  rintro e w14 ⟨rfl, hd⟩
  have hb := below_of_drawn hd
  have HB14 := Aside0.mk (below_step HB13.out hb)
  have BKr14 := Aside0.mk (blk_below BKr13.out hb)
  have cr14_0 : w14.cell? ⟨w.heap.size, 0, none⟩ = some (.int .i64 2) := (blk_cell BKr14.out 0).trans rfl
  have cr14_1 : w14.cell? ⟨w.heap.size, 1, none⟩ = some (.int .i64 3) := (blk_cell BKr14.out 1).trans rfl
  have cr14_2 : w14.cell? ⟨w.heap.size, 2, none⟩ = some (.int .i64 4) := (blk_cell BKr14.out 2).trans rfl
  clear HB13 BKr13 cr13_0 cr13_1 cr13_2
  clear HC HL hb hd
  go_wp2_with fail
  go_ret
  exact ⟨rfl, HB14.out⟩
theorem octroilaw16_works.calls (r : Bool) (w : World) (h : octroilaw16_works.f = some r) :
    Calls Try.prog 21 #[] w fun e w' => e = .returned (.bool r) ∧ Below w.heap.size w w' := by
  obtain rfl : true = r := by simpa [octroilaw16_works.f] using h
  exact octroilaw16_works.calls0 w

end Go.Proofs.Ytbbjedpbmofmkaa.E
