/- shaper.Shaper.line, Tick, Stat, Queued; conditions: the shaper lies in memory. -/
import Derived.Test.YtballojildjbhaaSA
namespace Go.Proofs.Ytballojildjbhaa.S
open Go Go.RowKit Go.Proofs.YtballojildjbhaaW.PrintWords Go.Proofs.YtballojildjbhaaW.PrintLast Go.Proofs.YtballojildjbhaaW.PrintMore Go.Proofs.Ytballojildjbhaa.F
set_option linter.unusedVariables false
set_option linter.unusedSimpArgs false

set_option maxHeartbeats 400000 in
theorem line_nil (i : Int) (w : World) : Calls Try.prog 27 #[.pointer none, .int .i64 i] w fun e w' => e = .returned (.pointer none) ∧ w = w' := by
  go_enter Try.func27, Try.ntmps27
  go_wp2
  go_ret
  exact ⟨rfl, rfl⟩
set_option maxHeartbeats 400000 in
theorem line_neg (s : Nat) (i : Int) (w : World) (hi : decide (i < 0) = true) : Calls Try.prog 27 #[.pointer (some ⟨s, 0, none⟩), .int .i64 i] w fun e w' => e = .returned (.pointer none) ∧ w = w' := by
  go_enter Try.func27, Try.ntmps27
  go_wp2
  go_ret
  exact ⟨rfl, rfl⟩
set_option maxHeartbeats 400000 in
theorem line_past (s n c : Nat) (i tick : Int) (A : Option Addr) (w : World) (hs : w.heap[s]? = some (.cells #[.int .u64 tick, .slice A n c] 90 (0, 0))) (hi : decide (i < 0) = false) (hn : decide ((n : Int) ≤ i) = true) :
    Calls Try.prog 27 #[.pointer (some ⟨s, 0, none⟩), .int .i64 i] w fun e w' => e = .returned (.pointer none) ∧ w = w' := by
  have c1 : w.cell? ⟨s, 1, none⟩ = some (.slice A n c) := (blk_cell hs 1).trans rfl
  clear hs
  go_enter Try.func27, Try.ntmps27
  go_wp2
  go_ret
  exact ⟨rfl, rfl⟩
set_option maxHeartbeats 400000 in
theorem line_at (s n c r p i : Nat) (tick : Int) (w : World) (hs : w.heap[s]? = some (.cells #[.int .u64 tick, .slice (some ⟨r, 0, none⟩) n c] 90 (0, 0))) (hp : w.cell? ⟨r, i, none⟩ = some (.pointer (some ⟨p, 0, none⟩))) (hn : i < n) :
    Calls Try.prog 27 #[.pointer (some ⟨s, 0, none⟩), .int .i64 i] w fun e w' => e = .returned (.pointer (some ⟨p, 0, none⟩)) ∧ w = w' := by
  have c1 : w.cell? ⟨s, 1, none⟩ = some (.slice (some ⟨r, 0, none⟩) n c) := (blk_cell hs 1).trans rfl
  have h0 : decide ((i : Int) < 0) = false := decide_eq_false (by omega)
  have h1 : decide ((n : Int) ≤ i) = false := decide_eq_false (by omega)
  have h2 : (i : Int) < n := by omega
  have h3 : (0 : Int) ≤ i := by omega
  clear hs
  go_enter Try.func27, Try.ntmps27
  go_wp2
  go_ret
  exact ⟨rfl, rfl⟩

/-- There is no such line. -/
def noLine (ls : List Ls) (i : Int) : Prop := i < 0 ∨ (ls.length : Int) ≤ i

theorem line_no {O : Nat → Nat} {s : Nat} {tick : Int} {ls : List Ls} {i : Int} {w : World} (h : Sh w O s tick ls) (hi : noLine ls i) :
    Calls Try.prog 27 #[.pointer (some ⟨s, 0, none⟩), .int .i64 i] w fun e w' => e = .returned (.pointer none) ∧ w = w' := by
  by_cases h0 : i < 0
  · exact line_neg s i w (decide_eq_true h0)
  · obtain ⟨ho, ⟨A, c, hb, hr⟩, hlt⟩ := h
    rcases hi with hi | hi
    · exact absurd hi h0
    · exact line_past s _ c i tick A w hb (decide_eq_false h0) (decide_eq_true hi)

set_option maxHeartbeats 400000 in
theorem tick_nil (w : World) : Calls Try.prog 13 #[.pointer none] w fun e w' => e = .returned (.int .u64 0) ∧ w = w' := by
  go_enter Try.func13, Try.ntmps13
  go_wp2
  go_ret
  exact ⟨rfl, rfl⟩
set_option maxHeartbeats 400000 in
theorem tick_any (O : Nat → Nat) (s : Nat) (tick : Int) (ls : List Ls) (w : World) (h : Sh w O s tick ls) : Calls Try.prog 13 #[.pointer (some ⟨s, 0, none⟩)] w fun e w' => e = .returned (.int .u64 tick) ∧ w = w' := by
  obtain ⟨ho, ⟨A, c, hb, hr⟩, hlt⟩ := h
  have c0 : w.cell? ⟨s, 0, none⟩ = some (.int .u64 tick) := (blk_cell hb 0).trans rfl
  clear hb hr hlt ho
  go_enter Try.func13, Try.ntmps13
  go_wp2
  go_ret
  exact ⟨rfl, rfl⟩

set_option maxHeartbeats 400000 in
theorem stat_none (p : Value) (i : Int) (w : World) (h : ∀ W, Below w.heap.size w W → Calls Try.prog 27 #[p, .int .i64 i] W fun e w' => e = .returned (.pointer none) ∧ W = w') :
    Calls Try.prog 14 #[p, .int .i64 i] w fun e w' => e = .returned (.agg #[.int .u64 0, .int .u64 0, .int .u64 0, .int .u64 0]) ∧ Below w.heap.size w w' := by
  have HC := Aside0.mk h
  clear h
  go_enter Try.func14, Try.ntmps14
  go_wp2_with fail
  refine (HC.out _ (below_alloc (Below.refl _ _) _)).mono ?_
  rintro e w1 ⟨rfl, rfl⟩
  go_wp2
  exact bodyPost_ret (v := .agg #[.int .u64 0, .int .u64 0, .int .u64 0, .int .u64 0]) (by simp [results, Try.results14, go_sem]) rfl ⟨rfl, below_alloc (Below.refl _ _) _⟩
theorem stat_nil (i : Int) (w : World) : Calls Try.prog 14 #[.pointer none, .int .i64 i] w fun e w' => e = .returned (.agg #[.int .u64 0, .int .u64 0, .int .u64 0, .int .u64 0]) ∧ Below w.heap.size w w' :=
  stat_none _ i w fun W _ => line_nil i W
theorem stat_no (O : Nat → Nat) (s : Nat) (tick : Int) (ls : List Ls) (i : Int) (w : World) (h : Sh w O s tick ls) (hi : noLine ls i) :
    Calls Try.prog 14 #[.pointer (some ⟨s, 0, none⟩), .int .i64 i] w fun e w' => e = .returned (.agg #[.int .u64 0, .int .u64 0, .int .u64 0, .int .u64 0]) ∧ Below w.heap.size w w' :=
  stat_none _ i w fun W hb => line_no (h.below hb) hi

theorem Lb.c0 {W : World} {p : Nat} {o d u y : Int} {b q : Nat} (h : Lb W p o d u y b q) : W.cell? ⟨p, 0, none⟩ = some (.int .u64 o) := (blk_cell h 0).trans rfl
theorem Lb.c1 {W : World} {p : Nat} {o d u y : Int} {b q : Nat} (h : Lb W p o d u y b q) : W.cell? ⟨p, 1, none⟩ = some (.int .u64 d) := (blk_cell h 1).trans rfl
theorem Lb.c2 {W : World} {p : Nat} {o d u y : Int} {b q : Nat} (h : Lb W p o d u y b q) : W.cell? ⟨p, 2, none⟩ = some (.int .u64 u) := (blk_cell h 2).trans rfl
theorem Lb.c3 {W : World} {p : Nat} {o d u y : Int} {b q : Nat} (h : Lb W p o d u y b q) : W.cell? ⟨p, 3, none⟩ = some (.int .u64 y) := (blk_cell h 3).trans rfl
theorem Lb.c4 {W : World} {p : Nat} {o d u y : Int} {b q : Nat} (h : Lb W p o d u y b q) : W.cell? ⟨p, 4, none⟩ = some (.pointer (some ⟨b, 0, none⟩)) := (blk_cell h 4).trans rfl
theorem Lb.c5 {W : World} {p : Nat} {o d u y : Int} {b q : Nat} (h : Lb W p o d u y b q) : W.cell? ⟨p, 5, none⟩ = some (.pointer (some ⟨q, 0, none⟩)) := (blk_cell h 5).trans rfl

theorem uload_back (b i : Nat) (v : Int) (w : World) (hc : w.cell? ⟨b, i, none⟩ = some (.int .u64 v)) :
    Calls Try.prog 31 #[.pointer (some ⟨b, i, none⟩)] w fun e w' => e = .returned (.int .u64 v) ∧ w' = w := (uload_any b i v w hc).mono fun _ _ ⟨h1, h2⟩ => ⟨h1, h2.symm⟩

set_option maxRecDepth 100000 in
set_option maxHeartbeats 1000000 in
theorem stat_some (O : Nat → Nat) (s : Nat) (tick : Int) (ls : List Ls) (i : Nat) (l : Ls) (w : World) (h : Sh w O s tick ls) (hi : ls[i]? = some l) :
    Calls Try.prog 14 #[.pointer (some ⟨s, 0, none⟩), .int .i64 i] w fun e w' => e = .returned (.agg #[.int .u64 l.off, .int .u64 l.drp, .int .u64 l.out, .int .u64 l.byt]) ∧ Below w.heap.size w w' := by
  obtain ⟨r, c, p, hs, hp, hL⟩ := h.line_ hi
  have hil : i < ls.length := (List.getElem?_eq_some_iff.1 hi).1
  obtain ⟨-, b, q, hb, -⟩ := hL
  have HS := Aside0.mk (blk_alloc hs (.cells #[.int .u64 0, .int .u64 0, .int .u64 0, .int .u64 0] 40))
  have HB := Aside0.mk (blk_alloc hb (.cells #[.int .u64 0, .int .u64 0, .int .u64 0, .int .u64 0] 40))
  have HP := Aside0.mk (cell_below hp (below_alloc (Below.refl _ w) (.cells #[.int .u64 0, .int .u64 0, .int .u64 0, .int .u64 0] 40)))
  clear hs hp hb h hi
  go_enter Try.func14, Try.ntmps14
  go_wp2_with fail
  refine (line_at s _ c r p i tick _ HS.out HP.out hil).mono ?_
  rintro e w1 ⟨rfl, rfl⟩
  have HN := Aside0.mk (blk_new w (.cells #[.int .u64 0, .int .u64 0, .int .u64 0, .int .u64 0] 40))
  have HK := Aside0.mk (below_alloc (Below.refl _ w) (.cells #[.int .u64 0, .int .u64 0, .int .u64 0, .int .u64 0] 40))
  generalize w.alloc (.cells #[.int .u64 0, .int .u64 0, .int .u64 0, .int .u64 0] 40) = w1 at *
  go_wp2_with fail
  have H0 := Aside0.mk (uload_back p 0 _ w1.drew (Lb.c0 HB.out))
  have H1 := Aside0.mk (uload_back p 1 _ w1.drew (Lb.c1 HB.out))
  have H2 := Aside0.mk (uload_back p 2 _ w1.drew (Lb.c2 HB.out))
  have H3 := Aside0.mk (uload_back p 3 _ w1.drew (Lb.c3 HB.out))
  refine wp_region_still_tail 21 (by kernel_rfl) (by kernel_rfl) ?_
  change wpStill _ _ w1.drew (fun a' => wpList _ _ _ _ a' w1.drew) _ _
  simp only [List.take_succ_cons, List.take_zero, List.drop_succ_cons, List.drop_zero]
  repeat still_step
  still_call (H0.out)
  repeat still_step
  still_call (H1.out)
  repeat still_step
  still_call (H2.out)
  repeat still_step
  still_call (H3.out)
  repeat still_step
  refine wpStill_nil ?_
  obtain ⟨⟨u0, u1, u2, u3⟩, v0, v1, v2, v3⟩ := cells4 HN.out
  go_wp2
  have b4 := set4 (a' := .int .u64 l.off) (b' := .int .u64 l.drp) (c' := .int .u64 l.out) (d' := .int .u64 l.byt) HN.out
  obtain ⟨⟨u0, u1, u2, u3⟩, v0, v1, v2, v3⟩ := cells4 b4
  refine bodyPost_ret (v := .agg #[.int .u64 l.off, .int .u64 l.drp, .int .u64 l.out, .int .u64 l.byt]) (by simp [results, Try.results14, go_sem, u0, u1, u2, u3]) rfl ⟨rfl, ?_⟩
  exact below_set (below_set (below_set (below_set (below_drew HK.out) (Nat.le_refl _)) (Nat.le_refl _)) (Nat.le_refl _)) (Nat.le_refl _)

theorem queued_none (p : Value) (i : Int) (w : World) (h : Calls Try.prog 27 #[p, .int .i64 i] w fun e w' => e = .returned (.pointer none) ∧ w = w') :
    Calls Try.prog 15 #[p, .int .i64 i] w fun e w' => e = .returned (.slice none 0 0) ∧ w = w' := by
  have HC := Aside0.mk h
  clear h
  go_enter Try.func15, Try.ntmps15
  go_wp2_with fail
  refine HC.out.mono ?_
  rintro e w1 ⟨rfl, rfl⟩
  go_wp2
  go_ret
  exact ⟨rfl, rfl⟩
theorem queued_nil (i : Int) (w : World) : Calls Try.prog 15 #[.pointer none, .int .i64 i] w fun e w' => e = .returned (.slice none 0 0) ∧ w = w' := queued_none _ i w (line_nil i w)
theorem queued_no (O : Nat → Nat) (s : Nat) (tick : Int) (ls : List Ls) (i : Int) (w : World) (h : Sh w O s tick ls) (hi : noLine ls i) :
    Calls Try.prog 15 #[.pointer (some ⟨s, 0, none⟩), .int .i64 i] w fun e w' => e = .returned (.slice none 0 0) ∧ w = w' := queued_none _ i w (line_no h hi)

theorem few_items {l : Ls} (h : LOk l) : l.xs.length ≤ 65536 := by
  have h1 := h.q.many
  have h2 := h.q.items
  omega

set_option maxHeartbeats 1000000 in
theorem queued_some (O : Nat → Nat) (s : Nat) (tick : Int) (ls : List Ls) (i : Nat) (l : Ls) (w : World) (h : Sh w O s tick ls) (hi : ls[i]? = some l) (hl : LOk l) :
    Calls Try.prog 15 #[.pointer (some ⟨s, 0, none⟩), .int .i64 i] w fun e w' => ∃ v cells, e = .returned v ∧ w'.ownsRow w.heap.size 25 3 v l.xs.length cells ∧ Its w' w.heap.size cells l.xs ∧ Dist cells ∧ Below w.heap.size w w' := by
  obtain ⟨r, c, p, hs, hp, hL⟩ := h.line_ hi
  have hil : i < ls.length := (List.getElem?_eq_some_iff.1 hi).1
  obtain ⟨-, b, q, hb, -, -, hq⟩ := hL
  have HS := Aside0.mk hs
  have HP := Aside0.mk hp
  have HQ := Aside0.mk hq
  have HF := Aside0.mk hl
  have c5 := Lb.c5 hb
  clear hs hp hb hq h hi hl
  go_enter Try.func15, Try.ntmps15
  go_wp2_with fail
  refine (line_at s _ c r p i tick _ HS.out HP.out hil).mono ?_
  rintro e w1 ⟨rfl, rfl⟩
  go_wp2_with fail
  refine (all_any _ q l.xs _ _ _ _ HQ.out HF.out.few (few_items HF.out)).mono ?_
  rintro e w2 ⟨v, cells, rfl, h1, h2, h3, h4⟩
  have H1 := Aside0.mk h1
  have H2 := Aside0.mk h2
  have H3 := Aside0.mk h3
  have H4 := Aside0.mk h4
  clear h1 h2 h3 h4
  go_wp2
  go_ret
  exact ⟨v, cells, rfl, H1.out, H2.out, H3.out, H4.out⟩
end Go.Proofs.Ytballojildjbhaa.S
