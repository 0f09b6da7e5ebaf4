/- shaper.line.out; conditions: the line lies in memory, its queue has a head. -/
import Derived.Test.YtballojildjbhaaSE
namespace Go.Proofs.Ytballojildjbhaa.S
open Go Go.RowKit Go.Proofs.YtballojildjbhaaW.PrintWords Go.Proofs.YtballojildjbhaaW.PrintLast Go.Proofs.YtballojildjbhaaW.PrintMore Go.Proofs.Ytballojildjbhaa.F
set_option linter.unusedVariables false
set_option linter.unusedSimpArgs false

/-- One line turns; nothing new is its own. -/
theorem Sh.turn0 {W W' : World} {O : Nat → Nat} {s : Nat} {tick : Int} {ls : List Ls} (h : Sh W O s tick ls) {i : Nat} {l l' : Ls} {p : Nat} (hi : ls[i]? = some l)
    {r0 c0 : Nat} (hs0 : W.heap[s]? = some (.cells #[.int .u64 tick, .slice (some ⟨r0, 0, none⟩) ls.length c0] 90 (0, 0))) (hp : W.cell? ⟨r0, i, none⟩ = some (.pointer (some ⟨p, 0, none⟩)))
    (hk : KeepD W W' fun k => O k = i + 2) (hL : Ln W' (fun k => O k = i + 2) p l') : Sh W' O s tick (ls.set i l') := by
  obtain ⟨ho, ⟨A, c, hb, hr⟩, hlt⟩ := h
  have hil : i < ls.length := (List.getElem?_eq_some_iff.1 hi).1
  obtain ⟨r, cs, rfl, hor, hh, hc⟩ := hr (by omega)
  refine ⟨ho, ⟨some ⟨r, 0, none⟩, c, ?_, fun _ => ⟨r, cs, rfl, hor, (hk.block r (blk_lt hh) (by omega)).trans hh, ?_⟩⟩, fun k hn => Nat.lt_of_lt_of_le (hlt k hn) hk.size⟩
  · rw [List.length_set]; exact (hk.block s (blk_lt hb) (by omega)).trans hb
  · intro j m hj
    by_cases hij : i = j
    · subst hij
      rw [List.getElem?_set_self hil] at hj
      cases hj
      obtain ⟨p0, hp0, _⟩ := hc i l hi
      have e0 := hb.symm.trans hs0
      simp only [Option.some.injEq, Obj.cells.injEq, Array.mk.injEq, List.cons.injEq, Value.slice.injEq, Addr.mk.injEq, and_true, true_and] at e0
      obtain rfl : r = r0 := by simpa using e0.1
      have e := (blk_cell hh i).symm.trans hp
      rw [hp0] at e
      simp only [Option.some.injEq, Value.pointer.injEq, Addr.mk.injEq, and_true] at e
      subst e
      exact ⟨p0, hp0, hL⟩
    · rw [List.getElem?_set_ne hij] at hj
      obtain ⟨p0, hp0, hL0⟩ := hc j m hj
      exact ⟨p0, hp0, hL0.step fun k hk' hD => ⟨hk.block k hk' (by omega), hD⟩⟩

theorem Lq.queue0 {W W' : World} {D : Nat → Prop} {p : Nat} {l : Ls} {b q : Nat} {ys : List It} {d : Int} (h : Lq W D p l b q) (hq : Fq W' (fun k => D k ∧ k ≠ p ∧ k ≠ b) q ys l.items l.bound d)
    (hk : KeepD W W' fun k => D k ∧ k ≠ p ∧ k ≠ b) : Lq W' D p { l with xs := ys, drops := d } b q :=
  ⟨h.dp, (hk.block p h.lb.lt fun e => e.2.1 rfl).trans h.lb, h.db, (hk.block b (blk_lt h.bk) fun e => e.2.2 rfl).trans h.bk, hq⟩

theorem keep_of_grown {W W' : World} {b : Nat} {D : Nat → Prop} (h : W.grownBy W' (some b)) (hb : D b) : KeepD W W' D :=
  ⟨h.os, h.tape, h.output, h.size, fun k hk hn => h.block k hk (by rintro ⟨rfl⟩; exact hn hb)⟩

/-- A line whose head goes out at a tick. -/
def outL (l : Ls) (x : It) (ys : List It) (t : Int) : Ls :=
  { l with out := IntKind.u64.wrap (l.out + 1), byt := IntKind.u64.wrap (l.byt + x.size), tick := B.tickV l.tick t, tok := B.subV (B.tokV l.rate l.burst l.tick l.tok t) x.size, xs := ys }

theorem LOk.out {l : Ls} (h : LOk l) {x : It} {ys : List It} {t : Int} (hx : l.xs = x :: ys) (ht : B.U64 t) : LOk (outL l x ys t) := by
  have hq := h.q
  have hf := h.few
  have hs := h.sml
  rw [hx] at hq hf hs
  have h0 := hq.pos x (by simp)
  have h1 := hs x (by simp)
  exact ⟨h.b.take ht ⟨h0, by omega⟩, hq.pop, hf.pop, fun y hy => hs y (List.mem_cons_of_mem _ hy)⟩

set_option maxRecDepth 100000 in
set_option maxHeartbeats 2000000 in
theorem out_any (D : Nat → Prop) (p : Nat) (l : Ls) (x : It) (ys : List It) (t : Int) (w : World) (hL : Ln w D p l) (hl : LOk l) (hx : l.xs = x :: ys) (ht : B.U64 t) (hlt : ∀ k, D k → k < w.heap.size) :
    Calls Try.prog 30 #[.pointer (some ⟨p, 0, none⟩), .int .u64 t] w fun e w' => ∃ A n c, e = .returned (.agg #[.int .u64 x.no, .int .i64 x.size, .slice A n c]) ∧ Dat w' (fun k => w.heap.size ≤ k ∧ U8 w' k) A n x.data ∧
      Ln w' D p (outL l x ys t) ∧ KeepD w w' D := by
  obtain ⟨b, q, hq⟩ := hL.named
  have hba := below_alloc (Below.refl _ w) (.cells #[.int .u64 0, .int .i64 0, .slice none 0 0] 25)
  have hok := hl.q
  have hfw := hl.few
  have hsm := hl.sml
  rw [hx] at hok hfw hsm
  have hx0 := hok.pos x (by simp)
  have hx1 := hsm x (by simp)
  have hxl := hfw x (by simp)
  have hq1 := hq.below hba
  have hfq := hq1.fq
  rw [hx] at hfq
  have HO := Aside0.mk hok
  have HB := Aside0.mk hl.b
  have HQ1 := Aside0.mk hq1
  have HF := Aside0.mk hfq
  have HBA := Aside0.mk hba
  have HX := Aside0.mk hx
  have HR1 := Aside0.mk (blk_new w (.cells #[.int .u64 0, .int .i64 0, .slice none 0 0] 25))
  clear hL hl hx hok hfw hsm hq hq1 hfq hba
  go_enter Try.func30, Try.ntmps30
  go_upto_region 1 with (fail)
  generalize hw1 : w.alloc (.cells #[.int .u64 0, .int .i64 0, .slice none 0 0] 25) = w1 at *
  have HW1 := Aside0.mk hw1
  clear hw1
  have c5 := Lb.c5 HQ1.out.lb
  go_wp2_with fail
  refine (pop_some _ q x ys _ _ _ w1 HF.out HO.out hxl).mono ?_
  rintro e w2 ⟨A, n, c, rfl, hd2, hq2, hk2⟩
  have HQ2 := Aside0.mk (HQ1.out.queue0 hq2 hk2)
  have HK2 := Aside0.mk (hk2.mono fun k hk => hk.1)
  have HD2 := Aside0.mk hd2
  have HR2 := Aside0.mk ((hk2.block w.heap.size (blk_lt HR1.out) (fun h => by have := hlt _ h.1; omega)).trans HR1.out)
  have hz : w1.heap.size = w.heap.size + 1 := by rw [← HW1.out]; exact World.size_alloc _ _
  have hz2 := hk2.size
  have HZ := Aside0.mk hz
  have HLT := Aside0.mk hlt
  clear c5 hd2 hq2 hk2 HF hz hlt
  go_wp2_with fail
  have HQ3 := Aside0.mk (HQ2.out.below (below_alloc (Below.refl _ w2) (.cells #[.int .u64 x.no, .int .i64 x.size, .slice A n c] 25)))
  have HK3 := Aside0.mk (KeepD.of_below (below_alloc (Below.refl _ w2) (.cells #[.int .u64 x.no, .int .i64 x.size, .slice A n c] 25)) (fun k => D k ∨ k = w.heap.size))
  have HR3 := Aside0.mk (blk_alloc HR2.out (.cells #[.int .u64 x.no, .int .i64 x.size, .slice A n c] 25))
  have HX3 := Aside0.mk (blk_new w2 (.cells #[.int .u64 x.no, .int .i64 x.size, .slice A n c] 25))
  have hg0 : w.heap.size < w2.heap.size := by have := HZ.out; omega
  clear HQ2 HR2
  generalize w2.alloc (.cells #[.int .u64 x.no, .int .i64 x.size, .slice A n c] 25) = w3 at *
  generalize hgg : w2.heap.size = g at *
  have HG := Aside0.mk hgg
  clear hgg
  have c4 := Lb.c4 HQ3.out.lb
  obtain ⟨u0, u1, u2, v0, v1, v2⟩ := cells3 HX3.out
  have hw : IntKind.u64.wrap x.size = x.size := by simp only [IntKind.wrap_u64]; omega
  refine wp_region_still_tail 8 (by kernel_rfl) (by kernel_rfl) ?_
  change wpStill _ _ w3.drew (fun a' => wpList _ _ _ _ a' w3.drew) _ _
  simp only [List.take_succ_cons, List.take_zero, List.drop_succ_cons, List.drop_zero]
  repeat still_step
  refine wpStill_nil ?_
  go_wp2_with fail
  refine (B.take_any b _ _ _ _ t x.size w3.drew (show B.Bk w3 b l.rate l.burst l.tick l.tok from HQ3.out.bk) HB.out ht ⟨hx0, by omega⟩).mono ?_
  rintro e w4 ⟨rfl, hk4, hg4⟩
  have hg4' : w3.grownBy w4 (some b) := ⟨hg4.os, hg4.tape, hg4.output, hg4.size, hg4.block⟩
  have hbl : b < w.heap.size := HLT.out _ HQ3.out.db
  have HQ4 := Aside0.mk (HQ3.out.bucket hk4 hg4')
  have HR4 := Aside0.mk ((hg4'.block w.heap.size (blk_lt HR3.out) (by simp; omega)).trans HR3.out)
  have HX4 := Aside0.mk ((hg4'.block g (blk_lt HX3.out) (by simp; omega)).trans HX3.out)
  have HK4 := Aside0.mk (HK3.out.trans (keep_of_grown (D := D) hg4' HQ3.out.db) fun k _ h => .inl h)
  clear hk4 hg4 hg4' HQ3 HR3 HX3 HK3 u0 u1 u2 v0 v1 v2 c4
  have hpl : p < w.heap.size := HLT.out _ HQ4.out.dp
  have c2 := Lb.c2 HQ4.out.lb
  have f2 := Lb.fz HQ4.out.lb 2
  go_wp2_with fail
  refine (uadd_any p 2 _ 1 _ c2 f2).mono ?_
  rintro e w5 ⟨rfl, rfl⟩
  have HQ5 := Aside0.mk (HQ4.out.count (HQ4.out.lb.put2 (IntKind.u64.wrap (l.out + 1))))
  have HR5 := Aside0.mk ((heap_far (W := w4) (g := p) (i := 2) (v := .int .u64 (IntKind.u64.wrap (l.out + 1))) (show w.heap.size ≠ p by omega)).trans HR4.out)
  have HX5 := Aside0.mk ((heap_far (W := w4) (g := p) (i := 2) (v := .int .u64 (IntKind.u64.wrap (l.out + 1))) (show g ≠ p by omega)).trans HX4.out)
  have HK5 := Aside0.mk (HK4.out.set_ (g := p) (i := 2) (v := .int .u64 (IntKind.u64.wrap (l.out + 1))) (.inr (.inl HQ4.out.dp)))
  clear c2 f2 HQ4 HR4 HX4 HK4
  generalize w4.setCell ⟨p, 2, none⟩ (.int .u64 (IntKind.u64.wrap (l.out + 1))) = w5 at *
  go_wp2_with fail
  have c3 := Lb.c3 HQ5.out.lb
  have f3 := Lb.fz HQ5.out.lb 3
  obtain ⟨u0, u1, u2, v0, v1, v2⟩ := cells3 HX5.out
  refine wp_region_still_tail 7 (by kernel_rfl) (by kernel_rfl) ?_
  change wpStill _ _ w5.drew (fun a' => wpList _ _ _ _ a' w5.drew) _ _
  simp only [List.take_succ_cons, List.take_zero, List.drop_succ_cons, List.drop_zero]
  repeat still_step
  refine wpStill_nil ?_
  go_wp2_with fail
  refine (uadd_any p 3 _ x.size w5.drew c3 f3).mono ?_
  rintro e w6 ⟨rfl, hw6⟩
  have HQ6 := Aside0.mk ((HQ5.out.step (W' := w5.drew) fun k _ hD => ⟨rfl, hD⟩).count ((show Lb w5.drew p _ _ _ _ _ _ from HQ5.out.lb).put3 (IntKind.u64.wrap (l.byt + x.size))))
  have HR6 := Aside0.mk ((heap_far (W := w5.drew) (g := p) (i := 3) (v := .int .u64 (IntKind.u64.wrap (l.byt + x.size))) (show w.heap.size ≠ p by omega)).trans HR5.out)
  have HX6 := Aside0.mk ((heap_far (W := w5.drew) (g := p) (i := 3) (v := .int .u64 (IntKind.u64.wrap (l.byt + x.size))) (show g ≠ p by omega)).trans HX5.out)
  have HK6 := Aside0.mk (HK5.out.drew.set_ (g := p) (i := 3) (v := .int .u64 (IntKind.u64.wrap (l.byt + x.size))) (.inr (.inl HQ5.out.dp)))
  clear c3 f3 HQ5 HR5 HX5 HK5 u0 u1 u2 v0 v1 v2
  generalize w5.drew.setCell ⟨p, 3, none⟩ (.int .u64 (IntKind.u64.wrap (l.byt + x.size))) = w7 at *
  subst hw6
  obtain ⟨u0, u1, u2, v0, v1, v2⟩ := cells3 HX6.out
  obtain ⟨r0, r1, r2, t0, t1, t2⟩ := cells3 HR6.out
  have hgne : ¬ w.heap.size = g := by omega
  go_wp2_with fail
  have b1 := set3 (a' := .int .u64 x.no) (b' := .int .i64 x.size) (c' := .slice A n c) HR6.out
  have HK7 := Aside0.mk (((HK6.out.set_ (g := w.heap.size) (i := 0) (v := .int .u64 x.no) (.inr (.inr rfl))).set_ (g := w.heap.size) (i := 1) (v := .int .i64 x.size) (.inr (.inr rfl))).set_ (g := w.heap.size) (i := 2) (v := .slice A n c) (.inr (.inr rfl)))
  have HLN := Aside0.mk (HQ6.out.step (W' := ((w7.setCell ⟨w.heap.size, 0, none⟩ (.int .u64 x.no)).setCell ⟨w.heap.size, 1, none⟩ (.int .i64 x.size)).setCell ⟨w.heap.size, 2, none⟩ (.slice A n c)) (D' := D) fun k _ hD => ⟨by
    have := HLT.out k hD
    rw [heap_far (by omega), heap_far (by omega), heap_far (by omega)], hD⟩)
  clear HK6 HQ6 u0 u1 u2 v0 v1 v2 r0 r1 r2 t0 t1 t2
  generalize ((w7.setCell ⟨w.heap.size, 0, none⟩ (.int .u64 x.no)).setCell ⟨w.heap.size, 1, none⟩ (.int .i64 x.size)).setCell ⟨w.heap.size, 2, none⟩ (.slice A n c) = w8 at *
  obtain ⟨u0, u1, u2, v0, v1, v2⟩ := cells3 b1
  refine bodyPost_ret (v := .agg #[.int .u64 x.no, .int .i64 x.size, .slice A n c]) (by simp [results, Try.results30, go_sem, u0, u1, u2]) rfl ⟨A, n, c, rfl, ?_, HLN.out.line, ?_⟩
  · have hz := HZ.out
    have hk := HK7.out.block
    refine HD2.out.step fun k hlt hD => ?_
    have e := hk k hlt (by
      rintro (h | h)
      · have := HLT.out k h; omega
      · omega)
    exact ⟨e, by omega, hD.2.same e⟩
  · have k1 : KeepD w w2 D := (KeepD.of_below HBA.out D).trans HK2.out fun k _ h => h
    exact k1.trans HK7.out fun k hk h => by
      rcases h with h | h
      · exact h
      · omega
end Go.Proofs.Ytballojildjbhaa.S
