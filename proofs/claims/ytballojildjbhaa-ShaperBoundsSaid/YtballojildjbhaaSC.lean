/- shaper.Shaper.Offer; conditions: the shaper lies in memory, the item's bytes are not its own. -/
import Derived.Test.YtballojildjbhaaSB
import Derived.StillTailTactics
namespace Go.Proofs.Ytballojildjbhaa.S
open Go Go.RowKit Go.Proofs.YtballojildjbhaaW.PrintWords Go.Proofs.YtballojildjbhaaW.PrintLast Go.Proofs.YtballojildjbhaaW.PrintMore Go.Proofs.Ytballojildjbhaa.F
set_option linter.unusedVariables false
set_option linter.unusedSimpArgs false

/-- A line in memory, its bucket and queue named. -/
structure Lq (W : World) (D : Nat → Prop) (p : Nat) (l : Ls) (b q : Nat) : Prop where
  dp : D p
  lb : Lb W p l.off l.drp l.out l.byt b q
  db : D b
  bk : B.Bk W b l.rate l.burst l.tick l.tok
  fq : Fq W (fun k => D k ∧ k ≠ p ∧ k ≠ b) q l.xs l.items l.bound l.drops
theorem Ln.named {W : World} {D : Nat → Prop} {p : Nat} {l : Ls} (h : Ln W D p l) : ∃ b q, Lq W D p l b q := by
  obtain ⟨h1, b, q, h2, h3, h4, h5⟩ := h
  exact ⟨b, q, h1, h2, h3, h4, h5⟩
theorem Lq.line {W : World} {D : Nat → Prop} {p : Nat} {l : Ls} {b q : Nat} (h : Lq W D p l b q) : Ln W D p l := ⟨h.dp, b, q, h.lb, h.db, h.bk, h.fq⟩
theorem Lq.ne {W : World} {D : Nat → Prop} {p : Nat} {l : Ls} {b q : Nat} (h : Lq W D p l b q) : p ≠ b := blk_ne h.lb h.bk (by decide)
theorem Lq.step {W W' : World} {D D' : Nat → Prop} {p : Nat} {l : Ls} {b q : Nat} (h : Lq W D p l b q) (hk : ∀ k, k < W.heap.size → D k → W'.heap[k]? = W.heap[k]? ∧ D' k) : Lq W' D' p l b q :=
  ⟨(hk p h.lb.lt h.dp).2, (hk p h.lb.lt h.dp).1.trans h.lb, (hk b (blk_lt h.bk) h.db).2, (hk b (blk_lt h.bk) h.db).1.trans h.bk, h.fq.step fun k hc hD => ⟨(hk k hc.lt hD.1).1, (hk k hc.lt hD.1).2, hD.2⟩⟩
theorem Lq.below {W W' : World} {D : Nat → Prop} {p : Nat} {l : Ls} {b q : Nat} (h : Lq W D p l b q) (hb : Below W.heap.size W W') : Lq W' D p l b q :=
  h.step fun k hk hD => ⟨hb.block k hk, hD⟩

/-- Its queue turns. -/
theorem Lq.queue {W W' : World} {D : Nat → Prop} {p : Nat} {l : Ls} {b q : Nat} {ys : List It} {d : Int} (h : Lq W D p l b q) (hq : Fq W' (fun k => (D k ∧ k ≠ p ∧ k ≠ b) ∨ W.heap.size ≤ k) q ys l.items l.bound d)
    (hk : KeepD W W' fun k => D k ∧ k ≠ p ∧ k ≠ b) : Lq W' (fun k => D k ∨ W.heap.size ≤ k) p { l with xs := ys, drops := d } b q := by
  have hp := h.lb.lt
  have hb := blk_lt h.bk
  refine ⟨.inl h.dp, (hk.block p hp fun e => e.2.1 rfl).trans h.lb, .inl h.db, (hk.block b hb fun e => e.2.2 rfl).trans h.bk, hq.step fun k hc hD => ⟨rfl, ?_⟩⟩
  rcases hD with h1 | h1
  · exact ⟨.inl h1.1, h1.2⟩
  · exact ⟨.inr h1, by omega, by omega⟩

/-- A counter turns. -/
theorem Lq.count {W : World} {D : Nat → Prop} {p : Nat} {l : Ls} {b q : Nat} {i : Nat} {v : Value} {o d u y : Int} (h : Lq W D p l b q)
    (hv : Lb (W.setCell ⟨p, i, none⟩ v) p o d u y b q) : Lq (W.setCell ⟨p, i, none⟩ v) D p { l with off := o, drp := d, out := u, byt := y } b q :=
  ⟨h.dp, hv, h.db, (heap_far (Ne.symm h.ne)).trans h.bk, h.fq.step fun k hc hD => ⟨heap_far hD.2.1, hD⟩⟩
theorem Lb.put0 {W : World} {p : Nat} {o d u y : Int} {b q : Nat} (h : Lb W p o d u y b q) (v : Int) : Lb (W.setCell ⟨p, 0, none⟩ (.int .u64 v)) p v d u y b q := blk_put h 0 _ rfl
theorem Lb.put1 {W : World} {p : Nat} {o d u y : Int} {b q : Nat} (h : Lb W p o d u y b q) (v : Int) : Lb (W.setCell ⟨p, 1, none⟩ (.int .u64 v)) p o v u y b q := blk_put h 1 _ rfl
theorem Lb.put2 {W : World} {p : Nat} {o d u y : Int} {b q : Nat} (h : Lb W p o d u y b q) (v : Int) : Lb (W.setCell ⟨p, 2, none⟩ (.int .u64 v)) p o d v y b q := blk_put h 2 _ rfl
theorem Lb.put3 {W : World} {p : Nat} {o d u y : Int} {b q : Nat} (h : Lb W p o d u y b q) (v : Int) : Lb (W.setCell ⟨p, 3, none⟩ (.int .u64 v)) p o d u v b q := blk_put h 3 _ rfl
theorem Lb.fz {W : World} {p : Nat} {o d u y : Int} {b q : Nat} (h : Lb W p o d u y b q) (i : Nat) : W.frozen? ⟨p, i, none⟩ = false := blk_frozen h i
/-- The bucket turns. -/
theorem Lq.bucket {W W' : World} {D : Nat → Prop} {p : Nat} {l : Ls} {b q : Nat} {t k0 : Int} (h : Lq W D p l b q) (hB : B.Bk W' b l.rate l.burst t k0) (hg : W.grownBy W' (some b)) :
    Lq W' D p { l with tick := t, tok := k0 } b q :=
  ⟨h.dp, (hg.block p h.lb.lt (by simpa using h.ne)).trans h.lb, h.db, hB, h.fq.step fun k hc hD => ⟨hg.block k hc.lt (by simpa using hD.2.2), hD⟩⟩

/-- An offer, at a line. -/
def offL (l : Ls) (x : It) : Int × Ls :=
  let r := pushR l.xs l.items l.bound l.drops x
  (r.1, { l with off := IntKind.u64.wrap (l.off + 1), drp := if r.1 = 110 then IntKind.u64.wrap (l.drp + 1) else l.drp, xs := r.2.1, drops := r.2.2 })

set_option maxHeartbeats 400000 in
theorem offer_nil (i no size : Int) (A : Option Addr) (n c : Nat) (w : World) :
    Calls Try.prog 11 #[.pointer none, .int .i64 i, .agg #[.int .u64 no, .int .i64 size, .slice A n c]] w fun e w' => e = .returned (.int .i64 1) ∧ Below w.heap.size w w' := by
  go_enter Try.func11, Try.ntmps11
  go_wp2_with fail
  refine (line_nil i _).mono ?_
  rintro e w1 ⟨rfl, rfl⟩
  go_wp2
  go_ret
  exact ⟨rfl, below_alloc (Below.refl _ _) _⟩

set_option maxHeartbeats 400000 in
theorem offer_no (O : Nat → Nat) (s : Nat) (tick : Int) (ls : List Ls) (i no size : Int) (A : Option Addr) (n c : Nat) (w : World) (h : Sh w O s tick ls) (hi : noLine ls i) :
    Calls Try.prog 11 #[.pointer (some ⟨s, 0, none⟩), .int .i64 i, .agg #[.int .u64 no, .int .i64 size, .slice A n c]] w fun e w' => e = .returned (.int .i64 2) ∧ Below w.heap.size w w' := by
  have HC := Aside0.mk (line_no (h.below (below_alloc (Below.refl _ w) (.cells #[.int .u64 no, .int .i64 size, .slice A n c] 25))) hi)
  clear h hi
  go_enter Try.func11, Try.ntmps11
  go_wp2_with fail
  refine HC.out.mono ?_
  rintro e w1 ⟨rfl, rfl⟩
  go_wp2
  go_ret
  exact ⟨rfl, below_alloc (Below.refl _ _) _⟩

set_option maxHeartbeats 400000 in
theorem offer_arg (O : Nat → Nat) (s : Nat) (tick : Int) (ls : List Ls) (i : Nat) (no size : Int) (A : Option Addr) (n c : Nat) (l : Ls) (w : World) (h : Sh w O s tick ls) (hi : ls[i]? = some l) (hx : size < 0 ∨ 2048 < size) :
    Calls Try.prog 11 #[.pointer (some ⟨s, 0, none⟩), .int .i64 i, .agg #[.int .u64 no, .int .i64 size, .slice A n c]] w fun e w' => e = .returned (.int .i64 2) ∧ Below w.heap.size w w' := by
  have h2 := h.below (below_alloc (Below.refl _ w) (.cells #[.int .u64 no, .int .i64 size, .slice A n c] 25))
  obtain ⟨r, cc, p, hs, hp, hL⟩ := h2.line_ hi
  have hil : i < ls.length := (List.getElem?_eq_some_iff.1 hi).1
  have HC := Aside0.mk (line_at s _ cc r p i tick _ hs hp hil)
  clear h hi h2 hs hp hL
  by_cases h0 : size < 0
  · have hb : decide (size < 0) = true := decide_eq_true h0
    clear hx h0
    go_enter Try.func11, Try.ntmps11
    go_wp2_with fail
    refine HC.out.mono ?_
    rintro e w1 ⟨rfl, rfl⟩
    go_wp2
    go_ret
    exact ⟨rfl, below_alloc (Below.refl _ _) _⟩
  · have hb : decide (size < 0) = false := decide_eq_false h0
    have hb2 : decide (2048 < size) = true := decide_eq_true (by omega)
    clear hx h0
    go_enter Try.func11, Try.ntmps11
    go_wp2_with fail
    refine HC.out.mono ?_
    rintro e w1 ⟨rfl, rfl⟩
    go_wp2
    go_ret
    exact ⟨rfl, below_alloc (Below.refl _ _) _⟩

theorem push_mem {xs : List It} {items bound drops : Int} {x y : It} (h : y ∈ (pushR xs items bound drops x).2.1) : y ∈ xs ∨ y = x := by
  unfold pushR at h
  split at h
  · exact .inl h
  · split at h
    · rcases List.mem_append.1 h with h | h
      · exact .inl h
      · exact .inr (by simpa using h)
    · exact .inl h
theorem LOk.offer {l : Ls} (h : LOk l) {x : It} (hx : x.data.length ≤ 65536) (hs : x.size ≤ 2048) (hd : l.drops < 18446744073709551615) : LOk (offL l x).2 :=
  ⟨h.b, h.q.push x hd, h.few.push hx, fun y hy => by
    rcases push_mem hy with h1 | rfl
    · exact h.sml y h1
    · exact hs⟩

set_option maxRecDepth 100000 in
set_option maxHeartbeats 1000000 in
/-- An offer that comes to the queue. -/
theorem offer_some (O : Nat → Nat) (s : Nat) (tick : Int) (ls : List Ls) (i : Nat) (x : It) (A : Option Addr) (n c : Nat) (l : Ls) (w : World) (h : Sh w O s tick ls) (hi : ls[i]? = some l) (hl : LOk l)
    (hx0 : 0 ≤ x.size) (hx1 : x.size ≤ 2048) (hxd : x.data.length ≤ 65536) (hd : Dat w (fun k => O k = 0) A n x.data) (hdr : l.drops < 18446744073709551615) :
    Calls Try.prog 11 #[.pointer (some ⟨s, 0, none⟩), .int .i64 i, .agg #[.int .u64 x.no, .int .i64 x.size, .slice A n c]] w fun e w' => e = .returned (.int .i64 (offL l x).1) ∧ ∃ O', Sh w' O' s tick (ls.set i (offL l x).2) ∧ Goes w w' O O' := by
  have hba := below_alloc (Below.refl _ w) (.cells #[.int .u64 x.no, .int .i64 x.size, .slice A n c] 25)
  have h2 := h.below hba
  obtain ⟨r, cc, p, hs, hp, hL⟩ := h2.line_ hi
  have hil : i < ls.length := (List.getElem?_eq_some_iff.1 hi).1
  obtain ⟨b, q, hq⟩ := hL.named
  have HC := Aside0.mk (line_at s _ cc r p i tick _ hs hp hil)
  have HBX := Aside0.mk (blk_new w (.cells #[.int .u64 x.no, .int .i64 x.size, .slice A n c] 25))
  have HBA := Aside0.mk hba
  have HD := Aside0.mk (hd.below hba)
  have HT := Aside0.mk (fun W' l' (hk : KeepD (w.alloc (.cells #[.int .u64 x.no, .int .i64 x.size, .slice A n c] 25)) W' fun k => O k = i + 2) (hL' : Ln W' (fun k => O k = i + 2 ∨ (w.alloc (.cells #[.int .u64 x.no, .int .i64 x.size, .slice A n c] 25)).heap.size ≤ k) p l') => h2.turn hi hs hp hk hL')
  have HQ := Aside0.mk hq
  have HO := Aside0.mk hl
  have HI := Aside0.mk hi
  have b0 : decide (x.size < 0) = false := decide_eq_false (by omega)
  have b1 : decide (2048 < x.size) = false := decide_eq_false (by omega)
  have hqO : ¬ O q = 0 := by have := hq.fq.1.1; omega
  have HQO := Aside0.mk hqO
  clear h hi h2 hs hp hL hba hq hl hd hx0 hx1 hqO
  go_enter Try.func11, Try.ntmps11
  go_wp2_with fail
  refine HC.out.mono ?_
  rintro e w1 ⟨rfl, rfl⟩
  obtain ⟨hz, hHz⟩ : ∃ k, k = w.heap.size := ⟨_, rfl⟩
  generalize hw1 : w.alloc (.cells #[.int .u64 x.no, .int .i64 x.size, .slice A n c] 25) = w1 at *
  obtain ⟨u0, u1, u2, v0, v1, v2⟩ := cells3 HBX.out
  clear HC hw1
  go_wp2_with fail
  have c5 := Lb.c5 HQ.out.lb
  refine wp_region_still_tail 5 (by kernel_rfl) (by kernel_rfl) ?_
  change wpStill _ _ w1.drew (fun a' => wpList _ _ _ _ a' w1.drew) _ _
  simp only [List.take_succ_cons, List.take_zero, List.drop_succ_cons, List.drop_zero]
  repeat still_step
  refine wpStill_nil ?_
  go_wp2_with fail
  have HP := Aside0.mk (push_any _ q l.xs l.items l.bound l.drops x A n c w1.drew (HQ.out.fq.step fun k _ hD => ⟨rfl, hD⟩) HO.out.q HO.out.few hxd (HD.out.step (W' := w1.drew) (D' := fun k => k ≠ q) fun k _ hD => ⟨rfl, by rintro rfl; exact HQO.out hD⟩) hdr)
  obtain ⟨⟨e1, ys, d1⟩, hr⟩ : ∃ r, r = pushR l.xs l.items l.bound l.drops x := ⟨_, rfl⟩
  rw [← hr] at HP
  refine HP.out.mono ?_
  rintro e w2 ⟨rfl, hq2, hk2⟩
  have HK2 := Aside0.mk (show KeepD w1 w2 _ from ⟨hk2.os, hk2.tape, hk2.output, hk2.size, hk2.block⟩)
  have HQ2 := Aside0.mk (HQ.out.queue (W' := w2) hq2 HK2.out)
  have HR := Aside0.mk hr
  have c0 := Lb.c0 HQ2.out.lb
  have f0 := Lb.fz HQ2.out.lb 0
  clear hq2 hk2 HP hr HD u0 u1 u2 v0 v1 v2 c5
  by_cases h110 : e1 = 110
  · subst h110
    have HOF := Aside0.mk (show offL l x = (110, { l with off := IntKind.u64.wrap (l.off + 1), drp := IntKind.u64.wrap (l.drp + 1), xs := ys, drops := d1 }) by unfold offL; rw [← HR.out]; rfl)
    go_wp2_with fail
    refine (uadd_any p 0 _ 1 _ c0 f0).mono ?_
    rintro e w3 ⟨rfl, rfl⟩
    have HQ3 := Aside0.mk (HQ2.out.count (HQ2.out.lb.put0 (IntKind.u64.wrap (l.off + 1))))
    have HK3 := Aside0.mk ((HK2.out.mono fun k hk => hk.1).set_ (g := p) (i := 0) (v := .int .u64 (IntKind.u64.wrap (l.off + 1))) (.inr HQ.out.dp))
    clear c0 f0 HQ2 HK2
    generalize w2.setCell ⟨p, 0, none⟩ (.int .u64 (IntKind.u64.wrap (l.off + 1))) = w3 at *
    have c1 := Lb.c1 HQ3.out.lb
    have f1 := Lb.fz HQ3.out.lb 1
    go_wp2_with fail
    refine (uadd_any p 1 _ 1 _ c1 f1).mono ?_
    rintro e w4 ⟨rfl, rfl⟩
    have HQ4 := Aside0.mk (HQ3.out.count (HQ3.out.lb.put1 (IntKind.u64.wrap (l.drp + 1))))
    have HK4 := Aside0.mk (HK3.out.set_ (g := p) (i := 1) (v := .int .u64 (IntKind.u64.wrap (l.drp + 1))) (.inr HQ.out.dp))
    clear c1 f1 HQ3 HK3
    go_wp2_with fail
    go_ret
    rw [HOF.out]
    obtain ⟨O', h1, h2⟩ := HT.out _ _ HK4.out HQ4.out.line
    exact ⟨rfl, O', h1, (Goes.of_below HBA.out).trans h2⟩
  · have hb : (e1 == 110) = false := by simpa using h110
    have HOF := Aside0.mk (show offL l x = (e1, { l with off := IntKind.u64.wrap (l.off + 1), drp := l.drp, xs := ys, drops := d1 }) by unfold offL; rw [← HR.out]; simp only [if_neg h110])
    go_wp2_with fail
    refine (uadd_any p 0 _ 1 _ c0 f0).mono ?_
    rintro e w3 ⟨rfl, rfl⟩
    have HQ3 := Aside0.mk (HQ2.out.count (HQ2.out.lb.put0 (IntKind.u64.wrap (l.off + 1))))
    have HK3 := Aside0.mk ((HK2.out.mono fun k hk => hk.1).set_ (g := p) (i := 0) (v := .int .u64 (IntKind.u64.wrap (l.off + 1))) (.inr HQ.out.dp))
    clear c0 f0 HQ2 HK2
    generalize w2.setCell ⟨p, 0, none⟩ (.int .u64 (IntKind.u64.wrap (l.off + 1))) = w3 at *
    go_wp2_with fail
    go_ret
    rw [HOF.out]
    obtain ⟨O', h1, h2⟩ := HT.out _ _ HK3.out HQ3.out.line
    exact ⟨rfl, O', h1, (Goes.of_below HBA.out).trans h2⟩
end Go.Proofs.Ytballojildjbhaa.S
