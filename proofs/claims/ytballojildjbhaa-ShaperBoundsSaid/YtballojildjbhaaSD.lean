/- shaper.Shaper.next: its closure; conditions: the shaper lies in memory, the captured variables beside it. -/
import Derived.Test.YtballojildjbhaaSC
import Derived.Deep.QuietTactic
import Derived.BigQuiet
namespace Go.Proofs.Ytballojildjbhaa.S
open Go Go.RowKit Go.Proofs.YtballojildjbhaaW.PrintWords Go.Proofs.YtballojildjbhaaW.PrintLast Go.Proofs.YtballojildjbhaaW.PrintMore Go.Proofs.Ytballojildjbhaa.F
attribute [local go_sem] max2_int min2_int max_two min_two
set_option linter.unusedVariables false
set_option linter.unusedSimpArgs false

/-- When a line's head is covered, from a tick on. -/
def whenL (tick : Int) (l : Ls) : Option Int :=
  match l.xs with
  | [] => none
  | x :: _ => if (B.whenV l.rate l.burst l.tick l.tok x.size).2 then some (if (B.whenV l.rate l.burst l.tick l.tok x.size).1 < tick then tick else (B.whenV l.rate l.burst l.tick l.tok x.size).1) else none
/-- The best so far: when, which, whether there is one. -/
structure Best where
  at_ : Int
  cls : Nat
  ok : Bool
def lookL (tick : Int) (a : Best) (c : Nat) (l : Ls) : Best :=
  match whenL tick l with
  | none => a
  | some t => if a.ok = false ∨ t < a.at_ then ⟨t, c, true⟩ else a

/-- What next has captured. -/
structure Cap (W : World) (O : Nat → Nat) (s bs bo ba bc : Nat) (z : Best) : Prop where
  hs : W.heap[bs]? = some (.cells #[.pointer (some ⟨s, 0, none⟩)] 31 (0, 0))
  ho : W.heap[bo]? = some (.cells #[.bool z.ok] 4 (0, 0))
  ha : W.heap[ba]? = some (.cells #[.int .u64 z.at_] 22 (0, 0))
  hc : W.heap[bc]? = some (.cells #[.int .i64 z.cls] 3 (0, 0))
  no : O bs = 0 ∧ O bo = 0 ∧ O ba = 0 ∧ O bc = 0

theorem Cap.below {W W' : World} {O : Nat → Nat} {s bs bo ba bc : Nat} {a : Best} (h : Cap W O s bs bo ba bc a) (hb : Below W.heap.size W W') : Cap W' O s bs bo ba bc a :=
  ⟨blk_below h.hs hb, blk_below h.ho hb, blk_below h.ha hb, blk_below h.hc hb, h.no⟩
theorem one_cell {W : World} {g : Nat} {v : Value} {t : TypeId} (h : W.heap[g]? = some (.cells #[v] t (0, 0))) : W.cell? ⟨g, 0, none⟩ = some v ∧ W.frozen? ⟨g, 0, none⟩ = false :=
  ⟨(blk_cell h 0).trans rfl, blk_frozen h 0⟩

set_option maxHeartbeats 1000000 in
theorem look_none (O : Nat → Nat) (D : Nat → Prop) (s p b q bs bo ba bc : Nat) (c : Int) (l : Ls) (a : Best) (w : World) (hL : Lq w D p l b q) (hc : Cap w O s bs bo ba bc a) (hx : l.xs = []) :
    Calls Try.prog 46 #[.int .i64 c, .pointer (some ⟨p, 0, none⟩), .pointer (some ⟨bs, 0, none⟩), .pointer (some ⟨bo, 0, none⟩), .pointer (some ⟨ba, 0, none⟩), .pointer (some ⟨bc, 0, none⟩)] w fun e w' =>
      e = .returned (.tuple #[]) ∧ Below w.heap.size w w' := by
  have c5 := Lb.c5 hL.lb
  have hf := hL.fq
  rw [hx] at hf
  have HF := Aside0.mk hf.empty
  clear hL hc hf
  go_enter Try.func46, Try.ntmps46
  go_wp2_with fail
  refine (head_none _ _ HF.out).mono ?_
  rintro e w1 ⟨rfl, hb⟩
  have HB := Aside0.mk hb
  clear hb
  go_wp2_with fail
  exact bodyPost_ret (v := .tuple #[]) (results_none rfl _ _ _) rfl ⟨rfl, below_alloc HB.out _⟩

/-- A head that is there. -/
structure Hd (l : Ls) (x : It) (t : Int) (ev : Bool) : Prop where
  hx : ∃ ys, l.xs = x :: ys
  ht : (B.whenV l.rate l.burst l.tick l.tok x.size).1 = t
  hev : (B.whenV l.rate l.burst l.tick l.tok x.size).2 = ev

theorem lookL_hd {tick : Int} {a : Best} {c : Nat} {l : Ls} {x : It} {t : Int} {ev : Bool} (hd : Hd l x t ev) :
    lookL tick a c l = if ev = true then (if a.ok = false ∨ (if t < tick then tick else t) < a.at_ then ⟨if t < tick then tick else t, c, true⟩ else a) else a := by
  obtain ⟨ys, hy⟩ := hd.hx
  have h1 := hd.ht
  have h2 := hd.hev
  unfold lookL whenL
  rw [hy]
  simp only [h1, h2]
  cases ev
  · rfl
  · rfl

set_option maxRecDepth 100000 in
set_option maxHeartbeats 2000000 in
theorem look_some (O : Nat → Nat) (D : Nat → Prop) (s p b q bs bo ba bc : Nat) (tick : Int) (A : Option Addr) (n cc : Nat) (c : Nat) (l : Ls) (x : It) (t : Int) (ev : Bool) (a : Best) (w : World)
    (hs : w.heap[s]? = some (.cells #[.int .u64 tick, .slice A n cc] 90 (0, 0))) (hL : Lq w D p l b q) (hl : LOk l) (hc : Cap w O s bs bo ba bc a) (hd : Hd l x t ev) (hx0 : 0 ≤ x.size) (hx1 : x.size ≤ 2048) :
    Calls Try.prog 46 #[.int .i64 c, .pointer (some ⟨p, 0, none⟩), .pointer (some ⟨bs, 0, none⟩), .pointer (some ⟨bo, 0, none⟩), .pointer (some ⟨ba, 0, none⟩), .pointer (some ⟨bc, 0, none⟩)] w fun e w' =>
      e = .returned (.tuple #[]) ∧ Cap w' O s bs bo ba bc (lookL tick a c l) ∧ KeepD w w' (fun k => k = bo ∨ k = ba ∨ k = bc) := by
  obtain ⟨ys, hxs⟩ := hd.hx
  have c5 := Lb.c5 hL.lb
  have hf := hL.fq
  rw [hxs] at hf
  have HF := Aside0.mk hf
  have hxl : x.data.length ≤ 65536 := hl.few x (by rw [hxs]; simp)
  have HL := Aside0.mk hL
  have HC := Aside0.mk hc
  have HS := Aside0.mk hs
  have HO := Aside0.mk hl.b
  clear hs hL hc hf hl hxs
  go_enter Try.func46, Try.ntmps46
  go_wp2_with fail
  refine (head_some _ q x ys _ _ _ _ HF.out hxl).mono ?_
  rintro e w1 ⟨A1, n1, c1, rfl, hd1, hb1⟩
  have HL1 := Aside0.mk ((HL.out.below hb1).below (below_alloc (Below.refl _ w1) (.cells #[.int .u64 x.no, .int .i64 x.size, .slice A1 n1 c1] 25)))
  have HC1 := Aside0.mk ((HC.out.below hb1).below (below_alloc (Below.refl _ w1) (.cells #[.int .u64 x.no, .int .i64 x.size, .slice A1 n1 c1] 25)))
  have HS1 := Aside0.mk (blk_alloc (blk_below HS.out hb1) (.cells #[.int .u64 x.no, .int .i64 x.size, .slice A1 n1 c1] 25))
  have HB1 := Aside0.mk (below_alloc hb1 (.cells #[.int .u64 x.no, .int .i64 x.size, .slice A1 n1 c1] 25))
  have HX1 := Aside0.mk (blk_new w1 (.cells #[.int .u64 x.no, .int .i64 x.size, .slice A1 n1 c1] 25))
  clear hd1 hb1 HL HC HS HF c5
  go_wp2_with fail
  generalize hw2 : w1.alloc (.cells #[.int .u64 x.no, .int .i64 x.size, .slice A1 n1 c1] 25) = w2 at *
  clear hw2
  generalize w1.heap.size = g at *
  have c4 := Lb.c4 HL1.out.lb
  obtain ⟨u0, u1, u2, v0, v1, v2⟩ := cells3 HX1.out
  have hw : IntKind.u64.wrap x.size = x.size := by simp only [IntKind.wrap_u64]; omega
  have HW := Aside0.mk (fun k => B.when_q b l.rate l.burst l.tick l.tok x.size (w2.drewN k) (show B.Bk w2 b _ _ _ _ from HL1.out.bk) HO.out ⟨by omega, by omega⟩)
  rw [hd.ht, hd.hev] at HW
  have HK := Aside0.mk (lookL_hd (tick := tick) (a := a) (c := c) hd)
  clear hd
  obtain ⟨s0, s1⟩ := one_cell HC1.out.hs
  obtain ⟨o0, o1⟩ := one_cell HC1.out.ho
  obtain ⟨a0, a1⟩ := one_cell HC1.out.ha
  obtain ⟨k0, k1⟩ := one_cell HC1.out.hc
  have d0 : w2.cell? ⟨s, 0, none⟩ = some (.int .u64 tick) := (blk_cell HS1.out 0).trans rfl
  obtain ⟨at_, cls, ok⟩ := a
  have no1 : bo ≠ ba := blk_ne HC1.out.ho HC1.out.ha (by decide)
  have no2 : bo ≠ bc := blk_ne HC1.out.ho HC1.out.hc (by decide)
  have no3 : ba ≠ bc := blk_ne HC1.out.ha HC1.out.hc (by decide)
  have no4 : bo ≠ bs := blk_ne HC1.out.ho HC1.out.hs (by decide)
  have no5 : ba ≠ bs := blk_ne HC1.out.ha HC1.out.hs (by decide)
  have no6 : bc ≠ bs := blk_ne HC1.out.hc HC1.out.hs (by decide)
  obtain ⟨m, hm⟩ : ∃ m, (if t < tick then tick else t) = m := ⟨_, rfl⟩
  rw [hm] at HK
  obtain ⟨bl, hbl⟩ : ∃ bl, decide (m < at_) = bl := ⟨_, rfl⟩
  have HBL := Aside0.mk hbl
  have stay : ∀ nq, Cap (w2.drewN nq) O s bs bo ba bc ⟨at_, cls, ok⟩ := fun nq => ⟨HC1.out.hs, HC1.out.ho, HC1.out.ha, HC1.out.hc, HC1.out.no⟩
  have HST := Aside0.mk stay
  have HKB := Aside0.mk (fun nq => KeepD.of_below (pw_below_drewN HB1.out nq) fun k => k = bo ∨ k = ba ∨ k = bc)
  clear stay
  cases ev
  · go_quiet ((go_at_call 48; exact Calls.quiet_of (HW.out _)))
    go_wp2_with fail
    go_end0
    rw [HK.out]
    exact ⟨rfl, HST.out _, HKB.out _⟩
  · have put : ∀ nq, Cap ((((w2.drewN nq).setCell ⟨ba, 0, none⟩ (.int .u64 m)).setCell ⟨bc, 0, none⟩ (.int .i64 c)).setCell ⟨bo, 0, none⟩ (.bool true)) O s bs bo ba bc ⟨m, c, true⟩ := fun nq =>
      ⟨(heap_far (Ne.symm no4)).trans ((heap_far (Ne.symm no6)).trans ((heap_far (Ne.symm no5)).trans HC1.out.hs)),
       blk_put ((heap_far no2).trans ((heap_far no1).trans HC1.out.ho)) 0 _ rfl,
       (heap_far (Ne.symm no1)).trans ((heap_far no3).trans (blk_put (w := w2.drewN nq) HC1.out.ha 0 _ rfl)),
       (heap_far (Ne.symm no2)).trans (blk_put (w := (w2.drewN nq).setCell ⟨ba, 0, none⟩ (.int .u64 m)) ((heap_far (Ne.symm no3)).trans HC1.out.hc) 0 _ rfl), HC1.out.no⟩
    have HPU := Aside0.mk put
    have HKP := Aside0.mk (fun nq => (((HKB.out nq).set_ (g := ba) (i := 0) (v := .int .u64 m) (.inr (.inr (.inl rfl)))).set_ (g := bc) (i := 0) (v := .int .i64 c) (.inr (.inr (.inr rfl)))).set_ (g := bo) (i := 0) (v := .bool true) (.inr (.inl rfl)))
    clear put
    cases ok
    · clear hbl
      go_quiet ((go_at_call 48; exact Calls.quiet_of (HW.out _)))
      go_wp2_with fail
      go_end0
      rw [HK.out]
      exact ⟨rfl, HPU.out _, HKP.out _⟩
    · cases bl
      · go_quiet ((go_at_call 48; exact Calls.quiet_of (HW.out _)))
        go_wp2_with fail
        go_end0
        rw [HK.out]
        have := of_decide_eq_false HBL.out
        simp only [if_true, if_neg this, reduceCtorEq, false_or]
        exact ⟨trivial, HST.out _, HKB.out _⟩
      · go_quiet ((go_at_call 48; exact Calls.quiet_of (HW.out _)))
        go_wp2_with fail
        go_end0
        rw [HK.out]
        have := of_decide_eq_true HBL.out
        simp only [if_true, if_pos this, reduceCtorEq, false_or]
        exact ⟨trivial, HPU.out _, HKP.out _⟩
end Go.Proofs.Ytballojildjbhaa.S
