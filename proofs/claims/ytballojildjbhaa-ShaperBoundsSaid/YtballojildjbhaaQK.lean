/- fifo.Queue: what Push answers and leaves where there is room; conditions: the queue, the item lie in memory. -/
import Derived.Test.YtballojildjbhaaQJ
import Derived.StillTailTactics
import Derived.Deep.RegionHeld3
namespace Go.Proofs.Ytballojildjbhaa.F
open Go Go.RowKit Go.Proofs.YtballojildjbhaaW.PrintWords Go.Proofs.YtballojildjbhaaW.PrintLast Go.Proofs.YtballojildjbhaaW.PrintMore
set_option linter.unusedVariables false
set_option linter.unusedSimpArgs false

/-- A queue whose ring has a free place. -/
structure Rdy (W : World) (D : Nat → Prop) (g r len fr : Nat) (cs : Array Value) (xs : List It) (items bound drops : Int) : Prop where
  q : Qb W g (some ⟨r, 0, none⟩) len fr xs.length (sz xs) items bound drops
  h : W.heap[r]? = some (.cells cs 25 (0, 0))
  s : cs.size = len * 3
  f : fr < len
  m : xs.length < len
  l : len ≤ 131072
  it : ∀ i x, xs[i]? = some x → ItAt W D cs ((fr + i) % len) x
  d : D r

theorem Ring.rdy {W : World} {D : Nat → Prop} {g : Nat} {A : Option Addr} {len fr : Nat} {xs : List It} {items bound drops : Int} (hq : Qb W g A len fr xs.length (sz xs) items bound drops) (h : Ring W D A len fr xs) (hm : xs.length < len) :
    ∃ r cs, A = some ⟨r, 0, none⟩ ∧ Rdy W D g r len fr cs xs items bound drops := by
  rcases h with h | ⟨r, cs, h1, h2, h3, h4, h5, h6, h7, h8⟩
  · rw [h.2.1] at hm; omega
  · subst h1
    exact ⟨r, cs, rfl, hq, h3, h4, h5, hm, h7, h8, h2⟩

theorem sz_snoc (xs : List It) (x : It) : sz (xs ++ [x]) = sz xs + x.size := by simp [sz]
theorem mod_inj {fr i j len : Nat} (hf : fr < len) (hi : i < len) (hj : j < len) (h : (fr + i) % len = (fr + j) % len) : i = j := by
  rcases Nat.lt_or_ge (fr + i) len with h1 | h1 <;> rcases Nat.lt_or_ge (fr + j) len with h2 | h2
  · rw [Nat.mod_eq_of_lt h1, Nat.mod_eq_of_lt h2] at h; omega
  · rw [Nat.mod_eq_of_lt h1, Nat.mod_eq_sub_mod h2, Nat.mod_eq_of_lt (by omega)] at h; omega
  · rw [Nat.mod_eq_sub_mod h1, Nat.mod_eq_of_lt (by omega), Nat.mod_eq_of_lt h2] at h; omega
  · rw [Nat.mod_eq_sub_mod h1, Nat.mod_eq_of_lt (by omega), Nat.mod_eq_sub_mod h2, Nat.mod_eq_of_lt (by omega)] at h; omega

theorem push_end {w w3 w5 w7 : World} {D : Nat → Prop} {g R LN FR p n c' : Nat} {CS : Array Value} {xs : List It} {items bound drops : Int} {x : It} {A' : Option Addr} (hDg : D g)
    (hr : Rdy w3 (fun k => D k ∨ w.heap.size ≤ k) g R LN FR CS xs items bound drops) (hp : (FR + xs.length) % LN = p)
    (q5 : Qb w5 g (some ⟨R, 0, none⟩) LN FR ((xs.length : Int) + 1) (sz xs + x.size) items bound drops) (h5 : w5.heap[R]? = some (.cells CS 25 (0, 0)))
    (u5 : ∀ k, k ≠ g → w5.heap[k]? = w3.heap[k]?) (k5 : KeepD w w5 (fun k => k = g)) (hb7 : Below w5.heap.size w5 w7) (hd7 : Dat w7 (fun k => w5.heap.size ≤ k ∧ U8 w7 k) A' n x.data) :
    Fq (((w7.setCell ⟨R, p * 3, none⟩ (.int .u64 x.no)).setCell ⟨R, p * 3 + 1, none⟩ (.int .i64 x.size)).setCell ⟨R, p * 3 + 2, none⟩ (.slice A' n c')) (fun k => D k ∨ w.heap.size ≤ k) g (xs ++ [x]) items bound drops ∧
    KeepD w (((w7.setCell ⟨R, p * 3, none⟩ (.int .u64 x.no)).setCell ⟨R, p * 3 + 1, none⟩ (.int .i64 x.size)).setCell ⟨R, p * 3 + 2, none⟩ (.slice A' n c')) D := by
  have hne : g ≠ R := blk_ne q5 h5 (by decide)
  have hRl := blk_lt h5
  have hpl : p < LN := by rw [← hp]; exact Nat.mod_lt _ (by have := hr.f; omega)
  have hs := hr.s
  have hm := hr.m
  have hf := hr.f
  have q7 := blk_far (blk_far (blk_far (blk_below q5 hb7) (p := ⟨R, p * 3, none⟩) hne (.int .u64 x.no)) (p := ⟨R, p * 3 + 1, none⟩) hne (.int .i64 x.size)) (p := ⟨R, p * 3 + 2, none⟩) hne (.slice A' n c')
  have r7 := blk_set (blk_set (blk_set (blk_below h5 hb7) (p * 3) (.int .u64 x.no)) (p * 3 + 1) (.int .i64 x.size)) (p * 3 + 2) (.slice A' n c')
  have hz5 : w.heap.size ≤ w5.heap.size := k5.size
  have k7 : KeepD w (((w7.setCell ⟨R, p * 3, none⟩ (.int .u64 x.no)).setCell ⟨R, p * 3 + 1, none⟩ (.int .i64 x.size)).setCell ⟨R, p * 3 + 2, none⟩ (.slice A' n c')) (fun k => D k) :=
    ((((k5.mono (D' := D) fun k e => e ▸ hDg).trans (KeepD.of_below hb7 D) fun _ _ h => h).set_ (hr.d.symm)).set_ (hr.d.symm)).set_ (hr.d.symm)
  refine ⟨⟨.inl hDg, _, LN, FR, ?_, .inr ⟨R, _, rfl, hr.d, r7, by simpa using hs, hf, by simp; omega, hr.l, fun i y hy => ?_⟩⟩, k7⟩
  · rw [sz_snoc, show (((xs ++ [x]).length : Nat) : Int) = (xs.length : Int) + 1 by simp]
    exact q7
  · by_cases hi : i < xs.length
    · rw [List.getElem?_append_left hi] at hy
      refine ItAt.step (ItAt.set_ (hr.it i y hy) fun e => ?_) fun k hu hD => ⟨?_, hD⟩
      · have := mod_inj hf (by omega) hm (e.trans hp.symm); omega
      · have h1 : k ≠ g := hu.ne_ hr.q (by decide)
        have h2 : k ≠ R := hu.ne_ hr.h (by decide)
        have e := u5 k h1
        have hk : k < w5.heap.size := by
          obtain ⟨cs, hc⟩ := hu
          exact blk_lt (e.trans hc)
        rw [heap_far h2, heap_far h2, heap_far h2, hb7.block k hk, e]
    · have hil := (List.getElem?_eq_some_iff.1 hy).1
      rw [List.length_append, List.length_cons, List.length_nil] at hil
      obtain rfl : i = xs.length := by omega
      rw [List.getElem?_append_right (Nat.le_refl _), Nat.sub_self] at hy
      cases hy
      rw [hp]
      refine ⟨A', n, c', ?_, ?_, ?_, hd7.step fun k hk hD => ?_⟩
      · rw [Array.getElem?_setIfInBounds_ne (by omega), Array.getElem?_setIfInBounds_ne (by omega), Nat.mul_comm 3 p, Array.getElem?_setIfInBounds_self_of_lt (by omega)]
      · rw [Array.getElem?_setIfInBounds_ne (by omega), Nat.mul_comm 3 p, Array.getElem?_setIfInBounds_self_of_lt (by rw [Array.size_setIfInBounds]; omega)]
      · rw [Nat.mul_comm 3 p, Array.getElem?_setIfInBounds_self_of_lt (by rw [Array.size_setIfInBounds, Array.size_setIfInBounds]; omega)]
      · have hD1 : w5.heap.size ≤ k := hD.1
        have e : (((w7.setCell ⟨R, p * 3, none⟩ (.int .u64 x.no)).setCell ⟨R, p * 3 + 1, none⟩ (.int .i64 x.size)).setCell ⟨R, p * 3 + 2, none⟩ (.slice A' n c')).heap[k]? = w7.heap[k]? := by
          rw [heap_far (by omega), heap_far (by omega), heap_far (by omega)]
        exact ⟨e, .inr (by omega), hD.2.same e⟩

theorem far3 {W : World} {g o R p : Nat} {v a b c : Value} (h : W.cell? ⟨g, o, none⟩ = some v) (hne : g ≠ R) :
    (((W.setCell ⟨R, p * 3, none⟩ a).setCell ⟨R, p * 3 + 1, none⟩ b).setCell ⟨R, p * 3 + 2, none⟩ c).cell? ⟨g, o, none⟩ = some v :=
  (World.cell?_of_block (w := W) (by rw [heap_far hne, heap_far hne, heap_far hne])).trans h

/-- From region 11 on: the item is put into its place. -/
def PushTail (w : World) (D : Nat → Prop) (g : Nat) (xs : List It) (items bound drops : Int) (x : It) (e : Ending) (w' : World) : Prop :=
  e = .returned (.int .i64 0) ∧ Fq w' (fun k => D k ∨ w.heap.size ≤ k) g (xs ++ [x]) items bound drops ∧ KeepD w w' D

set_option maxRecDepth 100000 in
set_option maxHeartbeats 2000000 in
theorem push_room (D : Nat → Prop) (g : Nat) (xs : List It) (items bound drops : Int) (x : It) (A : Option Addr) (n c : Nat) (w : World) (h : Fq w D g xs items bound drops) (ho : Ok xs items bound drops)
    (hl : ∀ y, y ∈ xs → y.data.length ≤ 65536) (hx : x.data.length ≤ 65536) (hd : Dat w (fun k => k ≠ g) A n x.data) (hs : 0 ≤ x.size) (hr : roomB xs.length items (sz xs) bound x.size = true) :
    Calls Try.prog 28 #[.pointer (some ⟨g, 0, none⟩), .agg #[.int .u64 x.no, .int .i64 x.size, .slice A n c]] w (PushTail w D g xs items bound drops x) := by
  have HR := Aside0.mk (fun W (hb : Below w.heap.size w W) => room_any D g xs items bound drops x.size W (h.below hb) ho)
  rw [hr] at HR
  have HQ := Aside0.mk h
  have HL := Aside0.mk hl
  have HO := Aside0.mk ho
  have HD0 := Aside0.mk hd
  have HRB := Aside0.mk hr
  obtain ⟨hDg, A0, len, fr, hq, hring⟩ := h
  have hg := blk_lt hq
  have hmany : xs.length ≤ len := by
    rcases hring with h | ⟨r, cs, h1, h2, h3, h4, h5, h6, h7, h8⟩
    · rw [h.2.2.2]; exact Nat.zero_le _
    · exact h6
  have HQ0 := Aside0.mk hq
  have HRI := Aside0.mk hring
  have hs0 : decide (x.size < 0) = false := decide_eq_false (by omega)
  clear ho hl hd hr hq hring
  by_cases hfull : xs.length = len
  · have hb1 : ((xs.length : Int) == (len : Int)) = true := by rw [hfull]; simp
    have HF := Aside0.mk hfull
    clear hfull
    go_enter Try.func28, Try.ntmps28
    go_wp2_with fail
    refine (HR.out _ (below_alloc (Below.refl _ _) _)).mono ?_
    rintro e w1 ⟨rfl, hb⟩
    have hq1 := blk_below (blk_alloc HQ0.out (.cells #[.int .u64 x.no, .int .i64 x.size, .slice A n c] 25)) hb
    have c0 := Qb.c0 hq1
    have c2 := Qb.c2 hq1
    have HB := Aside0.mk hb
    have HQ1 := Aside0.mk hq1
    clear hb hq1
    go_wp2
    go_quiet (fail)
    go_wp2_with fail
    have hb1 := below_step (below_alloc (Below.refl _ w) (.cells #[.int .u64 x.no, .int .i64 x.size, .slice A n c] 25)) (pw_below_drewN HB.out nq)
    refine (grow_any D g A0 len fr xs items bound drops _ hDg (blk_drewN HQ1.out nq) (HRI.out.step fun k hk hD => ⟨hb1.block k hk.lt, hD⟩) HL.out (by have := HO.out.many; have := HO.out.items; have := HF.out; omega) hmany).mono ?_
    rintro e w3 ⟨rfl, r, ln, hm3, hl3, hr3, hq3, hR3, hk3⟩
    have hR3 := hR3.step (W' := w3) (D' := fun k => D k ∨ w.heap.size ≤ k) fun k _ h => ⟨rfl, .inr (Nat.le_trans hb1.size h)⟩
    have hk4 : KeepD w w3 (fun k => k = g) := (KeepD.of_below hb1 _).trans hk3 fun _ _ h => h
    have hi3 : w3.heap[w.heap.size]? = some (.cells #[.int .u64 x.no, .int .i64 x.size, .slice A n c] 25 (0, 0)) :=
      (hk3.block _ (by have := HB.out.size; rw [World.size_alloc] at this; exact this) (by omega)).trans (blk_drewN (blk_below (blk_new w _) HB.out) nq)
    obtain ⟨r', cs, e, hrdy⟩ := Ring.rdy hq3 hR3 hm3
    obtain ⟨R, LN, FR, CS, HR3, hiR⟩ : ∃ R LN FR CS, Aside0 (Rdy w3 (fun k => D k ∨ w.heap.size ≤ k) g R LN FR CS xs items bound drops) ∧ w.heap.size ≠ R := ⟨_, _, _, _, ⟨hrdy⟩, (by
      cases e
      have h1 : w.heap.size + 1 ≤ w1.heap.size := by have := HB.out.size; rwa [World.size_alloc] at this
      have h2 : w1.heap.size ≤ r := hr3
      omega)⟩
    have HK3 := Aside0.mk hk4
    have HI3 := Aside0.mk hi3
    clear hb1 hq3 hR3 hk3 hk4 hi3 hrdy hr3 hm3 hl3 c0 c2 HB HQ1 HR
    have h3 := HR3.out
    have c2 := Qb.c2 h3.q
    have f2 := Qb.fz h3.q 2
    have wM : IntKind.i64.wrap ((xs.length : Int) + 1) = (xs.length : Int) + 1 := IntWalk.i64_in _ (by have := HO.out.many; have := HO.out.items; omega)
    have hgi : g ≠ w.heap.size := by omega
    clear h3
    go_upto_region 12 with (fail)
    have HQ4 := Aside0.mk (blk_put HR3.out.q 2 (.int .i64 ((xs.length : Int) + 1)) rfl)
    have HH4 := Aside0.mk (blk_far HR3.out.h (p := ⟨g, 2, none⟩) (blk_ne HR3.out.h HR3.out.q (by decide)) (.int .i64 ((xs.length : Int) + 1)))
    have HI4 := Aside0.mk (blk_far HI3.out (p := ⟨g, 2, none⟩) (Ne.symm hgi) (.int .i64 ((xs.length : Int) + 1)))
    have HK4 := Aside0.mk (HK3.out.set_ (g := g) (i := 2) (v := .int .i64 ((xs.length : Int) + 1)) (.inr rfl))
    have HU4 := Aside0.mk (fun k (hk : k ≠ g) => heap_far (W := w3) (i := 2) (v := .int .i64 ((xs.length : Int) + 1)) hk)
    clear c2 f2 wM
    generalize w3.setCell ⟨g, 2, none⟩ (.int .i64 ((xs.length : Int) + 1)) = w4 at *
    have c3 := Qb.c3 HQ4.out
    have f3 := Qb.fz HQ4.out 3
    have wS : IntKind.i64.wrap (sz xs + x.size) = sz xs + x.size := IntWalk.i64_in _ (by
      have h1 := sz_nonneg HO.out.pos
      have h2 := HO.out.bound
      have h3 := HRB.out
      simp only [roomB, Bool.and_eq_true, decide_eq_true_eq] at h3
      omega)
    obtain ⟨i0, i1, i2, j0, j1, j2⟩ := cells3 HI4.out
    refine wp_region_still_tail 9 (by kernel_rfl) (by kernel_rfl) ?_
    change wpStill _ _ w4.drew (fun a' => wpList _ _ _ _ a' w4.drew) _ _
    simp only [List.take_succ_cons, List.take_zero, List.drop_succ_cons, List.drop_zero]
    repeat still_step
    refine wpStill_nil ?_
    go_upto_region 13 with (fail)
    have HQ5 := Aside0.mk (blk_put HQ4.out 3 (.int .i64 (sz xs + x.size)) rfl)
    have HH5 := Aside0.mk (blk_far HH4.out (p := ⟨g, 3, none⟩) (blk_ne HR3.out.h HR3.out.q (by decide)) (.int .i64 (sz xs + x.size)))
    have HI5 := Aside0.mk (blk_far HI4.out (p := ⟨g, 3, none⟩) (Ne.symm hgi) (.int .i64 (sz xs + x.size)))
    have HK5 := Aside0.mk (HK4.out.set_ (g := g) (i := 3) (v := .int .i64 (sz xs + x.size)) (.inr rfl))
    have HU5 := Aside0.mk (fun k (hk : k ≠ g) => (heap_far (W := w4) (i := 3) (v := .int .i64 (sz xs + x.size)) hk).trans (HU4.out k hk))
    clear c3 f3 wS i0 i1 i2 j0 j1 j2 HQ4 HH4 HI4 HK4 HU4
    generalize w4.setCell ⟨g, 3, none⟩ (.int .i64 (sz xs + x.size)) = w5 at *
    have k2 := Qb.c2 HQ5.out
    obtain ⟨i0, i1, i2, j0, j1, j2⟩ := cells3 HI5.out
    have wK : IntKind.i64.wrap (xs.length : Int) = (xs.length : Int) := IntWalk.i64_in _ (by have := HO.out.many; have := HO.out.items; omega)
    have hp : (FR + xs.length) % LN < LN := Nat.mod_lt _ (by have := HR3.out.f; omega)
    obtain ⟨p, hpe⟩ : ∃ p, Aside0 ((FR + xs.length) % LN = p) := ⟨_, ⟨rfl⟩⟩
    rw [hpe.out] at hp
    have hd5 : Dat w5 (fun _ => True) A n x.data := by
      exact HD0.out.step fun k hk hD => ⟨HK5.out.block k hk hD, trivial⟩
    have HP := Aside0.mk (fun W (hb : Below w5.heap.size w5 W) => (place_qb g R LN FR xs.length _ _ _ _ _ W (blk_below HQ5.out hb) HR3.out.l HR3.out.f HR3.out.m).mono (R' := fun e w' => e = .returned (.pointer (some ⟨R, p * 3, none⟩)) ∧ Below w5.heap.size w5 w' ∧
      w'.cell? ⟨g, 2, none⟩ = some (.int .i64 ((xs.length : Int) + 1)) ∧ w'.cell? ⟨w.heap.size, 0, none⟩ = some (.int .u64 x.no) ∧ w'.cell? ⟨w.heap.size, 1, none⟩ = some (.int .i64 x.size) ∧ w'.cell? ⟨w.heap.size, 2, none⟩ = some (.slice A n c))
      (fun e w' h => by
        have hb2 := below_step hb h.2
        obtain ⟨s0, s1, s2, _⟩ := cells3 (blk_below HI5.out hb2)
        exact ⟨by rw [h.1, hpe.out], hb2, Qb.c2 (blk_below HQ5.out hb2), s0, s1, s2⟩))
    have HC := Aside0.mk (fun W (hb : Below w5.heap.size w5 W) => (copied_any (fun _ => True) A n c x.data x.no x.size W (hd5.below hb) hx).mono (R' := fun e w' => ∃ A' c', e = .returned (.agg #[.int .u64 x.no, .int .i64 x.size, .slice A' n c']) ∧ Dat w' (fun k => w5.heap.size ≤ k ∧ U8 w' k) A' n x.data ∧ Below w5.heap.size w5 w' ∧
      (∃ z0 z1 z2, w'.cell? ⟨R, p * 3, none⟩ = some z0 ∧ w'.cell? ⟨R, p * 3 + 1, none⟩ = some z1 ∧ w'.cell? ⟨R, p * 3 + 2, none⟩ = some z2) ∧ w'.frozen? ⟨R, p * 3, none⟩ = false ∧ w'.frozen? ⟨R, p * 3 + 1, none⟩ = false ∧ w'.frozen? ⟨R, p * 3 + 2, none⟩ = false ∧
      w'.cell? ⟨g, 2, none⟩ = some (.int .i64 ((xs.length : Int) + 1)) ∧ w'.cell? ⟨w.heap.size, 0, none⟩ = some (.int .u64 x.no) ∧ w'.cell? ⟨w.heap.size, 1, none⟩ = some (.int .i64 x.size) ∧ w'.cell? ⟨w.heap.size, 2, none⟩ = some (.slice A n c))
      (fun e w' ⟨A', c', he, hd', hb'⟩ => by
        have hb2 := below_step hb hb'
        have hh := blk_below HH5.out hb2
        have hs := HR3.out.s
        obtain ⟨s0, s1, s2, _⟩ := cells3 (blk_below HI5.out hb2)
        exact ⟨A', c', he, hd'.new hb.size (fun _ _ _ => rfl), hb2, ⟨_, _, _, (blk_cell hh (p * 3)).trans (Array.getElem?_eq_getElem (by omega)), (blk_cell hh (p * 3 + 1)).trans (Array.getElem?_eq_getElem (by omega)), (blk_cell hh (p * 3 + 2)).trans (Array.getElem?_eq_getElem (by omega))⟩, blk_frozen hh _, blk_frozen hh _, blk_frozen hh _, Qb.c2 (blk_below HQ5.out hb2), s0, s1, s2⟩))
    clear hd5
    have hgR : g ≠ R := blk_ne HQ5.out HH5.out (by decide)
    have kd : w5.drew.drew.cell? ⟨g, 2, none⟩ = some (.int .i64 ((xs.length : Int) + 1)) := k2
    have id0 : w5.drew.drew.cell? ⟨w.heap.size, 0, none⟩ = some (.int .u64 x.no) := i0
    have id1 : w5.drew.drew.cell? ⟨w.heap.size, 1, none⟩ = some (.int .i64 x.size) := i1
    have id2 : w5.drew.drew.cell? ⟨w.heap.size, 2, none⟩ = some (.slice A n c) := i2
    go_region_held3 (fun W => W.cell? ⟨g, 2, none⟩ = some (.int .i64 ((xs.length : Int) + 1)) ∧ W.cell? ⟨w.heap.size, 0, none⟩ = some (.int .u64 x.no) ∧ W.cell? ⟨w.heap.size, 1, none⟩ = some (.int .i64 x.size) ∧ W.cell? ⟨w.heap.size, 2, none⟩ = some (.slice A n c))
      (first | (with_reducible exact ⟨q0, q1, q2, q3⟩) | (with_reducible exact ⟨s0, s1, s2, s3⟩) | (with_reducible exact ⟨kd, id0, id1, id2⟩) | (with_reducible exact ⟨k2, i0, i1, i2⟩) | (with_reducible exact ⟨far3 q0 hgR, far3 q1 hiR, far3 q2 hiR, far3 q3 hiR⟩) | fail)
      (first | (go_at_call 52; refine (HP.out w5.drew.drew (below_drew (below_drew (Below.refl _ _)))).mono ?_; rintro e w6 ⟨rfl, hb6, s0, s1, s2, s3⟩) | (go_at_call 51; refine (HC.out _ hb6).mono ?_; rintro e w7 ⟨A', c', rfl, hd7, hb7, ⟨z0, z1, z2, x0, x1, x2⟩, y0, y1, y2, q0, q1, q2, q3⟩))
    all_goals (go_wp2_with fail)
    go_ret
    exact ⟨rfl, push_end hDg HR3.out hpe.out HQ5.out HH5.out HU5.out HK5.out hb7 hd7⟩
  · have hb1 : ((xs.length : Int) == (len : Int)) = false := by rw [beq_eq_false_iff_ne]; omega
    go_enter Try.func28, Try.ntmps28
    go_wp2_with fail
    refine (HR.out _ (below_alloc (Below.refl _ _) _)).mono ?_
    rintro e w1 ⟨rfl, hb⟩
    have hq1 := blk_below (blk_alloc HQ0.out (.cells #[.int .u64 x.no, .int .i64 x.size, .slice A n c] 25)) hb
    have c0 := Qb.c0 hq1
    have c2 := Qb.c2 hq1
    have HB := Aside0.mk hb
    have HQ1 := Aside0.mk hq1
    clear hb hq1
    go_wp2
    go_quiet (fail)
    have hb1 := below_step (below_alloc (Below.refl _ w) (.cells #[.int .u64 x.no, .int .i64 x.size, .slice A n c] 25)) (pw_below_drewN HB.out nq)
    have hR3 := HRI.out.step (W' := w1.drewN nq) (D' := fun k => D k ∨ w.heap.size ≤ k) fun k hk h => ⟨hb1.block k hk.lt, .inl h⟩
    have hk4 : KeepD w (w1.drewN nq) (fun k => k = g) := KeepD.of_below hb1 _
    have hi3 : (w1.drewN nq).heap[w.heap.size]? = some (.cells #[.int .u64 x.no, .int .i64 x.size, .slice A n c] 25 (0, 0)) := blk_drewN (blk_below (blk_new w _) HB.out) nq
    obtain ⟨r, cs, e, hrdy⟩ := Ring.rdy (blk_drewN HQ1.out nq) hR3 (by omega)
    obtain ⟨R, LN, FR, CS, HR3, hiR⟩ : ∃ R LN FR CS, Aside0 (Rdy (w1.drewN nq) (fun k => D k ∨ w.heap.size ≤ k) g R LN FR CS xs items bound drops) ∧ w.heap.size ≠ R := ⟨_, _, _, _, ⟨hrdy⟩, (by
      cases e
      rcases HRI.out with h | ⟨r0, cs0, h1, h2, h3, _⟩
      · cases h.1
      · cases h1; exact Nat.ne_of_gt (blk_lt h3))⟩
    have HK3 := Aside0.mk hk4
    have HI3 := Aside0.mk hi3
    clear hb1 hR3 hk4 hi3 hrdy c0 c2 HB HQ1 HR
    generalize w1.drewN nq = w3 at *
    have h3 := HR3.out
    have c2 := Qb.c2 h3.q
    have f2 := Qb.fz h3.q 2
    have wM : IntKind.i64.wrap ((xs.length : Int) + 1) = (xs.length : Int) + 1 := IntWalk.i64_in _ (by have := HO.out.many; have := HO.out.items; omega)
    have hgi : g ≠ w.heap.size := by omega
    clear h3
    go_upto_region 12 with (fail)
    have HQ4 := Aside0.mk (blk_put HR3.out.q 2 (.int .i64 ((xs.length : Int) + 1)) rfl)
    have HH4 := Aside0.mk (blk_far HR3.out.h (p := ⟨g, 2, none⟩) (blk_ne HR3.out.h HR3.out.q (by decide)) (.int .i64 ((xs.length : Int) + 1)))
    have HI4 := Aside0.mk (blk_far HI3.out (p := ⟨g, 2, none⟩) (Ne.symm hgi) (.int .i64 ((xs.length : Int) + 1)))
    have HK4 := Aside0.mk (HK3.out.set_ (g := g) (i := 2) (v := .int .i64 ((xs.length : Int) + 1)) (.inr rfl))
    have HU4 := Aside0.mk (fun k (hk : k ≠ g) => heap_far (W := w3) (i := 2) (v := .int .i64 ((xs.length : Int) + 1)) hk)
    clear c2 f2 wM
    generalize w3.setCell ⟨g, 2, none⟩ (.int .i64 ((xs.length : Int) + 1)) = w4 at *
    have c3 := Qb.c3 HQ4.out
    have f3 := Qb.fz HQ4.out 3
    have wS : IntKind.i64.wrap (sz xs + x.size) = sz xs + x.size := IntWalk.i64_in _ (by
      have h1 := sz_nonneg HO.out.pos
      have h2 := HO.out.bound
      have h3 := HRB.out
      simp only [roomB, Bool.and_eq_true, decide_eq_true_eq] at h3
      omega)
    obtain ⟨i0, i1, i2, j0, j1, j2⟩ := cells3 HI4.out
    refine wp_region_still_tail 9 (by kernel_rfl) (by kernel_rfl) ?_
    change wpStill _ _ w4.drew (fun a' => wpList _ _ _ _ a' w4.drew) _ _
    simp only [List.take_succ_cons, List.take_zero, List.drop_succ_cons, List.drop_zero]
    repeat still_step
    refine wpStill_nil ?_
    go_upto_region 13 with (fail)
    have HQ5 := Aside0.mk (blk_put HQ4.out 3 (.int .i64 (sz xs + x.size)) rfl)
    have HH5 := Aside0.mk (blk_far HH4.out (p := ⟨g, 3, none⟩) (blk_ne HR3.out.h HR3.out.q (by decide)) (.int .i64 (sz xs + x.size)))
    have HI5 := Aside0.mk (blk_far HI4.out (p := ⟨g, 3, none⟩) (Ne.symm hgi) (.int .i64 (sz xs + x.size)))
    have HK5 := Aside0.mk (HK4.out.set_ (g := g) (i := 3) (v := .int .i64 (sz xs + x.size)) (.inr rfl))
    have HU5 := Aside0.mk (fun k (hk : k ≠ g) => (heap_far (W := w4) (i := 3) (v := .int .i64 (sz xs + x.size)) hk).trans (HU4.out k hk))
    clear c3 f3 wS i0 i1 i2 j0 j1 j2 HQ4 HH4 HI4 HK4 HU4
    generalize w4.setCell ⟨g, 3, none⟩ (.int .i64 (sz xs + x.size)) = w5 at *
    have k2 := Qb.c2 HQ5.out
    obtain ⟨i0, i1, i2, j0, j1, j2⟩ := cells3 HI5.out
    have wK : IntKind.i64.wrap (xs.length : Int) = (xs.length : Int) := IntWalk.i64_in _ (by have := HO.out.many; have := HO.out.items; omega)
    have hp : (FR + xs.length) % LN < LN := Nat.mod_lt _ (by have := HR3.out.f; omega)
    obtain ⟨p, hpe⟩ : ∃ p, Aside0 ((FR + xs.length) % LN = p) := ⟨_, ⟨rfl⟩⟩
    rw [hpe.out] at hp
    have hd5 : Dat w5 (fun _ => True) A n x.data := by
      exact HD0.out.step fun k hk hD => ⟨HK5.out.block k hk hD, trivial⟩
    have HP := Aside0.mk (fun W (hb : Below w5.heap.size w5 W) => (place_qb g R LN FR xs.length _ _ _ _ _ W (blk_below HQ5.out hb) HR3.out.l HR3.out.f HR3.out.m).mono (R' := fun e w' => e = .returned (.pointer (some ⟨R, p * 3, none⟩)) ∧ Below w5.heap.size w5 w' ∧
      w'.cell? ⟨g, 2, none⟩ = some (.int .i64 ((xs.length : Int) + 1)) ∧ w'.cell? ⟨w.heap.size, 0, none⟩ = some (.int .u64 x.no) ∧ w'.cell? ⟨w.heap.size, 1, none⟩ = some (.int .i64 x.size) ∧ w'.cell? ⟨w.heap.size, 2, none⟩ = some (.slice A n c))
      (fun e w' h => by
        have hb2 := below_step hb h.2
        obtain ⟨s0, s1, s2, _⟩ := cells3 (blk_below HI5.out hb2)
        exact ⟨by rw [h.1, hpe.out], hb2, Qb.c2 (blk_below HQ5.out hb2), s0, s1, s2⟩))
    have HC := Aside0.mk (fun W (hb : Below w5.heap.size w5 W) => (copied_any (fun _ => True) A n c x.data x.no x.size W (hd5.below hb) hx).mono (R' := fun e w' => ∃ A' c', e = .returned (.agg #[.int .u64 x.no, .int .i64 x.size, .slice A' n c']) ∧ Dat w' (fun k => w5.heap.size ≤ k ∧ U8 w' k) A' n x.data ∧ Below w5.heap.size w5 w' ∧
      (∃ z0 z1 z2, w'.cell? ⟨R, p * 3, none⟩ = some z0 ∧ w'.cell? ⟨R, p * 3 + 1, none⟩ = some z1 ∧ w'.cell? ⟨R, p * 3 + 2, none⟩ = some z2) ∧ w'.frozen? ⟨R, p * 3, none⟩ = false ∧ w'.frozen? ⟨R, p * 3 + 1, none⟩ = false ∧ w'.frozen? ⟨R, p * 3 + 2, none⟩ = false ∧
      w'.cell? ⟨g, 2, none⟩ = some (.int .i64 ((xs.length : Int) + 1)) ∧ w'.cell? ⟨w.heap.size, 0, none⟩ = some (.int .u64 x.no) ∧ w'.cell? ⟨w.heap.size, 1, none⟩ = some (.int .i64 x.size) ∧ w'.cell? ⟨w.heap.size, 2, none⟩ = some (.slice A n c))
      (fun e w' ⟨A', c', he, hd', hb'⟩ => by
        have hb2 := below_step hb hb'
        have hh := blk_below HH5.out hb2
        have hs := HR3.out.s
        obtain ⟨s0, s1, s2, _⟩ := cells3 (blk_below HI5.out hb2)
        exact ⟨A', c', he, hd'.new hb.size (fun _ _ _ => rfl), hb2, ⟨_, _, _, (blk_cell hh (p * 3)).trans (Array.getElem?_eq_getElem (by omega)), (blk_cell hh (p * 3 + 1)).trans (Array.getElem?_eq_getElem (by omega)), (blk_cell hh (p * 3 + 2)).trans (Array.getElem?_eq_getElem (by omega))⟩, blk_frozen hh _, blk_frozen hh _, blk_frozen hh _, Qb.c2 (blk_below HQ5.out hb2), s0, s1, s2⟩))
    clear hd5
    have hgR : g ≠ R := blk_ne HQ5.out HH5.out (by decide)
    have kd : w5.drew.drew.cell? ⟨g, 2, none⟩ = some (.int .i64 ((xs.length : Int) + 1)) := k2
    have id0 : w5.drew.drew.cell? ⟨w.heap.size, 0, none⟩ = some (.int .u64 x.no) := i0
    have id1 : w5.drew.drew.cell? ⟨w.heap.size, 1, none⟩ = some (.int .i64 x.size) := i1
    have id2 : w5.drew.drew.cell? ⟨w.heap.size, 2, none⟩ = some (.slice A n c) := i2
    go_region_held3 (fun W => W.cell? ⟨g, 2, none⟩ = some (.int .i64 ((xs.length : Int) + 1)) ∧ W.cell? ⟨w.heap.size, 0, none⟩ = some (.int .u64 x.no) ∧ W.cell? ⟨w.heap.size, 1, none⟩ = some (.int .i64 x.size) ∧ W.cell? ⟨w.heap.size, 2, none⟩ = some (.slice A n c))
      (first | (with_reducible exact ⟨q0, q1, q2, q3⟩) | (with_reducible exact ⟨s0, s1, s2, s3⟩) | (with_reducible exact ⟨kd, id0, id1, id2⟩) | (with_reducible exact ⟨k2, i0, i1, i2⟩) | (with_reducible exact ⟨far3 q0 hgR, far3 q1 hiR, far3 q2 hiR, far3 q3 hiR⟩) | fail)
      (first | (go_at_call 52; refine (HP.out w5.drew.drew (below_drew (below_drew (Below.refl _ _)))).mono ?_; rintro e w6 ⟨rfl, hb6, s0, s1, s2, s3⟩) | (go_at_call 51; refine (HC.out _ hb6).mono ?_; rintro e w7 ⟨A', c', rfl, hd7, hb7, ⟨z0, z1, z2, x0, x1, x2⟩, y0, y1, y2, q0, q1, q2, q3⟩))
    all_goals (go_wp2_with fail)
    go_ret
    exact ⟨rfl, push_end hDg HR3.out hpe.out HQ5.out HH5.out HU5.out HK5.out hb7 hd7⟩
end Go.Proofs.Ytballojildjbhaa.F
