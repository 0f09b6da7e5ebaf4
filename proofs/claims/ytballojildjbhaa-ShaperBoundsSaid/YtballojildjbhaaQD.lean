/- fifo.Queue: what Pop answers, and leaves; conditions: the queue lies in memory. -/
import Derived.Test.YtballojildjbhaaQC
import Derived.StillTailTactics
namespace Go.Proofs.Ytballojildjbhaa.F
open Go.RowKit Go.Proofs.YtballojildjbhaaW.PrintWords Go.Proofs.YtballojildjbhaaW.PrintLast Go.Proofs.YtballojildjbhaaW.PrintMore
set_option linter.unusedVariables false
set_option linter.unusedSimpArgs false

set_option maxHeartbeats 400000 in
theorem pop_none (p : Option Addr) (w : World) (h : Empty w p) :
    Calls Try.prog 54 #[.pointer p] w fun e w' => e = .returned (.tuple #[.agg #[.int .u64 0, .int .i64 0, .slice none 0 0], .bool false]) ∧ Below w.heap.size w w' := by
  have HC := Aside0.mk (fun W (hb : Below w.heap.size w W) => head_none p W (h.below hb))
  clear h
  go_enter Try.func54, Try.ntmps54
  go_wp2_with fail
  refine (HC.out _ (below_alloc (Below.refl _ _) _)).mono ?_
  rintro e w1 ⟨rfl, hb⟩
  have b1 := blk_below (blk_new _ _) hb
  have HB := Aside0.mk hb
  obtain ⟨u0, u1, u2, v0, v1, v2⟩ := cells3 b1
  have hz := hb.size
  rw [World.size_alloc] at hz
  replace hz : w.heap.size < w1.heap.size := hz
  clear hb b1
  go_wp2
  have b4 := set3 (a' := .int .u64 0) (b' := .int .i64 0) (c' := .slice none 0 0) (blk_below (blk_new _ _) HB.out)
  obtain ⟨u0, u1, u2, v0, v1, v2⟩ := cells3 (blk_alloc b4 (.cells #[.int .u64 0, .int .i64 0, .slice none 0 0] 25))
  refine bodyPost_ret (v := .tuple #[.agg #[.int .u64 0, .int .i64 0, .slice none 0 0], .bool false]) (by simp [results, Try.results54, go_sem, u0, u1, u2]) rfl ⟨rfl, ?_⟩
  have := below_step (below_alloc (Below.refl _ w) _) HB.out
  exact below_alloc (below_set (below_set (below_set this (Nat.le_refl _)) (Nat.le_refl _)) (Nat.le_refl _)) _

theorem mod_ne {fr k len : Nat} (hf : fr < len) (hk : k < len) (h0 : 0 < k) : (fr + k) % len ≠ fr := by
  rcases Nat.lt_or_ge (fr + k) len with h | h
  · rw [Nat.mod_eq_of_lt h]; omega
  · rw [Nat.mod_eq_sub_mod h, Nat.mod_eq_of_lt (by omega)]; omega
theorem ItAt.set_ {W : World} {D : Nat → Prop} {cs : Array Value} {p q : Nat} {y : It} {a b c : Value} (h : ItAt W D cs p y) (hne : p ≠ q) :
    ItAt W D (((cs.setIfInBounds (q * 3) a).setIfInBounds (q * 3 + 1) b).setIfInBounds (q * 3 + 2) c) p y := by
  obtain ⟨A, n, c', h0, h1, h2, hd⟩ := h
  refine ⟨A, n, c', ?_, ?_, ?_, hd⟩
  · rw [Array.getElem?_setIfInBounds_ne (by omega), Array.getElem?_setIfInBounds_ne (by omega), Array.getElem?_setIfInBounds_ne (by omega)]; exact h0
  · rw [Array.getElem?_setIfInBounds_ne (by omega), Array.getElem?_setIfInBounds_ne (by omega), Array.getElem?_setIfInBounds_ne (by omega)]; exact h1
  · rw [Array.getElem?_setIfInBounds_ne (by omega), Array.getElem?_setIfInBounds_ne (by omega), Array.getElem?_setIfInBounds_ne (by omega)]; exact h2

set_option maxRecDepth 100000 in
set_option maxHeartbeats 1000000 in
theorem pop_some (D : Nat → Prop) (g : Nat) (x : It) (xs : List It) (items bound drops : Int) (w : World) (h : Fq w D g (x :: xs) items bound drops) (ho : Ok (x :: xs) items bound drops) (hl : x.data.length ≤ 65536) :
    Calls Try.prog 54 #[.pointer (some ⟨g, 0, none⟩)] w fun e w' => ∃ A n c, e = .returned (.tuple #[.agg #[.int .u64 x.no, .int .i64 x.size, .slice A n c], .bool true]) ∧ Dat w' (fun k => w.heap.size ≤ k ∧ U8 w' k) A n x.data ∧
      Fq w' D g xs items bound drops ∧ KeepD w w' D := by
  have HQ := Aside0.mk h
  have HL := Aside0.mk hl
  clear h hl
  go_enter Try.func54, Try.ntmps54
  go_wp2_with fail
  refine (head_some D g x xs items bound drops _ (HQ.out.below (below_alloc (Below.refl _ _) _)) HL.out).mono ?_
  rintro e w1 ⟨A, n, c, rfl, hd, hb⟩
  have HB := Aside0.mk hb
  have b1 := blk_below (blk_new _ _) hb
  obtain ⟨u0, u1, u2, v0, v1, v2⟩ := cells3 b1
  have hz := hb.size
  rw [World.size_alloc] at hz
  replace hz : w.heap.size < w1.heap.size := hz
  have HD := Aside0.mk hd
  clear hb b1 hd
  obtain ⟨hDg, A0, len, fr, hq, h | ⟨r, cs, rfl, hr, hh, hsz, hf, hle, hlen, hit⟩⟩ := HQ.out
  · exact absurd h.2.2.2 (by simp)
  have hx2 : xs.length + 1 ≤ len := by simpa using hle
  have hS : sz (x :: xs) = x.size + sz xs := rfl
  have hp0 := ho.pos x (by simp)
  have hp1 : 0 ≤ sz xs := sz_nonneg fun y hy => ho.pos y (by simp [hy])
  have hp2 := ho.size
  have hp3 := ho.bound
  have hM : (((x :: xs).length : Nat) : Int) = xs.length + 1 := by simp
  have hM2 := ho.many
  have hM3 := ho.items
  have HO := Aside0.mk ho
  clear ho
  rw [hS] at hq hp2
  rw [hM] at hq hM2
  have hxl : 0 < len := by omega
  obtain ⟨S, HS⟩ : ∃ S, Aside0 (S = x.size + sz xs) := ⟨_, ⟨rfl⟩⟩
  obtain ⟨m, HM⟩ : ∃ m : Int, Aside0 (m = xs.length + 1) := ⟨_, ⟨rfl⟩⟩
  rw [← HS.out] at hq
  rw [← HM.out] at hq
  have wS : IntKind.i64.wrap (S - x.size) = sz xs := by rw [HS.out, IntWalk.i64_in _ (by omega)]; omega
  have wM : IntKind.i64.wrap (m - 1) = (xs.length : Int) := by rw [HM.out, IntWalk.i64_in _ (by omega)]; omega
  clear hS hp0 hp1 hp2 hp3 hM hM2 hM3
  have HLE := Aside0.mk hle
  clear hle
  have hq1 := blk_below (blk_alloc hq (.cells #[.int .u64 0, .int .i64 0, .slice none 0 0] 25)) HB.out
  have hh1 := blk_below (blk_alloc hh (.cells #[.int .u64 0, .int .i64 0, .slice none 0 0] 25)) HB.out
  have HG0 := Aside0.mk hq
  have HR0 := Aside0.mk hh
  have hg0 := blk_lt hq
  have hr0 := blk_lt hh
  have HQ1 := Aside0.mk hq1
  have HH1 := Aside0.mk hh1
  have HIT := Aside0.mk hit
  clear hq hh hq1 hh1 hit
  go_wp2_with fail
  refine (place_qb g r len fr 0 _ _ _ _ _ _ (blk_alloc HQ1.out _) hlen hf (by omega)).mono ?_
  rintro e w2 ⟨rfl, hb2⟩
  rw [Nat.add_zero, Nat.mod_eq_of_lt hf]
  have hh2 := blk_below (blk_alloc HH1.out _) hb2
  have hq2 := blk_below (blk_alloc HQ1.out _) hb2
  have hi2 := blk_below (blk_new _ _) hb2
  have hz2 := hb2.size
  rw [World.size_alloc] at hz2
  replace hz2 : w1.heap.size < w2.heap.size := hz2
  have x0 := (blk_cell hh2 (fr * 3)).trans (Array.getElem?_eq_getElem (by omega))
  have x1 := (blk_cell hh2 (fr * 3 + 1)).trans (Array.getElem?_eq_getElem (by omega))
  have x2 := (blk_cell hh2 (fr * 3 + 2)).trans (Array.getElem?_eq_getElem (by omega))
  have y0 := blk_frozen hh2 (fr * 3)
  have y1 := blk_frozen hh2 (fr * 3 + 1)
  have y2 := blk_frozen hh2 (fr * 3 + 2)
  have HQ2 := Aside0.mk hq2
  have HH2 := Aside0.mk hh2
  have HI2 := Aside0.mk hi2
  have HB2 := Aside0.mk hb2
  clear hb2 hh2 hq2 hi2
  go_upto_region 4 with (fail)
  have hne : g ≠ r := blk_ne HQ2.out HH2.out (by decide)
  have HR2 := Aside0.mk (blk_below (blk_alloc (blk_below (blk_new w (.cells #[.int .u64 0, .int .i64 0, .slice none 0 0] 25)) HB.out) (.cells #[.int .u64 x.no, .int .i64 x.size, .slice A n c] 25)) HB2.out)
  have HK2 := KeepD.of_below (below_step (below_alloc (below_step (below_alloc (Below.refl _ w) _) HB.out) _) HB2.out) (fun k => k = g ∨ k = r)
  have HD2 := ((HD.out.newBelow (below_alloc (Below.refl _ _) _)).newBelow HB2.out).new (B2 := w.heap.size + 1) (W2 := ((w2.setCell ⟨r, fr * 3, none⟩ (.int .u64 0)).setCell ⟨r, fr * 3 + 1, none⟩ (.int .i64 0)).setCell ⟨r, fr * 3 + 2, none⟩ (.slice none 0 0)) (by simp)
    (fun k hk _ => by
      rw [World.size_alloc] at hk
      rw [heap_far (by omega), heap_far (by omega), heap_far (by omega)])
  have HQ3 := Aside0.mk (blk_far (blk_far (blk_far HQ2.out (p := ⟨r, fr * 3, none⟩) hne (.int .u64 0)) (p := ⟨r, fr * 3 + 1, none⟩) hne (.int .i64 0)) (p := ⟨r, fr * 3 + 2, none⟩) hne (.slice none 0 0))
  have HH3 := Aside0.mk (blk_set (blk_set (blk_set HH2.out (fr * 3) (.int .u64 0)) (fr * 3 + 1) (.int .i64 0)) (fr * 3 + 2) (.slice none 0 0))
  have HI3 := Aside0.mk (blk_far (blk_far (blk_far HI2.out (p := ⟨r, fr * 3, none⟩) (by show w1.heap.size ≠ r; omega) (.int .u64 0)) (p := ⟨r, fr * 3 + 1, none⟩) (by show w1.heap.size ≠ r; omega) (.int .i64 0)) (p := ⟨r, fr * 3 + 2, none⟩) (by show w1.heap.size ≠ r; omega) (.slice none 0 0))
  have HR3 := Aside0.mk (blk_far (blk_far (blk_far HR2.out (p := ⟨r, fr * 3, none⟩) (by show w.heap.size ≠ r; omega) (.int .u64 0)) (p := ⟨r, fr * 3 + 1, none⟩) (by show w.heap.size ≠ r; omega) (.int .i64 0)) (p := ⟨r, fr * 3 + 2, none⟩) (by show w.heap.size ≠ r; omega) (.slice none 0 0))
  have HK3 := Aside0.mk (((HK2.set_ (g := r) (i := fr * 3) (v := .int .u64 0) (.inr (.inr rfl))).set_ (g := r) (i := fr * 3 + 1) (v := .int .i64 0) (.inr (.inr rfl))).set_ (g := r) (i := fr * 3 + 2) (v := .slice none 0 0) (.inr (.inr rfl)))
  have HD3 := Aside0.mk HD2
  have HZ := Aside0.mk hsz
  clear HR2 HI2 HQ2 HH2 HK2 HD2 HB2 HB x0 x1 x2 y0 y1 y2 HH1 HQ1 hsz
  generalize ((w2.setCell ⟨r, fr * 3, none⟩ (.int .u64 0)).setCell ⟨r, fr * 3 + 1, none⟩ (.int .i64 0)).setCell ⟨r, fr * 3 + 2, none⟩ (.slice none 0 0) = w3 at *
  have c0 := Qb.c0 HQ3.out
  have c1 := Qb.c1 HQ3.out
  have f1 := Qb.fz HQ3.out 1
  have hw : IntKind.i64.wrap ((fr : Int) + 1) = ((fr + 1 : Nat) : Int) := by rw [IntWalk.i64_in _ (by omega)]; omega
  have hm : ((fr + 1 : Nat) : Int).tmod len = (((fr + 1) % len : Nat) : Int) := by
    rw [Int.tmod_eq_emod_of_nonneg (by omega)]; exact (Int.natCast_emod _ _).symm
  have hpos : ¬ (len : Int) = 0 := by omega
  have hf2 : (fr + 1) % len < len := Nat.mod_lt _ (by omega)
  generalize hk : (fr + 1) % len = fr' at *
  have HFR := Aside0.mk hk
  clear hk
  generalize hs : fr + 1 = s at hw hm
  clear hs
  have hlt' : (fr' : Int) < len := by omega
  have hk0 : (0 : Int) ≤ fr' := by omega
  refine wp_region_still_tail 14 (by kernel_rfl) (by kernel_rfl) ?_
  change wpStill _ _ w3.drew (fun a' => wpList _ _ _ _ a' w3.drew) _ _
  simp only [List.take_succ_cons, List.take_zero, List.drop_succ_cons, List.drop_zero]
  have hpos2 : ¬ len = 0 := by omega
  have hne2 : ¬ w1.heap.size = g := by omega
  have hne3 : ¬ w.heap.size = g := by omega
  repeat still_step
  refine wpStill_nil ?_
  have c2 := Qb.c2 HQ3.out
  have c3 := Qb.c3 HQ3.out
  have f2 := Qb.fz HQ3.out 2
  have f3 := Qb.fz HQ3.out 3
  obtain ⟨i0, i1, i2, j0, j1, j2⟩ := cells3 HI3.out
  obtain ⟨u0, u1, u2, v0, v1, v2⟩ := cells3 HR3.out
  go_upto_region 6 with (fail)
  have HQ4 := Aside0.mk (blk_put (blk_put HQ3.out 1 (.int .i64 fr') rfl) 2 (.int .i64 xs.length) rfl)
  have HH4 := Aside0.mk (blk_far (blk_far HH3.out (p := ⟨g, 1, none⟩) (Ne.symm hne) (.int .i64 fr')) (p := ⟨g, 2, none⟩) (Ne.symm hne) (.int .i64 xs.length))
  have HI4 := Aside0.mk (blk_far (blk_far HI3.out (p := ⟨g, 1, none⟩) hne2 (.int .i64 fr')) (p := ⟨g, 2, none⟩) hne2 (.int .i64 xs.length))
  have HR4 := Aside0.mk (blk_far (blk_far HR3.out (p := ⟨g, 1, none⟩) hne3 (.int .i64 fr')) (p := ⟨g, 2, none⟩) hne3 (.int .i64 xs.length))
  have HK4 := Aside0.mk ((HK3.out.set_ (g := g) (i := 1) (v := .int .i64 fr') (.inr (.inl rfl))).set_ (g := g) (i := 2) (v := .int .i64 xs.length) (.inr (.inl rfl)))
  have HD4 := Aside0.mk (HD3.out.new (B2 := w.heap.size + 1) (W2 := (w3.setCell ⟨g, 1, none⟩ (.int .i64 fr')).setCell ⟨g, 2, none⟩ (.int .i64 xs.length)) (Nat.le_refl _)
    (fun k hk _ => by rw [heap_far (by omega), heap_far (by omega)]))
  clear HQ3 HH3 HI3 HR3 HK3 HD3 c0 c1 c2 c3 f1 f2 f3 i0 i1 i2 j0 j1 j2 u0 u1 u2 v0 v1 v2 hw hm
  generalize (w3.setCell ⟨g, 1, none⟩ (.int .i64 fr')).setCell ⟨g, 2, none⟩ (.int .i64 xs.length) = w4 at *
  have c3 := Qb.c3 HQ4.out
  have f3 := Qb.fz HQ4.out 3
  obtain ⟨i0, i1, i2, j0, j1, j2⟩ := cells3 HI4.out
  obtain ⟨u0, u1, u2, v0, v1, v2⟩ := cells3 HR4.out
  refine wp_region_still_tail 9 (by kernel_rfl) (by kernel_rfl) ?_
  change wpStill _ _ w4.drew.drew (fun a' => wpList _ _ _ _ a' w4.drew.drew) _ _
  simp only [List.take_succ_cons, List.take_zero, List.drop_succ_cons, List.drop_zero]
  repeat still_step
  refine wpStill_nil ?_
  go_wp2
  have g0 : w.heap.size ≠ g := by omega
  have HKF := Aside0.mk (((((HK4.out.set_ (g := g) (i := 3) (v := .int .i64 (sz xs)) (.inr (.inl rfl))).set_ (g := w.heap.size) (i := 0) (v := .int .u64 x.no) (.inl (Nat.le_refl _))).set_ (g := w.heap.size) (i := 1) (v := .int .i64 x.size) (.inl (Nat.le_refl _))).set_ (g := w.heap.size) (i := 2) (v := .slice A n c) (.inl (Nat.le_refl _))).drew.drew)
  have b1 := set3 (a' := .int .u64 x.no) (b' := .int .i64 x.size) (c' := .slice A n c) (blk_far HR4.out (p := ⟨g, 3, none⟩) g0 (.int .i64 (sz xs)))
  obtain ⟨u0, u1, u2, v0, v1, v2⟩ := cells3 b1
  refine bodyPost_ret (v := .tuple #[.agg #[.int .u64 x.no, .int .i64 x.size, .slice A n c], .bool true]) (by simp [results, Try.results54, go_sem, u0, u1, u2]) rfl ⟨A, n, c, rfl, ?_, ?_, ?_⟩
  · exact HD4.out.new (Nat.le_succ _) fun k hk _ => by
      show ((((w4.setCell _ _).setCell _ _).setCell _ _).setCell _ _).heap[k]? = _
      rw [heap_far (by omega), heap_far (by omega), heap_far (by omega), heap_far (by omega)]
  · have q1 := blk_far (blk_far (blk_far (blk_put HQ4.out 3 (.int .i64 (sz xs)) rfl) (p := ⟨w.heap.size, 0, none⟩) (Ne.symm g0) (.int .u64 x.no)) (p := ⟨w.heap.size, 1, none⟩) (Ne.symm g0) (.int .i64 x.size)) (p := ⟨w.heap.size, 2, none⟩) (Ne.symm g0) (.slice A n c)
    have hr2 : r ≠ w.heap.size := by omega
    have q2 := blk_far (blk_far (blk_far (blk_far HH4.out (p := ⟨g, 3, none⟩) (Ne.symm hne) (.int .i64 (sz xs))) (p := ⟨w.heap.size, 0, none⟩) hr2 (.int .u64 x.no)) (p := ⟨w.heap.size, 1, none⟩) hr2 (.int .i64 x.size)) (p := ⟨w.heap.size, 2, none⟩) hr2 (.slice A n c)
    have hk := HKF.out.block
    refine ⟨hDg, _, len, fr', q1, .inr ⟨r, _, rfl, hr, q2, by simpa using HZ.out, hf2, by omega, hlen, fun i y hy => ?_⟩⟩
    have hi : i < xs.length := (List.getElem?_eq_some_iff.1 hy).1
    have hz3 := HZ.out
    have hit := HIT.out (i + 1) y (by simpa using hy)
    have e1 : (fr' + i) % len = (fr + (i + 1)) % len := by rw [← HFR.out, Nat.mod_add_mod, Nat.add_assoc, Nat.add_comm 1 i]
    rw [← e1] at hit
    have e2 : (fr' + i) % len ≠ fr := by
      rw [e1]
      intro h
      have := mod_ne hf (show i + 1 < len by omega) (by omega)
      exact this h
    exact ItAt.step (ItAt.set_ hit e2) fun k hu hD => ⟨hk k hu.lt (by
      obtain ⟨_, A0, _, _, _, _⟩ := HQ.out
      rintro (rfl | rfl)
      · exact hu.ne_ HG0.out (by decide) rfl
      · exact hu.ne_ HR0.out (by decide) rfl), hD⟩
  · exact HKF.out.mono fun k hk => by rcases hk with rfl | rfl; exact hDg; exact hr
end Go.Proofs.Ytballojildjbhaa.F
