/- shaper.New; conditions: the classes lie in memory. -/
import Derived.Test.YtballojildjbhaaSJ
namespace Go.Proofs.Ytballojildjbhaa.S
open Go Go.RowKit Go.Proofs.YtballojildjbhaaW.PrintWords Go.Proofs.YtballojildjbhaaW.PrintLast Go.Proofs.YtballojildjbhaaW.PrintMore Go.Proofs.Ytballojildjbhaa.F
set_option linter.unusedVariables false
set_option linter.unusedSimpArgs false

/-- What New answers. -/
def NewPost (w : World) (tick : Int) (cs : List Cl) (e : Ending) (w' : World) : Prop :=
  Below w.heap.size w w' ∧ ((newOk cs = true ∧ ∃ s O, e = .returned (.tuple #[.pointer (some ⟨s, 0, none⟩), .int .i64 0]) ∧ Sh w' O s tick (cs.map (newL tick)) ∧ (∀ k, O k ≠ 0 → w.heap.size ≤ k)) ∨
    (newOk cs = false ∧ e = .returned (.tuple #[.pointer none, .int .i64 2])))

theorem newOk_bad {cs : List Cl} {k : Nat} {x : Cl} (h : cs[k]? = some x) (hx : clOk x = false) : newOk cs = false := by
  have : cs.all clOk = false := by
    rw [List.all_eq_false]
    exact ⟨x, List.mem_of_getElem? h, by simp [hx]⟩
  unfold newOk
  rw [this]; simp
theorem newOk_all {cs : List Cl} (h0 : 1 ≤ cs.length) (h8 : cs.length ≤ 8) (h : ∀ k x, k < cs.length → cs[k]? = some x → clOk x = true) : newOk cs = true := by
  unfold newOk
  have : cs.all clOk = true := by
    rw [List.all_eq_true]
    intro x hx
    obtain ⟨k, hk⟩ := List.mem_iff_getElem?.1 hx
    exact h k x (List.getElem?_eq_some_iff.1 hk).1 hk
  rw [this]; simp [h0, h8]

theorem newP (W : World) (o : Obj) (v : Value) (t : TypeId) : ∀ j u, [v][j]? = some u → ((W.alloc o).alloc (.cells #[v] t)).cell? ((⟨W.heap.size + 1, 0, none⟩ : Addr).add j) = some u := by
  have h := blk_new (W.alloc o) (.cells #[v] t)
  rw [World.size_alloc] at h
  exact World.news_of_block h
theorem info_pline : (Try.prog.info? 73).map (fun i => (i.zero, i.size, i.bytes)) = some (some (.pointer none), 1, 8) := by kernel_rfl

set_option maxRecDepth 100000 in
set_option maxHeartbeats 4000000 in
theorem snew_any (tick : Int) (A : Option Addr) (n c : Nat) (cs : List Cl) (w : World) (h : Cls w w.heap.size A n cs) (hn : n ≤ maxLen) :
    Calls Try.prog 17 #[.int .u64 tick, .slice A n c] w (NewPost w tick cs) := by
  unfold maxLen at hn
  obtain ⟨i0, hi0, hz0, hz1, hz2⟩ := info_parts info_pline
  have HN := Aside0.mk h.1
  have HC := Aside0.mk h
  clear h
  by_cases h0 : n = 0
  · subst h0
    go_enter Try.func17, Try.ntmps17
    go_wp2
    go_ret2
    refine ⟨Below.refl _ _, .inr ⟨?_, rfl⟩⟩
    unfold newOk
    rw [← HN.out]; rfl
  by_cases h8 : 8 < n
  · have hb0 : ((n : Int) == 0) = false := by rw [beq_eq_false_iff_ne]; omega
    go_enter Try.func17, Try.ntmps17
    go_wp2
    go_ret2
    refine ⟨Below.refl _ _, .inr ⟨?_, rfl⟩⟩
    unfold newOk
    rw [← HN.out, show decide (n ≤ 8) = false from decide_eq_false (by omega)]; simp
  have hb0 : ((n : Int) == 0) = false := by rw [beq_eq_false_iff_ne]; omega
  have hb8 : decide (8 < (n : Int)) = false := decide_eq_false (by omega)
  have HI := Aside0.mk (show NB w (w.alloc (.cells #[.int .u64 tick, .slice none 0 0] 90)) w.heap.size (fun _ => 0) tick [] [] none 0 from
    ⟨Nat.le_refl _, blk_new _ _, World.ownsRow_nil _ _ _ _, fun i l hi => by simp at hi, fun k hk => absurd rfl hk, rfl, fun k hk => rfl, below_alloc (Below.refl _ _) _⟩)
  go_enter Try.func17, Try.ntmps17
  go_wp2_with fail
  go_loopw [24] (fun i wr => ∃ k : Nat, ∃ O ls ps A' c', k ≤ n ∧ i = .int .i64 k ∧ (∀ j x, j < k → cs[j]? = some x → clOk x = true) ∧ ls = (cs.take k).map (newL tick) ∧ NB w wr w.heap.size O tick ls ps A' c') (fun i _ => n - (intOf i).toNat)
  case atStart => exact ⟨0, _, [], [], none, 0, Nat.zero_le _, rfl, fun j x hj => absurd hj (by omega), rfl, HI.out⟩
  case round =>
    obtain ⟨k, O, ls, ps, A', c', hk, rfl, hall, hls, hnb⟩ := hrel
    have HLS := Aside0.mk hls
    have HALL := Aside0.mk hall
    have HNB := Aside0.mk hnb
    clear hall hnb hls HI
    by_cases hlt : k < n
    · have hkl : k < cs.length := by have := HN.out; omega
      obtain ⟨ad, rfl, hadb, hcl⟩ := HC.out.2 (by omega)
      have hx := (hcl k cs[k] (List.getElem?_eq_getElem hkl)).same (HNB.out.bel.block _ (by rw [ad_block]; exact hadb))
      obtain ⟨x0, x1, x2, x3⟩ := hx
      have HX := Aside0.mk (List.getElem?_eq_getElem hkl)
      generalize cs[k] = x at *
      clear hcl
      have HNB1 := Aside0.mk (HNB.out.below (below_alloc (Below.refl _ wr) (.cells #[.int .u64 x.rate, .int .u64 x.burst, .int .i64 x.items, .int .i64 x.size] 48)))
      have HBX1 := Aside0.mk (blk_new wr (.cells #[.int .u64 x.rate, .int .u64 x.burst, .int .i64 x.items, .int .i64 x.size] 48))
      by_cases hnb : newB x.items x.size = true
      · have HNO := Aside0.mk (fun W => new_no x.items x.size W hnb)
        have hbad : clOk x = false := by unfold clOk; rw [hnb]; rfl
        go_wp2_with fail
        refine (HNO.out _).mono ?_
        rintro e w2 ⟨rfl, rfl⟩
        go_wp2_with fail
        go_ret2
        exact ⟨HNB1.out.bel, .inr ⟨newOk_bad HX.out hbad, rfl⟩⟩
      · rw [Bool.not_eq_true] at hnb
        have HNO := Aside0.mk (fun W => new_ok x.items x.size W hnb)
        have HNE := Aside0.mk hnb
        clear hnb
        go_wp2_with fail
        refine (HNO.out _).mono ?_
        rintro e w2 ⟨rfl, hf2, hb2⟩
        simp only [World.size_alloc] at hf2
        have HNB2 := Aside0.mk (HNB1.out.below hb2)
        have HBX2 := Aside0.mk (blk_below HBX1.out hb2)
        have HF2 := Aside0.mk hf2
        have hzq : wr.heap.size + 1 < w2.heap.size := hf2.lt
        obtain ⟨⟨u0, u1, u2, u3⟩, v0, v1, v2, v3⟩ := cells4 HBX2.out
        clear hf2 hb2 HNB1 HBX1 HNO x0 x1 x2 x3
        by_cases hbu : x.burst < 2048
        · have hbad : clOk x = false := by unfold clOk; rw [show decide (2048 ≤ x.burst) = false from decide_eq_false (by omega)]; simp
          go_wp2_with fail
          go_ret2
          exact ⟨HNB2.out.bel, .inr ⟨newOk_bad HX.out hbad, rfl⟩⟩
        · have hgood : clOk x = true := by unfold clOk; rw [HNE.out, show decide (2048 ≤ x.burst) = true from decide_eq_true (by omega)]; rfl
          have hbd : decide (x.burst < 2048) = false := decide_eq_false hbu
          have HG := Aside0.mk hgood
          clear hgood hbu
          go_wp2_with fail
          have hll : ls.length ≤ 8 := by rw [HLS.out, List.length_map, List.length_take]; omega
          have HSB := Aside0.mk (fun (W : World) (hW : Below w2.heap.size w2 W) => (show W.cell? ⟨w.heap.size, 1, none⟩ = some (.slice A' ls.length c') ∧ W.cell? ⟨wr.heap.size, 0, none⟩ = some (.int .u64 x.rate) ∧ W.cell? ⟨wr.heap.size, 1, none⟩ = some (.int .u64 x.burst) from by
            have h1 := blk_below HBX2.out hW
            exact ⟨(blk_cell (blk_below HNB2.out.box hW) 1).trans rfl, (blk_cell h1 0).trans rfl, (blk_cell h1 1).trans rfl⟩))
          have HNW := Aside0.mk (fun (W : World) (hW : Below w2.heap.size w2 W) => (B.new_any x.rate x.burst tick W).mono (R' := fun e w' => e = .returned (.pointer (some ⟨W.heap.size, 0, none⟩)) ∧ B.Bk w' W.heap.size x.rate x.burst tick x.burst ∧ Below W.heap.size W w' ∧ Below w2.heap.size w2 w' ∧ (w'.cell? ⟨w.heap.size, 1, none⟩ = some (.slice A' ls.length c') ∧ w'.cell? ⟨wr.heap.size, 0, none⟩ = some (.int .u64 x.rate) ∧ w'.cell? ⟨wr.heap.size, 1, none⟩ = some (.int .u64 x.burst)))
            (fun e w' hh => ⟨hh.1, hh.2.1, hh.2.2, below_step hW hh.2.2, HSB.out w' (below_step hW hh.2.2)⟩))
          have HY5 := Aside0.mk (fun (w3 w5 : World) (o1 o2 : Obj) (hb : Below w2.heap.size w2 w3) (hg : ((w3.alloc o1).alloc o2).grownBy w5 (Value.slice A' ls.length c').ownBlock) =>
            (show (w5.cell? ⟨w.heap.size, 1, none⟩ = some (.slice A' ls.length c') ∧ w5.cell? ⟨wr.heap.size, 0, none⟩ = some (.int .u64 x.rate) ∧ w5.cell? ⟨wr.heap.size, 1, none⟩ = some (.int .u64 x.burst)) ∧ w5.frozen? ⟨w.heap.size, 1, none⟩ = false from by
              have hb2 := below_alloc (below_alloc hb o1) o2
              have e1 := blk_below HNB2.out.box hb2
              have e2 := blk_below HBX2.out hb2
              have hr := (HNB2.out.below hb2).row
              have g1 := (hg.block _ (blk_lt e1) (own_ne_ hr e1 (by decide))).trans e1
              have g2 := (hg.block _ (blk_lt e2) (own_ne_ hr e2 (by decide))).trans e2
              exact ⟨⟨(blk_cell g1 1).trans rfl, (blk_cell g2 0).trans rfl, (blk_cell g2 1).trans rfl⟩, blk_frozen g1 1⟩))
          have hcs : wr.heap.size ≠ w.heap.size := by have := HNB.out.box; have := blk_lt this; omega
          have y6 := HSB.out w2.drew (below_drew (Below.refl _ _))
          obtain ⟨d0, d1, d2⟩ := id y6
          go_region_law (first | (rw [if_pos (by rfl)]; go_simp; go_at_call 35; refine (HNW.out _ (below_drew (Below.refl _ _))).mono ?_; rintro e w3 ⟨rfl, hk3, hb3, hb3w, d3, y3⟩; dsimp only; have hne3 := World.new_ne w3 ⟨w.heap.size, 1, none⟩ d3; have hlt3 := cell_lt0 d3) | (refine step_append_lies _ (by rfl) (.tmp 47) (.tmp 57) 88 (by rfl) w.heap.size 73 i0 (.pointer none) 1 8 Try.underlying88 hi0 hz0 hz1 hz2 rfl (by decide) (.slice A' ls.length c') ls.length (ps.map fun p => Value.pointer (some ⟨p, 0, none⟩)) (by rfl) (((HNB2.out.below hb3w).row.alloc _).alloc _) ⟨w3.heap.size + 1, 0, none⟩ 1 1 [.pointer (some ⟨w3.heap.size, 0, none⟩)] (by rfl) rfl (newP _ _ _ _) (by simp [Value.oneCell']) (by omega) (by unfold maxLen; omega) (by omega) (by have := HNB2.out.bel.size; have := hb3w.size; simp; omega) _ rfl ?_; intro g cap w5 hown hgrow hat hlt5; have y5 := (HY5.out w3 w5 _ _ hb3w hgrow).1.2; have d5 := (HY5.out w3 w5 _ _ hb3w hgrow).1.1; have f5 := (HY5.out w3 w5 _ _ hb3w hgrow).2))
          all_goals
            have HNF := Aside0.mk (NB.snoc (x := x) HNB2.out HF2.out (by have := HNB.out.bel.size; omega) (Classical.byContradiction fun hn => by have := (HNB.out.lt _ hn).1; omega) (by have := blk_lt HNB.out.box; omega) hk3 hb3w hll hown hgrow hat)
            have HLE := Aside0.mk (show ls ++ [newL tick x] = (cs.take (k + 1)).map (newL tick) by rw [List.take_add_one, HX.out, HLS.out]; simp)
            clear hk3 hb3 hb3w d3 y3 hne3 hlt3 hown hgrow hat hlt5 y5 d5 f5 y6 d0 d1 d2 u0 u1 u2 u3 v0 v1 v2 v3
            go_wp2_with fail
            go_roundw
            case rel =>
              refine ⟨k + 1, _, _, _, _, _, by omega, by go_num, fun j y hj hy => ?_, HLE.out, HNF.out⟩
              by_cases hjk : j < k
              · exact HALL.out j y hjk hy
              · obtain rfl : j = k := by omega
                rw [HX.out] at hy
                cases hy
                exact HG.out
            case measure => simp [intOf]; omega
    · obtain rfl : k = n := by omega
      go_wp2_with fail
      go_ret2
      have hk := HN.out
      obtain ⟨O', h1, h2, h3⟩ := HNB.out.done
      rw [HLS.out, List.take_of_length_le (by omega)] at h1
      exact ⟨h3, .inl ⟨newOk_all (by omega) (by omega) fun j x hj hx => HALL.out j x (by omega) hx, _, O', rfl, h1, h2⟩⟩
end Go.Proofs.Ytballojildjbhaa.S
