/- FifoPlays's walk; conditions: the acts lie in memory. -/
import Derived.Test.YtdipihaefiobiaaQX
namespace Go.Proofs.Ytdipihaefiobiaa.F
open Go Go.RowKit Go.Proofs.YtdipihaefiobiaaW.PrintWords Go.Proofs.YtdipihaefiobiaaW.PrintLast Go.Proofs.YtdipihaefiobiaaW.PrintMore
set_option linter.unusedVariables false
set_option linter.unusedSimpArgs false

theorem pushR_nat (xs : List It) (items bound : Int) (d : Nat) (x : It) : ∃ (e1 : Int) (xs1 : List It) (d1 : Nat), pushR xs items bound d x = (e1, xs1, (d1 : Int)) ∧ d1 ≤ d + 1 := by
  unfold pushR
  split
  · exact ⟨_, _, d, rfl, by omega⟩
  · split
    · exact ⟨_, _, d, rfl, by omega⟩
    · exact ⟨_, _, d + 1, rfl, by omega⟩
theorem below_put {B g i : Nat} {v : Value} {w W : World} (h : Below B w W) (hg : B ≤ g) : Below B w (W.setCell ⟨g, i, none⟩ v) :=
  ⟨h.os, h.tape, h.output, by simpa [World.setCell] using h.size, fun k hk => (heap_far (by omega)).trans (h.block k hk)⟩

theorem rrow_put {W : World} {E E2 : Nat → Prop} {g : Nat} {a b c d : Value} {A : Option Addr} {n : Nat} {xs : List It} (h : RRow W E A n xs) (hg : ∀ k, E k → k ≠ g)
    (hE : ∀ k, k < ((((W.setCell ⟨g, 0, none⟩ a).setCell ⟨g, 1, none⟩ b).setCell ⟨g, 2, none⟩ c).setCell ⟨g, 3, none⟩ d).heap.size → E k → E2 k) : RRow ((((W.setCell ⟨g, 0, none⟩ a).setCell ⟨g, 1, none⟩ b).setCell ⟨g, 2, none⟩ c).setCell ⟨g, 3, none⟩ d) E2 A n xs :=
  h.step (W' := put4 W g a b c d) fun k hk he => ⟨put4_far (hg k he), hE k (by show k < (put4 W g a b c d).heap.size; rw [put4_size]; exact hk) he⟩

set_option maxRecDepth 100000 in
set_option maxHeartbeats 10000000 in
theorem plays_any (items size : Int) (hsz : size ≤ 9223372036854775807) (A : Option Addr) (n c : Nat) (l : List Ac) (w : World) (h : Acts w w.heap.size A n l) (hn : n ≤ maxLen) :
    Calls Try.prog 3 #[.int .i64 items, .int .i64 size, .slice A n c] w fun e w' => e = .returned (.bool true) ∧ Below w.heap.size w w' := by
  unfold maxLen at hn
  have HF := Aside0.mk (few_any _ A n c l w h (by unfold maxLen; exact hn))
  have HA := Aside0.mk h
  clear h
  cases hfew : fewB l
  · rw [hfew] at HF
    clear hfew
    go_enter Try.func3, Try.ntmps3
    go_wp2_with fail
    refine HF.out.mono ?_
    rintro e w1 ⟨rfl, rfl⟩
    go_wp2_with fail
    refine (works_any _).mono ?_
    rintro e w1 ⟨rfl, b⟩
    go_wp2
    go_ret
    exact ⟨rfl, b⟩
  · rw [hfew] at HF
    obtain ⟨hl60, hld⟩ := fewB_true hfew
    have HLD := Aside0.mk hld
    have HNL := Aside0.mk HA.out.1
    have hn60 : n ≤ 60 := by rw [HNL.out]; exact hl60
    clear hfew hl60 hld
    cases hnb : newB items size
    · have HNB := Aside0.mk hnb
      have HSZ := Aside0.mk hsz
      clear hnb hsz
      go_enter Try.func3, Try.ntmps3
      go_wp2_with fail
      refine HF.out.mono ?_
      rintro e w1 ⟨rfl, rfl⟩
      go_wp2_with fail
      refine (new_ok items size _ HNB.out).mono ?_
      rintro e w1 ⟨rfl, q, b⟩
      go_wp2_with fail
      refine (rnew_ok items size _ HNB.out).mono ?_
      rintro e w2 ⟨rfl, b2⟩
      go_wp2_with fail
      have hQ : SQ w (w2.alloc (.cells #[.slice none 0 0, .int .i64 items, .int .i64 size, .int .u64 0] 32)) w.heap.size (fun k => k = w.heap.size) [] items size 0 :=
        (show SQ w w1 w.heap.size (fun k => k = w.heap.size) [] items size 0 from ⟨q, Ok.new HNB.out HSZ.out, Few.nil, fun k hD => by subst hD; exact ⟨Nat.le_refl _, q.lt⟩, b⟩).below (below_alloc b2 _)
      have hR : SR w (w2.alloc (.cells #[.slice none 0 0, .int .i64 items, .int .i64 size, .int .u64 0] 32)) (fun k => k = w.heap.size) (fun _ => False) w2.heap.size none 0 0 [] items size 0 := by
        have h1 := q.lt
        have h2 := b2.size
        exact ⟨⟨rfl, fun h0 => absurd h0 (by omega)⟩, Nat.le_refl _, blk_new _ _, fun k he => he.elim, by omega, id, by omega⟩
      have HQ := Aside0.mk hQ
      have HR := Aside0.mk hR
      clear hQ hR q b b2
      generalize w2.alloc (.cells #[.slice none 0 0, .int .i64 items, .int .i64 size, .int .u64 0] 32) = w3 at *
      generalize w2.heap.size = rb at *
      go_loopw [11] (fun i wr => ∃ (k d : Nat) (D E : Nat → Prop) (xs : List It) (Ar : Option Addr) (nr cr : Nat), i = .int .i64 k ∧ k ≤ n ∧ d ≤ k ∧ Aside0 (SQ w wr w.heap.size D xs items size d) ∧ Aside0 (SR w wr D E rb Ar nr cr xs items size d)) (fun i _ => n - (intOf i).toNat)
      case atStart => exact ⟨0, 0, _, _, [], none, 0, 0, rfl, Nat.zero_le _, Nat.zero_le _, HQ, HR⟩
      case round =>
        obtain ⟨k, d, D, E, xs, Ar, nr, cr, rfl, hk, hdk, HQk, HRk⟩ := hrel
        clear HQ HR
        by_cases hlt : k < n
        · obtain ⟨ad, rfl, hadb, hacts⟩ := HA.out.2 (by omega)
          have hkl : k < l.length := by have := HNL.out; omega
          have hac := hacts k l[k] (List.getElem?_eq_getElem hkl)
          have HAC := Aside0.mk hac
          have HACM := Aside0.mk (HLD.out _ (List.getElem_mem hkl))
          generalize l[k] = ac at *
          clear hac hacts
          obtain ⟨A1, n1, c1, x0, x1, x2, x3, hd⟩ := HAC.out
          have HB := HQk.out.bel
          have y1 := (HB.cell (p := ⟨(ad.add (k * 4)).block, (ad.add (k * 4)).off + 1, none⟩) (by rw [ad_block]; exact hadb)).trans x1
          have y2 := (HB.cell (p := ⟨(ad.add (k * 4)).block, (ad.add (k * 4)).off + 1 + 1, none⟩) (by rw [ad_block]; exact hadb)).trans x2
          have y3 := (HB.cell (p := ⟨(ad.add (k * 4)).block, (ad.add (k * 4)).off + 1 + 2, none⟩) (by rw [ad_block]; exact hadb)).trans x3
          have HD := Aside0.mk (hd.step fun k' hk' hD => ⟨HB.block k' hD, hD⟩ : Dat wr (fun k => k < w.heap.size) A1 n1 ac.data)
          have hsz : (ad.add (k * 4)).block < wr.heap.size := by rw [ad_block]; exact Nat.lt_of_lt_of_le hadb HB.size
          clear HB x0 x1 x2 x3 hd
          go_upto_region 14 with (fail)
          have hbx := blk_new wr (.cells #[.int .u64 ac.no, .int .i64 ac.size, .slice none 0 0] 37)
          have hb4 := below_alloc (Below.refl wr.heap.size wr) (.cells #[.int .u64 ac.no, .int .i64 ac.size, .slice none 0 0] 37)
          have hs4 : (wr.alloc (.cells #[.int .u64 ac.no, .int .i64 ac.size, .slice none 0 0] 37)).heap.size = wr.heap.size + 1 := by simp
          generalize wr.alloc (.cells #[.int .u64 ac.no, .int .i64 ac.size, .slice none 0 0] 37) = w4 at *
          have s3 : w4.drew.cell? ⟨(ad.add (k * 4)).block, (ad.add (k * 4)).off + 1 + 2, none⟩ = some (.slice A1 n1 c1) := (hb4.cell (p := ⟨(ad.add (k * 4)).block, (ad.add (k * 4)).off + 1 + 2, none⟩) hsz).trans y3
          have HD4 : Aside0 (Dat w4.drew (fun k => k < w.heap.size) A1 n1 ac.data) := ⟨HD.out.below (below_drew hb4)⟩
          have HBX4 : Aside0 (w4.drew.heap[wr.heap.size]? = some (.cells #[.int .u64 ac.no, .int .i64 ac.size, .slice none 0 0] 37 (0, 0))) := ⟨hbx⟩
          have HB4 := Aside0.mk hb4
          have HS4 := Aside0.mk hs4
          obtain ⟨bx, hbe⟩ : ∃ bx, Aside0 (wr.heap.size = bx) := ⟨_, ⟨rfl⟩⟩
          rw [hbe.out] at HBX4 HS4 ⊢
          obtain ⟨d0, d1, d2, d3, d4, d5⟩ := cells3 HBX4.out
          clear hbx hb4 hs4 y1 y2 y3 hsz
          go_cut [12] (fun a wc => a = .pointer (some ⟨bx, 0, none⟩) ∧ ∃ Ax cx, Aside0 (SX wc (fun k => bx < k) bx ⟨ac.no, ac.size, ac.data⟩ Ax n1 cx) ∧ Aside0 (Below wr.heap.size wr wc))
          case first =>
            go_region_law (refine step_append_bytes rfl _ _ rfl (by rfl) _ A1 n1 c1 ac.data (by rfl) HD4.out (by have := HACM.out; omega) ?_; intro A' c' w' hd' hb'; have hx' := blk_below HBX4.out hb'; have HX' := Aside0.mk hx'; have HD' := Aside0.mk hd'; have HB' := Aside0.mk hb'; obtain ⟨f0, f1, f2, f3, f4, f5⟩ := cells3 hx'; clear hx' hd' hb')
            all_goals (go_wp2_with fail; go_meet)
            all_goals
              have hw := HS4.out
              have hf : ∀ k, bx < k → (w'.setCell ⟨bx, 2, none⟩ (.slice A' n1 c')).heap[k]? = w'.heap[k]? := fun k hk => heap_far (by omega)
              refine ⟨rfl, A', c', ⟨blk_put HX'.out 2 _ rfl, HD'.out.step fun k hk hP => ?_⟩, ⟨below_put (below_step HB4.out ((below_drew (Below.refl _ _)).trans HB'.out)) (Nat.le_of_eq hbe.out)⟩⟩
              have hk' : bx < k := by have h2 : w4.heap.size ≤ k := hP.1; omega
              exact ⟨hf k hk', hk', hP.2.same (hf k hk')⟩
          case rest =>
            obtain ⟨rfl, Ax, cx, HX, HBC⟩ := hcut
            have HQ1 := Aside0.mk (HQk.out.below HBC.out)
            have HR1 := Aside0.mk (HRk.out.below HBC.out)
            have hDb : ∀ k, D k → k < bx := fun k hk => by have := (HQk.out.dB k hk).2; have := hbe.out; omega
            have hEb : ∀ k, E k → k < bx := fun k hk => by have := (HRk.out.eD k hk).2; have := hbe.out; omega
            have hrb : rb < bx := by have := blk_lt HRk.out.box; have := hbe.out; omega
            have HDb := Aside0.mk hDb
            have HEb := Aside0.mk hEb
            have z0 := (HQ1.out.bel.cell (p := ad.add (k * 4)) (by rw [ad_block]; exact hadb)).trans (show w.cell? (ad.add (k * 4)) = _ from (HAC.out).choose_spec.choose_spec.choose_spec.1)
            obtain ⟨pk, hpk⟩ : ∃ q : Int, Aside0 (ac.do_ % 8 = q) := ⟨_, ⟨rfl⟩⟩
            clear HQk HRk HB4 HBX4 HD4 d0 d1 d2 d3 d4 d5 s3 hDb hEb
            go_wp2_with fail
            refine (pick_any ac.do_ 8 (by decide) (by decide) _).mono ?_
            rintro e w1 ⟨rfl, rfl⟩
            rw [hpk.out]
            by_cases hpop : pk = 4 ∨ pk = 5
            · have pz : (pk == 4) = true ∨ ((pk == 4) = false ∧ (pk == 5) = true) := by
                rcases hpop with rfl | rfl <;> decide
              clear hpop
              rcases xs with _ | ⟨x, xs⟩
              ·
                obtain rfl : nr = 0 := HR1.out.r.1
                obtain ⟨⟨t0, t1, t2, t3⟩, _⟩ := cells4 HR1.out.box
                rcases pz with p4 | ⟨p4, p5⟩
                all_goals
                  go_wp2_with (go_at_call 12; refine (rpop_nil Ar cr items size d _).mono ?_; rintro e w2 ⟨rfl, b2⟩)
                  clear t0 t1 t2 t3
                  have HSZ2 := Aside0.mk (Nat.lt_of_lt_of_le (blk_lt HX.out.box) b2.size)
                  obtain ⟨wB, ewB⟩ : ∃ wB, wB = (w2.alloc (.cells #[.slice Ar 0 cr, .int .i64 items, .int .i64 size, .int .u64 d] 32)).alloc (.cells #[.int .u64 0, .int .i64 0, .string (strOf (⟨0, 0, []⟩ : It).data)] 42) := ⟨_, rfl⟩
                  rw [show (w2.alloc (.cells #[.slice Ar 0 cr, .int .i64 items, .int .i64 size, .int .u64 d] 32)).alloc (.cells #[.int .u64 0, .int .i64 0, .string ⟨#[]⟩] 42) = wB from ewB.symm]
                  have hbs : wB.heap[w2.heap.size]? = some (.cells #[.slice Ar 0 cr, .int .i64 items, .int .i64 size, .int .u64 d] 32 (0, 0)) := by
                    rw [ewB, Below.heap_alloc _ _ _ (by simp)]
                    exact blk_new _ _
                  have hby : wB.heap[w2.heap.size + 1]? = some (.cells #[.int .u64 (⟨0, 0, []⟩ : It).no, .int .i64 (⟨0, 0, []⟩ : It).size, .string (strOf (⟨0, 0, []⟩ : It).data)] 42 (0, 0)) := by
                    rw [ewB]
                    simpa using blk_new (w2.alloc (.cells #[.slice Ar 0 cr, .int .i64 items, .int .i64 size, .int .u64 d] 32)) (.cells #[.int .u64 (⟨0, 0, []⟩ : It).no, .int .i64 (⟨0, 0, []⟩ : It).size, .string (strOf (⟨0, 0, []⟩ : It).data)] 42)
                  have hbB : Below w2.heap.size w2 wB := by
                    rw [ewB]
                    exact below_alloc (below_alloc (Below.refl _ _) _) _
                  clear ewB
                  have HQB := Aside0.mk ((HQ1.out.below b2).below hbB)
                  have HRB := Aside0.mk ((HR1.out.below b2).below hbB)
                  have hnD : ∀ k, bx < k → ¬ D k := fun k hk hD => by have := HDb.out k hD; omega
                  refine (pop_none _ _ HQB.out.q.empty).mono ?_
                  rintro e w3 ⟨rfl, b3⟩
                  have HQ3 := Aside0.mk (HQB.out.below b3)
                  have HR3 := Aside0.mk (HRB.out.below b3)
                  have HRR3 := Aside0.mk HR3.out.r
                  have hbs3 := blk_below hbs b3
                  have hby3 := blk_below hby b3
                  have hzb := blk_new w3 (.cells #[.int .u64 (⟨0, 0, []⟩ : It).no, .int .i64 (⟨0, 0, []⟩ : It).size, .slice none 0 0] 37)
                  have hb5 := below_alloc (Below.refl w3.heap.size w3) (.cells #[.int .u64 (⟨0, 0, []⟩ : It).no, .int .i64 (⟨0, 0, []⟩ : It).size, .slice none 0 0] 37)
                  go_upto_region 28 with (fail)
                  generalize hw5 : w3.alloc (.cells #[.int .u64 0, .int .i64 0, .slice none 0 0] 37) = w5 at *
                  have HB5 := Aside0.mk hb5
                  have HQ5 := Aside0.mk (HQ3.out.below hb5)
                  have HR5 := Aside0.mk (HR3.out.below hb5)
                  have HRR5 := Aside0.mk (HRR3.out.below hb5)
                  have HBS5 := Aside0.mk (blk_below hbs3 hb5)
                  have HBY5 := Aside0.mk (blk_below hby3 hb5)
                  have HBZ5 := Aside0.mk hzb
                  have HIC := Aside0.mk (fun W (hW : Below w5.heap.size w5 W) => item_any (fun _ => True) none 0 0 (⟨0, 0, []⟩ : It) W ((dat_nil w5 _).below hW))
                  have HSB : Aside0 (∀ W, Below w5.heap.size w5 W → W.cell? ⟨w3.heap.size, 0, none⟩ = some (.int .u64 (⟨0, 0, []⟩ : It).no) ∧ W.cell? ⟨w3.heap.size, 1, none⟩ = some (.int .i64 (⟨0, 0, []⟩ : It).size) ∧ W.cell? ⟨w3.heap.size, 2, none⟩ = some (.slice none 0 0) ∧ W.cell? ⟨w2.heap.size + 1, 0, none⟩ = some (.int .u64 (⟨0, 0, []⟩ : It).no) ∧ W.cell? ⟨w2.heap.size + 1, 1, none⟩ = some (.int .i64 (⟨0, 0, []⟩ : It).size) ∧ W.cell? ⟨w2.heap.size + 1, 2, none⟩ = some (.string (strOf (⟨0, 0, []⟩ : It).data))) := ⟨fun W hW => by
                    obtain ⟨a0, a1, a2, _⟩ := cells3 (blk_below HBZ5.out hW)
                    obtain ⟨b0, b1, b2, _⟩ := cells3 (blk_below HBY5.out hW)
                    exact ⟨a0, a1, a2, b0, b1, b2⟩⟩
                  have hnq := fun W => neq_same (⟨0, 0, []⟩ : It) W
                  have y6 := HSB.out w5.drew (below_drew (Below.refl _ _))
                  have HIM := Aside0.mk ((HIC.out w5.drew (below_drew (Below.refl _ _))).mono (R' := fun e w' => e = .returned (riV (⟨0, 0, []⟩ : It)) ∧ Below w5.heap.size w5 w' ∧ (w'.cell? ⟨w3.heap.size, 0, none⟩ = some (.int .u64 (⟨0, 0, []⟩ : It).no) ∧ w'.cell? ⟨w3.heap.size, 1, none⟩ = some (.int .i64 (⟨0, 0, []⟩ : It).size) ∧ w'.cell? ⟨w3.heap.size, 2, none⟩ = some (.slice none 0 0) ∧ w'.cell? ⟨w2.heap.size + 1, 0, none⟩ = some (.int .u64 (⟨0, 0, []⟩ : It).no) ∧ w'.cell? ⟨w2.heap.size + 1, 1, none⟩ = some (.int .i64 (⟨0, 0, []⟩ : It).size) ∧ w'.cell? ⟨w2.heap.size + 1, 2, none⟩ = some (.string (strOf (⟨0, 0, []⟩ : It).data))))
                    (fun e w' hh => by
                      have hb := (below_drew (Below.refl w5.heap.size w5)).trans hh.2
                      exact ⟨hh.1, hb, HSB.out w' hb⟩))
                  obtain ⟨f0, f1, f2, f3, f4, f5⟩ := id y6
                  clear hzb hb5 hbs3 hby3 hnD
                  go_region_held3 (fun W => W.cell? ⟨w3.heap.size, 0, none⟩ = some (.int .u64 (⟨0, 0, []⟩ : It).no) ∧ W.cell? ⟨w3.heap.size, 1, none⟩ = some (.int .i64 (⟨0, 0, []⟩ : It).size) ∧ W.cell? ⟨w3.heap.size, 2, none⟩ = some (.slice none 0 0) ∧ W.cell? ⟨w2.heap.size + 1, 0, none⟩ = some (.int .u64 (⟨0, 0, []⟩ : It).no) ∧ W.cell? ⟨w2.heap.size + 1, 1, none⟩ = some (.int .i64 (⟨0, 0, []⟩ : It).size) ∧ W.cell? ⟨w2.heap.size + 1, 2, none⟩ = some (.string (strOf (⟨0, 0, []⟩ : It).data)))
                    (first | (with_reducible exact s7) | (with_reducible exact y6) | fail)
                    (first | (go_at_call 14; refine HIM.out.mono ?_; rintro e w7 ⟨rfl, hb7, s7⟩))
                  all_goals
                    clear y6 f0 f1 f2 f3 f4 f5 s7
                    have HQ7 := Aside0.mk (HQ5.out.below hb7)
                    have HR7 := Aside0.mk (HR5.out.below hb7)
                    have HRR7 := Aside0.mk (HRR5.out.below hb7)
                    obtain ⟨⟨e0, e1, e2, e3⟩, _⟩ := cells4 (blk_below HBS5.out hb7)
                    obtain ⟨⟨t0, t1, t2, t3⟩, ⟨u0, u1, u2, u3⟩⟩ := cells4 HR7.out.box
                    clear hb7
                    go_wp2_with fail
                    have HQT := Aside0.mk (HQ7.out.touch (W' := put4 w7 rb (.slice Ar 0 cr) (.int .i64 items) (.int .i64 size) (.int .u64 d)) (fun k hD => put4_far (by rintro rfl; exact HR7.out.rD hD)) (Nat.le_of_eq put4_size.symm) (put4_below HQ7.out.bel HR7.out.rB))
                    have HRT := Aside0.mk (HR7.out.put4 (drops' := d) (c' := cr) HRR7.out (Nat.zero_le _) HR7.out.eD HR7.out.rE)
                    refine (is_any _ _ w.heap.size _ items size _ _ _ _ _ HQT.out.q HQT.out.ok HQT.out.few HRT.out.r HRT.out.le).mono ?_
                    rintro e w9 ⟨rfl, b9⟩
                    go_wp2_with fail
                    go_roundw
                    case rel => exact ⟨k + 1, d, _, _, [], Ar, 0, cr, by go_num, by omega, by omega, ⟨HQT.out.below b9⟩, ⟨HRT.out.below b9⟩⟩
                    case measure => simp [intOf]; omega
              ·
                have hxl : x.data.length ≤ 65536 := HQ1.out.few x List.mem_cons_self
                have HXL := Aside0.mk hxl
                clear hxl
                obtain ⟨⟨t0, t1, t2, t3⟩, _⟩ := cells4 HR1.out.box
                rcases pz with p4 | ⟨p4, p5⟩
                all_goals
                  go_wp2_with (go_at_call 12; refine (rpop_cons E Ar nr cr x xs items size d _ HR1.out.r HR1.out.le).mono ?_; rintro e w2 ⟨A2, n2, c2, rfl, hr2, hnc2, b2⟩)
                  clear t0 t1 t2 t3
                  have HSZ2 := Aside0.mk (Nat.lt_of_lt_of_le (blk_lt HX.out.box) b2.size)
                  obtain ⟨wB, ewB⟩ : ∃ wB, wB = (w2.alloc (.cells #[.slice A2 n2 c2, .int .i64 items, .int .i64 size, .int .u64 d] 32)).alloc (.cells #[.int .u64 x.no, .int .i64 x.size, .string (strOf x.data)] 42) := ⟨_, rfl⟩
                  rw [← ewB]
                  have hbs : wB.heap[w2.heap.size]? = some (.cells #[.slice A2 n2 c2, .int .i64 items, .int .i64 size, .int .u64 d] 32 (0, 0)) := by
                    rw [ewB, Below.heap_alloc _ _ _ (by simp)]
                    exact blk_new _ _
                  have hby : wB.heap[w2.heap.size + 1]? = some (.cells #[.int .u64 x.no, .int .i64 x.size, .string (strOf x.data)] 42 (0, 0)) := by
                    rw [ewB]
                    simpa using blk_new (w2.alloc (.cells #[.slice A2 n2 c2, .int .i64 items, .int .i64 size, .int .u64 d] 32)) (.cells #[.int .u64 x.no, .int .i64 x.size, .string (strOf x.data)] 42)
                  have hbB : Below w2.heap.size w2 wB := by
                    rw [ewB]
                    exact below_alloc (below_alloc (Below.refl _ _) _) _
                  clear ewB
                  have HQB := Aside0.mk ((HQ1.out.below b2).below hbB)
                  have HRB := Aside0.mk ((HR1.out.below b2).below hbB)
                  have hnD : ∀ k, bx < k → ¬ D k := fun k hk hD => by have := HDb.out k hD; omega
                  refine (pop_some D _ x xs items size d _ HQB.out.q HQB.out.ok HXL.out).mono ?_
                  rintro e w3 ⟨A3, n3, c3, rfl, hd3, q3, k3⟩
                  have HQ3 := Aside0.mk (HQB.out.keep (q3.step fun _ _ h => ⟨rfl, .inl h⟩) k3 HQB.out.ok.pop HQB.out.few.pop)
                  have HR3 := Aside0.mk (HRB.out.keep k3)
                  have HRR3 := Aside0.mk ((hr2.below hbB).step (W' := w3) (E' := E) fun k hl hE => ⟨k3.block k hl (HRB.out.eD k hE).1, hE⟩)
                  have hbs3 := (k3.block _ (blk_lt hbs) (hnD _ HSZ2.out)).trans hbs
                  have hby3 := (k3.block _ (blk_lt hby) (hnD _ (by have := HSZ2.out; omega))).trans hby
                  have HD3 := Aside0.mk hd3
                  clear q3 k3 hd3
                  have hzb := blk_new w3 (.cells #[.int .u64 x.no, .int .i64 x.size, .slice A3 n3 c3] 37)
                  have hb5 := below_alloc (Below.refl w3.heap.size w3) (.cells #[.int .u64 x.no, .int .i64 x.size, .slice A3 n3 c3] 37)
                  go_upto_region 28 with (fail)
                  generalize hw5 : w3.alloc (.cells #[.int .u64 x.no, .int .i64 x.size, .slice A3 n3 c3] 37) = w5 at *
                  have HB5 := Aside0.mk hb5
                  have HQ5 := Aside0.mk (HQ3.out.below hb5)
                  have HR5 := Aside0.mk (HR3.out.below hb5)
                  have HRR5 := Aside0.mk (HRR3.out.below hb5)
                  have HBS5 := Aside0.mk (blk_below hbs3 hb5)
                  have HBY5 := Aside0.mk (blk_below hby3 hb5)
                  have HBZ5 := Aside0.mk hzb
                  have HIC := Aside0.mk (fun W (hW : Below w5.heap.size w5 W) => item_any (fun _ => True) A3 n3 c3 x W (((HD3.out.more (D' := fun _ => True) fun _ _ => trivial).below HB5.out).below hW))
                  have HSB : Aside0 (∀ W, Below w5.heap.size w5 W → W.cell? ⟨w3.heap.size, 0, none⟩ = some (.int .u64 x.no) ∧ W.cell? ⟨w3.heap.size, 1, none⟩ = some (.int .i64 x.size) ∧ W.cell? ⟨w3.heap.size, 2, none⟩ = some (.slice A3 n3 c3) ∧ W.cell? ⟨w2.heap.size + 1, 0, none⟩ = some (.int .u64 x.no) ∧ W.cell? ⟨w2.heap.size + 1, 1, none⟩ = some (.int .i64 x.size) ∧ W.cell? ⟨w2.heap.size + 1, 2, none⟩ = some (.string (strOf x.data))) := ⟨fun W hW => by
                    obtain ⟨a0, a1, a2, _⟩ := cells3 (blk_below HBZ5.out hW)
                    obtain ⟨b0, b1, b2, _⟩ := cells3 (blk_below HBY5.out hW)
                    exact ⟨a0, a1, a2, b0, b1, b2⟩⟩
                  have hnq := fun W => neq_same x W
                  have y6 := HSB.out w5.drew (below_drew (Below.refl _ _))
                  have HIM := Aside0.mk ((HIC.out w5.drew (below_drew (Below.refl _ _))).mono (R' := fun e w' => e = .returned (riV x) ∧ Below w5.heap.size w5 w' ∧ (w'.cell? ⟨w3.heap.size, 0, none⟩ = some (.int .u64 x.no) ∧ w'.cell? ⟨w3.heap.size, 1, none⟩ = some (.int .i64 x.size) ∧ w'.cell? ⟨w3.heap.size, 2, none⟩ = some (.slice A3 n3 c3) ∧ w'.cell? ⟨w2.heap.size + 1, 0, none⟩ = some (.int .u64 x.no) ∧ w'.cell? ⟨w2.heap.size + 1, 1, none⟩ = some (.int .i64 x.size) ∧ w'.cell? ⟨w2.heap.size + 1, 2, none⟩ = some (.string (strOf x.data))))
                    (fun e w' hh => by
                      have hb := (below_drew (Below.refl w5.heap.size w5)).trans hh.2
                      exact ⟨hh.1, hb, HSB.out w' hb⟩))
                  obtain ⟨f0, f1, f2, f3, f4, f5⟩ := id y6
                  clear hzb hb5 hbs3 hby3 hnD
                  go_region_held3 (fun W => W.cell? ⟨w3.heap.size, 0, none⟩ = some (.int .u64 x.no) ∧ W.cell? ⟨w3.heap.size, 1, none⟩ = some (.int .i64 x.size) ∧ W.cell? ⟨w3.heap.size, 2, none⟩ = some (.slice A3 n3 c3) ∧ W.cell? ⟨w2.heap.size + 1, 0, none⟩ = some (.int .u64 x.no) ∧ W.cell? ⟨w2.heap.size + 1, 1, none⟩ = some (.int .i64 x.size) ∧ W.cell? ⟨w2.heap.size + 1, 2, none⟩ = some (.string (strOf x.data)))
                    (first | (with_reducible exact s7) | (with_reducible exact y6) | fail)
                    (first | (go_at_call 14; refine HIM.out.mono ?_; rintro e w7 ⟨rfl, hb7, s7⟩))
                  all_goals
                    clear y6 f0 f1 f2 f3 f4 f5 s7
                    have HQ7 := Aside0.mk (HQ5.out.below hb7)
                    have HR7 := Aside0.mk (HR5.out.below hb7)
                    have HRR7 := Aside0.mk (HRR5.out.below hb7)
                    obtain ⟨⟨e0, e1, e2, e3⟩, _⟩ := cells4 (blk_below HBS5.out hb7)
                    obtain ⟨⟨t0, t1, t2, t3⟩, ⟨u0, u1, u2, u3⟩⟩ := cells4 HR7.out.box
                    clear hb7
                    go_wp2_with fail
                    have HQT := Aside0.mk (HQ7.out.touch (W' := put4 w7 rb (.slice A2 n2 c2) (.int .i64 items) (.int .i64 size) (.int .u64 d)) (fun k hD => put4_far (by rintro rfl; exact HR7.out.rD hD)) (Nat.le_of_eq put4_size.symm) (put4_below HQ7.out.bel HR7.out.rB))
                    have HRT := Aside0.mk (HR7.out.put4 (drops' := d) (c' := c2) HRR7.out hnc2 HR7.out.eD HR7.out.rE)
                    refine (is_any _ _ w.heap.size _ items size _ _ _ _ _ HQT.out.q HQT.out.ok HQT.out.few HRT.out.r HRT.out.le).mono ?_
                    rintro e w9 ⟨rfl, b9⟩
                    go_wp2_with fail
                    go_roundw
                    case rel => exact ⟨k + 1, d, _, _, xs, A2, n2, c2, by go_num, by omega, by omega, ⟨HQT.out.below b9⟩, ⟨HRT.out.below b9⟩⟩
                    case measure => simp [intOf]; omega
            · by_cases hp6 : pk = 6
              · subst hp6
                clear hpop
                obtain ⟨d0, d1, d2, d3, d4, d5⟩ := cells3 HX.out.box
                obtain ⟨⟨t0, t1, t2, t3⟩, ⟨u0, u1, u2, u3⟩⟩ := cells4 HR1.out.box
                have HSB : Aside0 (∀ W, Below wc.heap.size wc W → W.cell? ⟨bx, 1, none⟩ = some (.int .i64 ac.size) ∧ W.cell? ⟨rb, 0, none⟩ = some (.slice Ar nr cr) ∧ W.cell? ⟨rb, 1, none⟩ = some (.int .i64 items) ∧ W.cell? ⟨rb, 2, none⟩ = some (.int .i64 size) ∧ W.cell? ⟨rb, 3, none⟩ = some (.int .u64 d)) := ⟨fun W hW => by
                  obtain ⟨a0, a1, a2, _⟩ := cells3 (blk_below HX.out.box hW)
                  obtain ⟨⟨b0, b1, b2, b3⟩, _⟩ := cells4 (blk_below HR1.out.box hW)
                  exact ⟨a1, b0, b1, b2, b3⟩⟩
                have HRO := Aside0.mk (fun W (hW : Below wc.heap.size wc W) => (room_any D _ xs items size d ac.size W (HQ1.out.q.below hW) HQ1.out.ok).mono (R' := fun e w' => e = .returned (.bool (roomB xs.length items (sz xs) size ac.size)) ∧ Below wc.heap.size wc w' ∧ (w'.cell? ⟨bx, 1, none⟩ = some (.int .i64 ac.size) ∧ w'.cell? ⟨rb, 0, none⟩ = some (.slice Ar nr cr) ∧ w'.cell? ⟨rb, 1, none⟩ = some (.int .i64 items) ∧ w'.cell? ⟨rb, 2, none⟩ = some (.int .i64 size) ∧ w'.cell? ⟨rb, 3, none⟩ = some (.int .u64 d)))
                  (fun e w' hh => by
                    have hb := below_step hW hh.2
                    exact ⟨hh.1, hb, HSB.out w' hb⟩))
                have HRR := Aside0.mk (fun W (hW : Below wc.heap.size wc W) => (rroom_any E Ar nr cr xs items size d ac.size W (HR1.out.r.below hW) HQ1.out.ok).mono (R' := fun e w' => e = .returned (.bool (roomB xs.length items (sz xs) size ac.size)) ∧ Below wc.heap.size wc w' ∧ (w'.cell? ⟨bx, 1, none⟩ = some (.int .i64 ac.size) ∧ w'.cell? ⟨rb, 0, none⟩ = some (.slice Ar nr cr) ∧ w'.cell? ⟨rb, 1, none⟩ = some (.int .i64 items) ∧ w'.cell? ⟨rb, 2, none⟩ = some (.int .i64 size) ∧ w'.cell? ⟨rb, 3, none⟩ = some (.int .u64 d)))
                  (fun e w' hh => by
                    have hb := below_step hW hh.2
                    exact ⟨hh.1, hb, HSB.out w' hb⟩))
                have y6 := HSB.out wc.drew (below_drew (Below.refl _ _))
                obtain ⟨f0, f1, f2, f3, f4⟩ := id y6
                go_upto_region 32 with (fail)
                go_region_held3 (fun W => W.cell? ⟨bx, 1, none⟩ = some (.int .i64 ac.size) ∧ W.cell? ⟨rb, 0, none⟩ = some (.slice Ar nr cr) ∧ W.cell? ⟨rb, 1, none⟩ = some (.int .i64 items) ∧ W.cell? ⟨rb, 2, none⟩ = some (.int .i64 size) ∧ W.cell? ⟨rb, 3, none⟩ = some (.int .u64 d))
                  (first | (with_reducible exact s8) | (with_reducible exact s7) | (with_reducible exact y6) | fail)
                  (first | (go_at_call 15; refine (HRO.out _ (below_drew (Below.refl _ _))).mono ?_; rintro e w7 ⟨rfl, hb7, s7⟩) | (go_at_call 16; refine (HRR.out _ hb7).mono ?_; rintro e w8 ⟨rfl, hb8, s8⟩))
                all_goals
                  clear y6 f0 f1 f2 f3 f4 s7 s8 hb7
                  have HQT := Aside0.mk (HQ1.out.below hb8)
                  have HRT := Aside0.mk (HR1.out.below hb8)
                  clear hb8
                  obtain ⟨⟨t0, t1, t2, t3⟩, ⟨u0, u1, u2, u3⟩⟩ := cells4 HRT.out.box
                  have HIS := Aside0.mk (is_any _ _ w.heap.size _ items size _ _ _ _ _ HQT.out.q HQT.out.ok HQT.out.few HRT.out.r HRT.out.le)
                  go_wp2_with fail
                  refine HIS.out.mono ?_
                  rintro e w9 ⟨rfl, b9⟩
                  go_wp2_with fail
                  go_roundw
                  case rel => exact ⟨k + 1, d, _, _, xs, Ar, nr, cr, by go_num, by omega, by omega, ⟨HQT.out.below b9⟩, ⟨HRT.out.below b9⟩⟩
                  case measure => simp [intOf]; omega
              · by_cases hp7 : pk = 7
                · subst hp7
                  clear hpop hp6
                  by_cases hno : ac.no.tmod 16 = 0
                  ·
                    obtain ⟨d0, d1, d2, d3, d4, d5⟩ := cells3 HX.out.box
                    obtain ⟨⟨t0, t1, t2, t3⟩, ⟨u0, u1, u2, u3⟩⟩ := cells4 HR1.out.box
                    have HLN := Aside0.mk HR1.out.r.1
                    have HCL : Aside0 (Calls Try.prog 17 #[.pointer (some ⟨w.heap.size, 0, none⟩)] wc.drew fun e w' => e = .returned (.int .i64 nr) ∧ (Fq w' D w.heap.size [] items size d ∧ KeepD wc.drew w' D) ∧ w'.cell? ⟨rb, 0, none⟩ = some (.slice Ar nr cr)) :=
                      ⟨(clear_any D _ xs items size d wc.drew (HQ1.out.q.below (below_drew (Below.refl _ _)))).mono fun e w' ⟨h1, h2, h3⟩ => ⟨by rw [h1, HLN.out], ⟨h2, h3⟩, (World.cell?_of_block (w := wc) (h3.block rb (blk_lt HR1.out.box) HR1.out.rD)).trans t0⟩⟩
                    have y6 : wc.drew.cell? ⟨rb, 0, none⟩ = some (.slice Ar nr cr) := t0
                    go_upto_region 36 with (fail)
                    go_region_held3 (fun W => W.cell? ⟨rb, 0, none⟩ = some (.slice Ar nr cr))
                      (first | (with_reducible exact s7) | (with_reducible exact y6) | fail)
                      (first | (go_at_call 17; refine HCL.out.mono ?_; rintro e w7 ⟨rfl, ⟨q7, k7⟩, s7⟩))
                    all_goals
                      have HQ7 := Aside0.mk ((HQ1.out.below (below_drew (Below.refl _ _))).keep (q7.step fun _ _ h => ⟨rfl, .inl h⟩) k7 HQ1.out.ok.clear Few.nil)
                      have HR7 := Aside0.mk ((HR1.out.below (below_drew (Below.refl _ _))).keep k7)
                      clear y6 s7 t0 t1 t2 t3 u0 u1 u2 u3 q7 k7
                      obtain ⟨⟨t0, t1, t2, t3⟩, ⟨u0, u1, u2, u3⟩⟩ := cells4 HR7.out.box
                      have HQT := Aside0.mk (HQ7.out.touch (W' := w7.setCell ⟨rb, 0, none⟩ (.slice none 0 0)) (fun k hD => heap_far (by rintro rfl; exact HR7.out.rD hD)) (Nat.le_of_eq (by simp [World.setCell])) (below_put HQ7.out.bel HR7.out.rB))
                      have HRT := Aside0.mk HR7.out.nil_
                      have HIS := Aside0.mk (is_any _ _ w.heap.size _ items size _ _ _ _ _ HQT.out.q HQT.out.ok HQT.out.few HRT.out.r HRT.out.le)
                      go_wp2_with fail
                      refine HIS.out.mono ?_
                      rintro e w9 ⟨rfl, b9⟩
                      go_wp2_with fail
                      go_roundw
                      case rel => exact ⟨k + 1, d, _, _, [], none, 0, 0, by go_num, by omega, by omega, ⟨HQT.out.below b9⟩, ⟨HRT.out.below b9⟩⟩
                      case measure => simp [intOf]; omega
                  ·
                    obtain ⟨d0, d1, d2, d3, d4, d5⟩ := cells3 HX.out.box
                    have HQT := HQ1
                    have HRT := HR1
                    obtain ⟨⟨t0, t1, t2, t3⟩, ⟨u0, u1, u2, u3⟩⟩ := cells4 HRT.out.box
                    go_wp2_with fail
                    have HIS := Aside0.mk (is_any _ _ w.heap.size _ items size _ _ _ _ _ HQT.out.q HQT.out.ok HQT.out.few HRT.out.r HRT.out.le)
                    go_wp2_with fail
                    refine HIS.out.mono ?_
                    rintro e w9 ⟨rfl, b9⟩
                    go_wp2_with fail
                    go_roundw
                    case rel => exact ⟨k + 1, d, _, _, xs, Ar, nr, cr, by go_num, by omega, by omega, ⟨HQT.out.below b9⟩, ⟨HRT.out.below b9⟩⟩
                    case measure => simp [intOf]; omega
                · have p4 : (pk == 4) = false := by simpa using fun h => hpop (.inl h)
                  have p5 : (pk == 5) = false := by simpa using fun h => hpop (.inr h)
                  have p6 : (pk == 6) = false := by simpa using hp6
                  have p7 : (pk == 7) = false := by simpa using hp7
                  clear hpop hp6 hp7
                  obtain ⟨wq, hwq⟩ : ∃ wq, wq = wc := ⟨_, rfl⟩
                  subst hwq
                  obtain ⟨e1, xs1, d1, hP, hd1⟩ := pushR_nat xs items size d ⟨ac.no, ac.size, ac.data⟩
                  have hok1 := HQ1.out.ok.push ⟨ac.no, ac.size, ac.data⟩ (by omega)
                  have hfw1 := HQ1.out.few.push (items := items) (bound := size) (drops := d) (x := ⟨ac.no, ac.size, ac.data⟩) (by have := HACM.out; show ac.data.length ≤ 65536; omega)
                  rw [hP] at hok1 hfw1
                  have HOK1 := Aside0.mk hok1
                  have HFW1 := Aside0.mk hfw1
                  have HPP := Aside0.mk hP
                  clear hok1 hfw1 hP
                  obtain ⟨d0, d1', d2, d3, d4, d5⟩ := cells3 HX.out.box
                  obtain ⟨⟨t0, t1, t2, t3⟩, ⟨u0, u1, u2, u3⟩⟩ := cells4 HR1.out.box
                  have HSB : Aside0 (∀ W, Below wq.heap.size wq W → W.cell? ⟨bx, 0, none⟩ = some (.int .u64 ac.no) ∧ W.cell? ⟨bx, 1, none⟩ = some (.int .i64 ac.size) ∧ W.cell? ⟨bx, 2, none⟩ = some (.slice Ax n1 cx) ∧ W.cell? ⟨rb, 0, none⟩ = some (.slice Ar nr cr) ∧ W.cell? ⟨rb, 1, none⟩ = some (.int .i64 items) ∧ W.cell? ⟨rb, 2, none⟩ = some (.int .i64 size) ∧ W.cell? ⟨rb, 3, none⟩ = some (.int .u64 d)) := ⟨fun W hW => by
                    obtain ⟨a0, a1, a2, _⟩ := cells3 (blk_below HX.out.box hW)
                    obtain ⟨⟨b0, b1, b2, b3⟩, _⟩ := cells4 (blk_below HR1.out.box hW)
                    exact ⟨a0, a1, a2, b0, b1, b2, b3⟩⟩
                  have HIT := Aside0.mk (fun W (hW : Below wq.heap.size wq W) => (item_any (fun _ => True) Ax n1 cx ⟨ac.no, ac.size, ac.data⟩ W (((HX.out.below hW).dat).more fun _ _ => trivial)).mono (R' := fun e w' => e = .returned (riV ⟨ac.no, ac.size, ac.data⟩) ∧ Below wq.heap.size wq w' ∧ Below W.heap.size W w' ∧ (w'.cell? ⟨bx, 0, none⟩ = some (.int .u64 ac.no) ∧ w'.cell? ⟨bx, 1, none⟩ = some (.int .i64 ac.size) ∧ w'.cell? ⟨bx, 2, none⟩ = some (.slice Ax n1 cx) ∧ w'.cell? ⟨rb, 0, none⟩ = some (.slice Ar nr cr) ∧ w'.cell? ⟨rb, 1, none⟩ = some (.int .i64 items) ∧ w'.cell? ⟨rb, 2, none⟩ = some (.int .i64 size) ∧ w'.cell? ⟨rb, 3, none⟩ = some (.int .u64 d)))
                    (fun e w' hh => by
                      have hb := below_step hW hh.2
                      exact ⟨hh.1, hb, hh.2, HSB.out w' hb⟩))
                  have HPR := Aside0.mk (fun W (hW : Below wq.heap.size wq W) => (rpush_any E Ar nr cr ⟨ac.no, ac.size, ac.data⟩ xs items size d W (HR1.out.r.below hW) HR1.out.le HQ1.out.ok (by omega)).mono (R' := fun e w' => ∃ A' n' c', e = .returned (.tuple #[rqV A' n' c' items size d1, .int .i64 e1]) ∧ Aside0 (RRow w' (fun k => (E k ∨ W.heap.size ≤ k) ∧ k < w'.heap.size) A' n' xs1 ∧ n' ≤ c') ∧ Below wq.heap.size wq w' ∧ Below W.heap.size W w' ∧ (w'.cell? ⟨bx, 0, none⟩ = some (.int .u64 ac.no) ∧ w'.cell? ⟨bx, 1, none⟩ = some (.int .i64 ac.size) ∧ w'.cell? ⟨bx, 2, none⟩ = some (.slice Ax n1 cx) ∧ w'.cell? ⟨rb, 0, none⟩ = some (.slice Ar nr cr) ∧ w'.cell? ⟨rb, 1, none⟩ = some (.int .i64 items) ∧ w'.cell? ⟨rb, 2, none⟩ = some (.int .i64 size) ∧ w'.cell? ⟨rb, 3, none⟩ = some (.int .u64 d)))
                    (fun e w' hh => by
                      obtain ⟨A', n', c', h1, h2, h3, h4⟩ := hh
                      have hb := below_step hW h4
                      rw [HPP.out] at h1 h2
                      exact ⟨A', n', c', h1, ⟨h2.step fun k hk hE => ⟨rfl, hE, hk⟩, h3⟩, hb, h4, HSB.out w' hb⟩))
                  have y6 := HSB.out wq.drew (below_drew (Below.refl _ _))
                  obtain ⟨f0, f1, f2, f3, f4, f5, f6⟩ := id y6
                  go_upto_region 16 with (fail)
                  go_cut [18, 19] (fun a b wd => ∃ (bs : Nat) (A2 : Option Addr) (n2 c2 : Nat), a = .pointer (some ⟨bs, 0, none⟩) ∧ b = .int .i64 e1 ∧ Aside0 (bx < bs) ∧ Aside0 (wd.heap[bs]? = some (.cells #[.slice A2 n2 c2, .int .i64 items, .int .i64 size, .int .u64 d1] 32 (0, 0))) ∧ Aside0 (RRow wd (fun k => (E k ∨ wq.heap.size ≤ k) ∧ k < wd.heap.size) A2 n2 xs1 ∧ n2 ≤ c2) ∧ Aside0 (Below wq.heap.size wq wd))
                  case first =>
                    go_region_held3 (fun W => W.cell? ⟨bx, 0, none⟩ = some (.int .u64 ac.no) ∧ W.cell? ⟨bx, 1, none⟩ = some (.int .i64 ac.size) ∧ W.cell? ⟨bx, 2, none⟩ = some (.slice Ax n1 cx) ∧ W.cell? ⟨rb, 0, none⟩ = some (.slice Ar nr cr) ∧ W.cell? ⟨rb, 1, none⟩ = some (.int .i64 items) ∧ W.cell? ⟨rb, 2, none⟩ = some (.int .i64 size) ∧ W.cell? ⟨rb, 3, none⟩ = some (.int .u64 d))
                      (first | (with_reducible exact s8) | (with_reducible exact s7) | (with_reducible exact y6) | exact HSB.out _ (by first | exact below_drew (Below.refl _ _) | exact hb7 | exact below_drew (below_alloc (Below.refl _ _) _) | exact below_alloc hb7 _ | exact below_drew (below_alloc hb7 _) | exact hb8 | exact below_alloc hb8 _ | exact below_put (below_put (below_put (below_put hb8 (by first | exact Nat.le_refl _ | exact hb8.size | exact hb7.size)) (by first | exact Nat.le_refl _ | exact hb8.size | exact hb7.size)) (by first | exact Nat.le_refl _ | exact hb8.size | exact hb7.size)) (by first | exact Nat.le_refl _ | exact hb8.size | exact hb7.size) | exact below_put (below_put (below_put (below_put (below_alloc hb8 _) (by first | exact Nat.le_refl _ | exact hb8.size | exact hb7.size)) (by first | exact Nat.le_refl _ | exact hb8.size | exact hb7.size)) (by first | exact Nat.le_refl _ | exact hb8.size | exact hb7.size)) (by first | exact Nat.le_refl _ | exact hb8.size | exact hb7.size)) | fail)
                      (first | (go_at_call 14; refine (HIT.out _ (by first | exact below_drew (Below.refl _ _) | exact hb7 | exact below_drew (below_alloc (Below.refl _ _) _) | exact below_alloc hb7 _ | exact below_drew (below_alloc hb7 _) | exact hb8 | exact below_alloc hb8 _ | exact below_put (below_put (below_put (below_put hb8 (by first | exact Nat.le_refl _ | exact hb8.size | exact hb7.size)) (by first | exact Nat.le_refl _ | exact hb8.size | exact hb7.size)) (by first | exact Nat.le_refl _ | exact hb8.size | exact hb7.size)) (by first | exact Nat.le_refl _ | exact hb8.size | exact hb7.size) | exact below_put (below_put (below_put (below_put (below_alloc hb8 _) (by first | exact Nat.le_refl _ | exact hb8.size | exact hb7.size)) (by first | exact Nat.le_refl _ | exact hb8.size | exact hb7.size)) (by first | exact Nat.le_refl _ | exact hb8.size | exact hb7.size)) (by first | exact Nat.le_refl _ | exact hb8.size | exact hb7.size))).mono ?_; rintro e w7 ⟨rfl, hb7, hw7, s7⟩; (first | (have hx7 := blk_below (show (wq.alloc (.cells #[.slice none 0 0, .int .i64 0, .int .i64 0, .int .u64 0] 32)).drew.heap[wq.heap.size]? = _ from blk_new wq (.cells #[.slice none 0 0, .int .i64 0, .int .i64 0, .int .u64 0] 32)) hw7; have q7 := cells4 hx7; obtain ⟨⟨p0, p1, p2, p3⟩, ⟨r0, r1, r2, r3⟩⟩ := q7) | skip)) | (go_at_call 18; refine (HPR.out _ (by first | exact below_drew (Below.refl _ _) | exact hb7 | exact below_drew (below_alloc (Below.refl _ _) _) | exact below_alloc hb7 _ | exact below_drew (below_alloc hb7 _) | exact hb8 | exact below_alloc hb8 _ | exact below_put (below_put (below_put (below_put hb8 (by first | exact Nat.le_refl _ | exact hb8.size | exact hb7.size)) (by first | exact Nat.le_refl _ | exact hb8.size | exact hb7.size)) (by first | exact Nat.le_refl _ | exact hb8.size | exact hb7.size)) (by first | exact Nat.le_refl _ | exact hb8.size | exact hb7.size) | exact below_put (below_put (below_put (below_put (below_alloc hb8 _) (by first | exact Nat.le_refl _ | exact hb8.size | exact hb7.size)) (by first | exact Nat.le_refl _ | exact hb8.size | exact hb7.size)) (by first | exact Nat.le_refl _ | exact hb8.size | exact hb7.size)) (by first | exact Nat.le_refl _ | exact hb8.size | exact hb7.size))).mono ?_; rintro e w8 ⟨A2, n2, c2, rfl, hr8, hb8, hw8, s8⟩; (first | (have hx8 := blk_below hx7 hw8; have q8 := cells4 hx8; obtain ⟨⟨p0, p1, p2, p3⟩, ⟨r0, r1, r2, r3⟩⟩ := q8) | (have hx8 := blk_below (blk_new w7 (.cells #[.slice none 0 0, .int .i64 0, .int .i64 0, .int .u64 0] 32)) hw8; have q8 := cells4 hx8; obtain ⟨⟨p0, p1, p2, p3⟩, ⟨r0, r1, r2, r3⟩⟩ := q8) | skip)))
                    all_goals (go_wp2_with fail; go_meet)
                    all_goals
                      have hbxs := blk_lt HX.out.box
                      have h7 := hb7.size
                      have hz8 := hw8.size
                      refine ⟨_, A2, n2, c2, rfl, rfl, ?_, ?_, ?_, ?_⟩
                      · exact ⟨by omega⟩
                      · first
                        | exact ⟨set4 hx8⟩
                        | exact ⟨blk_new _ _⟩
                      · first
                        | with_reducible exact ⟨(hr8.out.1.below (below_alloc (Below.refl _ _) _)).step fun k hk hE => ⟨rfl, hE.1.imp id fun h => Nat.le_trans h7 h, hk⟩, hr8.out.2⟩
                        | (have hlt8 := blk_lt hx8
                           refine ⟨rrow_put hr8.out.1 (fun k hE => ?_) (fun k hk hE => ⟨hE.1.imp id fun h => ?_, hk⟩), hr8.out.2⟩
                           · rintro rfl
                             rcases hE.1 with h | h
                             · have := HEb.out _ h; omega
                             · first | omega | (have := blk_lt hx7; omega) | (simp at h <;> omega)
                           · first | omega | (simp at h; omega))
                      · first
                        | (have hlt8 := blk_lt hx8
                           first
                           | exact ⟨below_put (below_put (below_put (below_put hb8 (Nat.le_refl _)) (Nat.le_refl _)) (Nat.le_refl _)) (Nat.le_refl _)⟩
                           | exact ⟨below_put (below_put (below_put (below_put hb8 h7) h7) h7) h7⟩)
                        | exact ⟨below_alloc hb8 _⟩
                  case rest =>
                    obtain ⟨bs, A2, n2, c2, rfl, rfl, HBB, HBS, HRW, HBD⟩ := hcut
                    have HQD := Aside0.mk (HQ1.out.below HBD.out)
                    have HRD := Aside0.mk (HR1.out.below HBD.out)
                    have HXD := Aside0.mk (HX.out.below HBD.out)
                    have hDw : Dat wc (fun k => k ≠ w.heap.size) Ax n1 ac.data := HXD.out.dat.more fun k hk => by have := HDb.out _ HQ1.out.q.1; have := hk.1; omega
                    have HPU := Aside0.mk (push_any D _ xs items size d ⟨ac.no, ac.size, ac.data⟩ Ax n1 cx wc HQD.out.q HQD.out.ok HQD.out.few (by have := HACM.out; show ac.data.length ≤ 65536; omega) hDw (by omega))
                    rw [HPP.out] at HPU
                    clear y6 f0 f1 f2 f3 f4 f5 f6 t0 t1 t2 t3 u0 u1 u2 u3 d0 d1' d2 d3 d4 d5 hDw
                    obtain ⟨d0, d1', d2, d3, d4, d5⟩ := cells3 HXD.out.box
                    go_wp2_with fail
                    refine HPU.out.mono ?_
                    rintro e w3 ⟨rfl, q3, k3⟩
                    have HQ3 := Aside0.mk (HQD.out.keep (drops' := d1) q3 k3 HOK1.out HFW1.out)
                    have HR3 := Aside0.mk (HRD.out.keep k3)
                    have hnD : ∀ k, bx < k → ¬ D k := fun k hk hD => by have := HDb.out k hD; omega
                    have HX3 := Aside0.mk (HXD.out.keep k3 (fun h => Nat.lt_irrefl _ (HDb.out _ h)) hnD)
                    have HBS3 := Aside0.mk ((k3.block bs (blk_lt HBS.out) (hnD _ HBB.out)).trans HBS.out)
                    have hbxs := blk_lt HX.out.box
                    have HE3 : Aside0 (∀ k, ((E k ∨ wq.heap.size ≤ k) ∧ k < wc.heap.size) → ¬ D k) := ⟨fun k hk hD => by
                      rcases hk.1 with h | h
                      · exact (HR1.out.eD k h).1 hD
                      · have := HDb.out k hD; omega⟩
                    have HRR3 := Aside0.mk (HRW.out.1.step (W' := w3) (E' := fun k => (E k ∨ wq.heap.size ≤ k) ∧ k < wc.heap.size) fun k hk hE => ⟨k3.block k hk (HE3.out k hE), hE⟩)
                    have HK3 := Aside0.mk k3
                    clear d0 d1' d2 d3 d4 d5 q3 k3 hnD hbxs
                    obtain ⟨⟨e0, e1', e2, e3⟩, _⟩ := cells4 HBS3.out
                    obtain ⟨⟨t0, t1, t2, t3⟩, ⟨u0, u1, u2, u3⟩⟩ := cells4 HR3.out.box
                    go_wp2_with fail
                    have hrbx : rb < bx := hrb
                    have hwq : bx < wq.heap.size := blk_lt HX.out.box
                    have hQ4 := HQ3.out.touch (W' := put4 w3 rb (.slice A2 n2 c2) (.int .i64 items) (.int .i64 size) (.int .u64 d1)) (fun k hD => put4_far (by rintro rfl; exact HR3.out.rD hD)) (Nat.le_of_eq put4_size.symm) (put4_below HQ3.out.bel HR3.out.rB)
                    have hR4 := HR3.out.put4 (drops' := d1) (c' := c2) HRR3.out HRW.out.2 (fun k hE => ⟨fun hm => by
                        rcases hm.1 with h | h
                        · exact HE3.out k hE h
                        · have := hE.2; omega, Nat.lt_of_lt_of_le hE.2 HK3.out.size⟩) (fun hE => by
                        rcases hE.1 with h | h
                        · exact HR1.out.rE h
                        · omega)
                    have hX4 : SX (put4 w3 rb (.slice A2 n2 c2) (.int .i64 items) (.int .i64 size) (.int .u64 d1)) (fun k => bx < k) bx ⟨ac.no, ac.size, ac.data⟩ Ax n1 cx := ⟨(put4_far (by omega)).trans HX3.out.box, HX3.out.dat.step fun k hk hP => ⟨put4_far (by have := hP.1; omega), hP.1, hP.2.same (put4_far (by have := hP.1; omega))⟩⟩
                    obtain ⟨w4, e4⟩ : ∃ w4, put4 w3 rb (.slice A2 n2 c2) (.int .i64 items) (.int .i64 size) (.int .u64 d1) = w4 := ⟨_, rfl⟩
                    rw [e4] at hQ4 hR4 hX4
                    unfold put4 at e4
                    rw [e4]
                    have HQ4 := Aside0.mk hQ4
                    have HR4 := Aside0.mk hR4
                    have HX4 := Aside0.mk hX4
                    have HI4 : Aside0 (Inc Ax n1 w4 w4) := ⟨Inc.start hX4.dat (Below.refl _ _) rfl⟩
                    obtain ⟨d0, d1', d2, d3, d4, d5⟩ := cells3 hX4.box
                    have HDA : Aside0 (∀ ad : Addr, Ax = some ad → 0 < n1 → bx < ad.block ∧ ad.block < wq.heap.size) := ⟨fun ad' e hn => by
                      obtain ⟨_, e', hu, _⟩ := HX.out.dat.2 hn
                      rw [e] at e'
                      injection e' with e'
                      subst e'
                      exact ⟨hu.1, hu.2.lt⟩⟩
                    have HN1 : Aside0 (n1 = ac.data.length) := ⟨hX4.dat.1⟩
                    clear hQ4 hR4 hX4 e4 e0 e1' e2 e3 t0 t1 t2 t3 u0 u1 u2 u3 d0 d1' d3 d4 d5
                    go_loopw [20] (fun i wq' => ∃ q : Nat, i = .int .i64 q ∧ q ≤ n1 ∧ Aside0 (Inc Ax n1 w4 wq')) (fun i _ => n1 - (intOf i).toNat)
                    case atStart => exact ⟨0, rfl, Nat.zero_le _, HI4⟩
                    case round =>
                      obtain ⟨q, rfl, hq, HIq⟩ := hrel
                      have z1 : wr.cell? ⟨bx, 2, none⟩ = some (.slice Ax n1 cx) := (World.cell?_of_block (w := w4) (HIq.out.block bx fun ad' e hn hh => by have := (HDA.out ad' e hn).1; omega)).trans d2
                      by_cases hql : q < n1
                      · obtain ⟨ad1, rfl, hu1, _⟩ := HX4.out.dat.2 (by omega)
                        obtain ⟨HU1, hr1⟩ := HIq.out.row ad1 rfl (by omega)
                        obtain ⟨y, hy⟩ := hr1 q hql
                        have hfz := frozen_u8 (a := ad1.add q) (W := wr) (by rw [ad_block]; exact HU1)
                        have HP := Aside0.mk (HIq.out.put rfl hql ((y + 1) % 256))
                        have hq63 : q + 1 ≤ 2 ^ 40 := by have := HN1.out; have := HACM.out; omega
                        go_wp2_with fail
                        exact ⟨⟨q + 1, by go_num, by omega, HP⟩, by simp [intOf]; omega⟩
                      · obtain rfl : q = n1 := by omega
                        have HQT := Aside0.mk (HQ4.out.inc HIq.out fun ad' e hn => by
                          have h1 := HDA.out ad' e hn
                          have h2 := HQ1.out.bel.size
                          have h3 := HQ1.out.dB _ HQ1.out.q.1
                          have h4 := HDb.out _ HQ1.out.q.1
                          have h5 := HBD.out.size
                          exact ⟨by omega, fun hm => by
                            rcases hm.1 with h | h
                            · have := HDb.out _ h; omega
                            · omega⟩)
                        have HRT := Aside0.mk (HR4.out.inc HIq.out fun ad' e hn => by
                          have h1 := HDA.out ad' e hn
                          exact ⟨by omega, fun hm => by
                            rcases hm.1 with h | h
                            · have := HEb.out _ h; omega
                            · omega⟩)
                        obtain ⟨⟨t0, t1, t2, t3⟩, ⟨u0, u1, u2, u3⟩⟩ := cells4 HRT.out.box
                        have HIS := Aside0.mk (is_any _ _ w.heap.size _ items size _ _ _ _ _ HQT.out.q HQT.out.ok HQT.out.few HRT.out.r HRT.out.le)
                        go_wp2_with fail
                        refine HIS.out.mono ?_
                        rintro e w9 ⟨rfl, b9⟩
                        go_wp2_with fail
                        go_roundw
                        case rel => exact ⟨k + 1, d1, _, _, xs1, A2, n2, c2, by go_num, by omega, by omega, ⟨HQT.out.below b9⟩, ⟨HRT.out.below b9⟩⟩
                        case measure => simp [intOf]; omega
        · obtain rfl : k = n := by omega
          go_wp2_with fail
          refine (works_any _).mono ?_
          rintro e w4 ⟨rfl, b⟩
          go_wp2
          go_ret
          exact ⟨rfl, below_step HQk.out.bel b⟩
    · have HNB := Aside0.mk hnb
      clear hnb
      go_enter Try.func3, Try.ntmps3
      go_wp2_with fail
      refine HF.out.mono ?_
      rintro e w1 ⟨rfl, rfl⟩
      go_wp2_with fail
      refine (new_no items size _ HNB.out).mono ?_
      rintro e w1 ⟨rfl, rfl⟩
      go_wp2_with fail
      refine (rnew_no items size _ HNB.out).mono ?_
      rintro e w2 ⟨rfl, b2⟩
      go_wp2_with fail
      refine (works_any _).mono ?_
      rintro e w3 ⟨rfl, b3⟩
      go_wp2
      go_ret
      exact ⟨rfl, (below_alloc b2 _).trans (b3.mono (by have := b2.size; simp; omega))⟩
end Go.Proofs.Ytdipihaefiobiaa.F
