/- FifoOrder's walk: what its loops keep; conditions: the acts lie in memory. -/
import Derived.Test.YtdipihaefiobiaaQO
namespace Go.Proofs.Ytdipihaefiobiaa.F
open Go Go.RowKit Go.Proofs.YtdipihaefiobiaaW.PrintWords Go.Proofs.YtdipihaefiobiaaW.PrintLast Go.Proofs.YtdipihaefiobiaaW.PrintMore
set_option linter.unusedVariables false
set_option linter.unusedSimpArgs false

/-- A queue and a row of numbers beside it, both of the call's own; B: where the call began. -/
structure St (w0 W : World) (g : Nat) (D : Nat → Prop) (xs : List It) (items size : Int) (d : Nat) (v : Value) (zs : List Int) : Prop where
  q : Fq W D g xs items size d
  ok : Ok xs items size d
  few : Few xs
  dB : ∀ k, D k → w0.heap.size ≤ k ∧ k < W.heap.size
  row : QRow W w0.heap.size 30 1 v zs.length (zs.map (Value.int .u64))
  apart : ∀ k, v.ownBlock = some k → ¬ D k
  bel : Below w0.heap.size w0 W

theorem St.below {w0 W W' : World} {g : Nat} {D : Nat → Prop} {xs : List It} {items size : Int} {d : Nat} {v : Value} {zs : List Int} (h : St w0 W g D xs items size d v zs) (hb : Below W.heap.size W W') : St w0 W' g D xs items size d v zs :=
  ⟨h.q.below hb, h.ok, h.few, fun k hD => ⟨(h.dB k hD).1, Nat.lt_of_lt_of_le (h.dB k hD).2 hb.size⟩, q_move h.row fun k hk => hb.block k (q_lt h.row k hk), h.apart, below_step h.bel hb⟩

theorem St.keep {w0 W W' : World} {g : Nat} {D : Nat → Prop} {xs ys : List It} {items size : Int} {d d' : Nat} {v : Value} {zs : List Int} (h : St w0 W g D xs items size d v zs)
    (hq : Fq W' (fun k => D k ∨ W.heap.size ≤ k) g ys items size d') (hk : KeepD W W' D) (ho : Ok ys items size d') (hf : Few ys) : St w0 W' g (fun k => (D k ∨ W.heap.size ≤ k) ∧ k < W'.heap.size) ys items size d' v zs :=
  ⟨hq.step fun k hc hD => ⟨rfl, hD, hc.lt⟩, ho, hf, fun k hD => ⟨by
    rcases hD.1 with h1 | h1
    · exact (h.dB k h1).1
    · exact Nat.le_trans h.bel.size h1, hD.2⟩,
   q_move h.row fun k hk' => hk.block k (q_lt h.row k hk') (h.apart k hk'),
   fun k hk' hD => by
    rcases hD.1 with h1 | h1
    · exact h.apart k hk' h1
    · have := q_lt h.row k hk'; omega,
   h.bel.trans (hk.below h.bel.size fun k hk' hD => by have := (h.dB k hD).1; omega)⟩

theorem St.nil_ {w0 W : World} {g : Nat} {D : Nat → Prop} {xs : List It} {items size : Int} {d : Nat} {v : Value} {zs : List Int} (h : St w0 W g D xs items size d v zs) : St w0 W g D xs items size d (.slice none 0 0) [] :=
  ⟨h.q, h.ok, h.few, h.dB, q_of_own (World.ownsRow_nil _ _ _ _), fun k hk => by simp [Value.ownBlock] at hk, h.bel⟩

theorem St.cut {w0 W : World} {g : Nat} {D : Nat → Prop} {xs : List It} {items size : Int} {d n c : Nat} {adv : Addr} {z : Int} {zs : List Int} (h : St w0 W g D xs items size d (.slice (some adv) (n + 1) c) (z :: zs)) :
    St w0 W g D xs items size d (.slice (if c = 1 then some adv else some (adv.add 1)) n (c - 1)) zs := by
  obtain ⟨A, c', e, hc⟩ := q_slice h.row
  injection e with e1 e2 e3
  subst e1
  subst e3
  have hn : n = zs.length := by rw [List.length_cons] at e2; omega
  subst hn
  have hr := q_drop (k := 1) h.row (by simp)
  refine ⟨h.q, h.ok, h.few, h.dB, ?_, fun k hk => ?_, h.bel⟩
  · simpa using hr
  · have : k = adv.block := by
      split at hk
      · simpa [Value.ownBlock] using hk.symm
      · have : (adv.add 1).block = k := by simpa [Value.ownBlock] using hk
        rw [← this, ad_block]
    subst this
    exact h.apart _ rfl

theorem info_u64 : (Try.prog.info? 30).map (fun i => (i.zero, i.size, i.bytes)) = some (some (.int .u64 0), 1, 8) := by kernel_rfl

theorem wpList_append_q {w : World} {ops : Array Oper} {rest : List Oper} {o : Oper} {a : Act} {Q : Exit → Act → World → Prop} (hgd : o.guard = none) (s x : Operand) (t : TypeId)
    (ho : o.op = .call { callee := .builtin .append, args := #[s, x], argTypes := #[t, t] }) (base : Nat) (ht : Try.prog.underlying t = some (.slice 30))
    (v : Value) (zs : List Int) (hs : a.eval s = v) (hown : QRow w base 30 1 v zs.length (zs.map (Value.int .u64))) (ad : Addr) (z : Int) (hx : a.eval x = .slice (some ad) 1 1)
    (hz : ∀ j u, [Value.int .u64 z][j]? = some u → w.cell? (ad.add j) = some u) (hl : zs.length ≤ 65536) (hbase : base ≤ w.heap.size)
    (h : ∀ v' w', QRow w' base 30 1 v' (zs ++ [z]).length ((zs ++ [z]).map (Value.int .u64)) → w.grownBy w' v.ownBlock → (v'.ownBlock = v.ownBlock ∨ ∃ b, v'.ownBlock = some b ∧ w.heap.size ≤ b) → wpList Try.prog ops Q rest (a.put o.dst v') w') :
    wpList Try.prog ops Q (o :: rest) a w := by
  obtain ⟨i0, hi, hz0, hz1, hz2⟩ := info_parts info_u64
  obtain ⟨v', w', hrun, h1, h2, h3⟩ := q_append (P := Try.prog) w base t o.type 30 i0 _ 1 8 ht hi hz0 hz1 hz2 rfl (by decide) v zs.length _ hown ad 1 1 [.int .u64 z] rfl hz (by simp [Value.oneCell']) (by decide) (by unfold maxLen; omega) (by omega) hbase
  refine wpList_plain hgd fun K hK => ?_
  unfold Oper.wp
  simp [execOp, ho, resolve, invoke, builtin, hs, hx, hrun, Result.andThen]
  exact hK _ _ (h v' w' (by simpa using h1) h2 h3)

/-- The row grows: its block is its own. -/
theorem St.row_ {w0 W W' : World} {g : Nat} {D : Nat → Prop} {xs : List It} {items size : Int} {d : Nat} {v v' : Value} {zs zs' : List Int} (h : St w0 W g D xs items size d v zs)
    (hr : QRow W' w0.heap.size 30 1 v' zs'.length (zs'.map (Value.int .u64))) (hg : W.grownBy W' v.ownBlock) (hat : v'.ownBlock = v.ownBlock ∨ ∃ b, v'.ownBlock = some b ∧ W.heap.size ≤ b) : St w0 W' g D xs items size d v' zs' :=
  ⟨h.q.step fun k hc hD => ⟨hg.block k hc.lt fun e => h.apart k e.symm hD, hD⟩, h.ok, h.few, fun k hD => ⟨(h.dB k hD).1, Nat.lt_of_lt_of_le (h.dB k hD).2 hg.size⟩, hr,
   fun k hk hD => by
    rcases hat with e | ⟨b, e, hb⟩
    · exact h.apart k (e ▸ hk) hD
    · rw [e] at hk
      injection hk with hk
      have := (h.dB k hD).2; omega,
   h.bel.grown hg h.bel.size fun k hk => (q_typed h.row k hk).1⟩

set_option maxRecDepth 100000 in
set_option maxHeartbeats 2000000 in
theorem order_any (items0 size0 : Int) (A : Option Addr) (n c : Nat) (l : List Ac) (w : World) (h : Acts w w.heap.size A n l) (hn : n ≤ maxLen) :
    Calls Try.prog 4 #[.int .i64 items0, .int .i64 size0, .slice A n c] w fun e w' => e = .returned (.bool true) ∧ Below w.heap.size w w' := by
  unfold maxLen at hn
  have HF := Aside0.mk (few_any _ A n c l w h (by unfold maxLen; exact hn))
  have HA := Aside0.mk h
  clear h
  cases hfew : fewB l
  · rw [hfew] at HF
    clear hfew
    go_enter Try.func4, Try.ntmps4
    go_wp2_with fail
    refine HF.out.mono ?_
    rintro e w1 ⟨rfl, rfl⟩
    go_wp2_with fail
    refine (works_any _).mono ?_
    rintro e w1 ⟨rfl, b⟩
    go_wp2
    go_ret
    exact ⟨rfl, b⟩
  · rw [hfew] at HF
    obtain ⟨hl60, hld⟩ := fewB_true hfew
    have HLD := Aside0.mk hld
    have HNL := Aside0.mk HA.out.1
    have hn60 : n ≤ 60 := by rw [HNL.out]; exact hl60
    clear hfew hl60 hld
    obtain ⟨items, hi⟩ : ∃ i : Int, Aside0 (items0 % 41 = i) := ⟨_, ⟨rfl⟩⟩
    obtain ⟨size, hs⟩ : ∃ i : Int, Aside0 (size0 % 401 = i) := ⟨_, ⟨rfl⟩⟩
    have hi0 : 0 ≤ items ∧ items < 41 := by rw [← hi.out]; omega
    have hs0 : 0 ≤ size ∧ size < 401 := by rw [← hs.out]; omega
    have HNB := Aside0.mk (show newB items size = false by
      simp only [newB, Bool.or_eq_false_iff, decide_eq_false_iff_not]; omega)
    go_enter Try.func4, Try.ntmps4
    go_wp2_with fail
    refine HF.out.mono ?_
    rintro e w1 ⟨rfl, rfl⟩
    go_wp2_with fail
    refine (pick_any items0 41 (by decide) (by decide) _).mono ?_
    rintro e w1 ⟨rfl, rfl⟩
    rw [hi.out]
    go_wp2_with fail
    refine (pick_any size0 401 (by decide) (by decide) _).mono ?_
    rintro e w1 ⟨rfl, rfl⟩
    rw [hs.out]
    go_wp2_with fail
    refine (new_ok items size _ HNB.out).mono ?_
    rintro e w1 ⟨rfl, q, b⟩
    have hS : St w w1 w.heap.size (fun k => k = w.heap.size) [] items size 0 (.slice none 0 0) [] :=
      ⟨q, Ok.new HNB.out (by omega), Few.nil, fun k hD => by subst hD; exact ⟨Nat.le_refl _, q.lt⟩, q_of_own (World.ownsRow_nil _ _ _ _), fun k hk => by simp [Value.ownBlock] at hk, b⟩
    have HS := Aside0.mk hS
    clear hS q b
    go_wp2
    go_loopw [9, 10, 11] (fun a b i wr => ∃ (k d : Nat) (D : Nat → Prop) (xs : List It), i = .int .i64 k ∧ k ≤ n ∧ b = .int .u64 d ∧ d ≤ k ∧ xs.length ≤ k ∧ Aside0 (St w wr w.heap.size D xs items size d a (xs.map (·.no)))) (fun _ _ i _ => n - (intOf i).toNat)
    case atStart => exact ⟨0, 0, _, [], rfl, Nat.zero_le _, rfl, Nat.zero_le _, Nat.zero_le _, HS⟩
    case round =>
      obtain ⟨k, d, D, xs, rfl, hk, rfl, hdk, hxk, HS⟩ := hrel
      by_cases hlt : k < n
      · obtain ⟨ad, rfl, hadb, hacts⟩ := HA.out.2 (by omega)
        have hkl : k < l.length := by have := HNL.out; omega
        have hac := hacts k l[k] (List.getElem?_eq_getElem hkl)
        have HAC := Aside0.mk hac
        have HACM := Aside0.mk (List.getElem_mem hkl)
        generalize l[k] = ac at *
        clear hac hacts
        obtain ⟨A1, n1, c1, x0, x1, x2, x3, hd⟩ := HAC.out
        have HB := HS.out.bel
        have y0 := (HB.cell (p := ad.add (k * 4)) (by rw [ad_block]; exact hadb)).trans x0
        have y2 := (HB.cell (p := ⟨(ad.add (k * 4)).block, (ad.add (k * 4)).off + 1 + 1, none⟩) (by rw [ad_block]; exact hadb)).trans x2
        have y3 := (HB.cell (p := ⟨(ad.add (k * 4)).block, (ad.add (k * 4)).off + 1 + 2, none⟩) (by rw [ad_block]; exact hadb)).trans x3
        have HD := Aside0.mk hd
        have hsz : (ad.add (k * 4)).block < wr.heap.size := by rw [ad_block]; exact Nat.lt_of_lt_of_le hadb HB.size
        obtain ⟨q, hq⟩ : ∃ q : Int, Aside0 (ac.size % 101 = q) := ⟨_, ⟨rfl⟩⟩
        have hq0 : 0 ≤ q ∧ q < 101 := by rw [← hq.out]; omega
        have HQ0 := Aside0.mk hq0
        have wk : IntKind.u64.wrap (k : Int) = (k : Int) := by simp only [IntKind.wrap_u64]; omega
        clear HB x0 x1 x2 x3 hd hq0
        obtain ⟨p, hp⟩ : ∃ p, Aside0 (ad.add (k * 4) = p) := ⟨_, ⟨rfl⟩⟩
        go_upto_region 13 with (fail)
        go_cut [12] (fun a wc => ∃ bx, a = .pointer (some ⟨bx, 0, none⟩) ∧ Aside0 (wc.heap[bx]? = some (.cells #[.int .u64 k, .int .i64 q, .slice A1 n1 c1] 37 (0, 0))) ∧ Aside0 (St w wc w.heap.size D xs items size d u9 (xs.map (·.no))) ∧ Aside0 (¬ D bx))
        case first =>
          have sd2 : wr.drew.cell? ⟨(ad.add (k * 4)).block, (ad.add (k * 4)).off + 1 + 1, none⟩ = some (.int .i64 ac.size) := y2
          have sd3 : wr.drew.cell? ⟨(ad.add (k * 4)).block, (ad.add (k * 4)).off + 1 + 2, none⟩ = some (.slice A1 n1 c1) := y3
          have sa2 : (wr.alloc (.cells #[.int .u64 0, .int .i64 0, .slice none 0 0] 37)).drew.cell? ⟨(ad.add (k * 4)).block, (ad.add (k * 4)).off + 1 + 1, none⟩ = some (.int .i64 ac.size) := Lib.cell?_alloc_some _ y2
          have sa3 : (wr.alloc (.cells #[.int .u64 0, .int .i64 0, .slice none 0 0] 37)).drew.cell? ⟨(ad.add (k * 4)).block, (ad.add (k * 4)).off + 1 + 2, none⟩ = some (.slice A1 n1 c1) := Lib.cell?_alloc_some _ y3
          have sb2 : (wr.alloc (.cells #[.int .u64 k, .int .i64 q, .slice A1 n1 c1] 37)).drew.cell? ⟨(ad.add (k * 4)).block, (ad.add (k * 4)).off + 1 + 1, none⟩ = some (.int .i64 ac.size) := Lib.cell?_alloc_some _ y2
          have sb3 : (wr.alloc (.cells #[.int .u64 k, .int .i64 q, .slice A1 n1 c1] 37)).drew.cell? ⟨(ad.add (k * 4)).block, (ad.add (k * 4)).off + 1 + 2, none⟩ = some (.slice A1 n1 c1) := Lib.cell?_alloc_some _ y3
          go_region_held3 (fun W => W.cell? ⟨(ad.add (k * 4)).block, (ad.add (k * 4)).off + 1 + 1, none⟩ = some (.int .i64 ac.size) ∧ W.cell? ⟨(ad.add (k * 4)).block, (ad.add (k * 4)).off + 1 + 2, none⟩ = some (.slice A1 n1 c1))
            (first | (with_reducible exact ⟨sd2, sd3⟩) | (with_reducible exact ⟨sa2, sa3⟩) | (with_reducible exact ⟨sb2, sb3⟩) | fail)
            (first | (go_at_call 11; refine (pick_any ac.size 101 (by decide) (by decide) _).mono ?_; rw [hq.out]; rintro e w6 ⟨rfl, rfl⟩))
          all_goals (go_wp2_with fail; go_meet)
          all_goals exact ⟨_, rfl, ⟨blk_new wr _⟩, ⟨HS.out.below (below_drew (below_alloc (Below.refl _ _) _))⟩, ⟨fun hD => Nat.lt_irrefl _ (HS.out.dB _ hD).2⟩⟩
        case rest =>
        obtain ⟨bx, rfl, HI, HS1, HNB⟩ := hcut
        have z0 := (HS1.out.bel.cell (p := ad.add (k * 4)) (by rw [ad_block]; exact hadb)).trans (show w.cell? (ad.add (k * 4)) = _ from (HAC.out).choose_spec.choose_spec.choose_spec.1)
        obtain ⟨pk, hpk⟩ : ∃ q : Int, Aside0 (ac.do_ % 8 = q) := ⟨_, ⟨rfl⟩⟩
        obtain ⟨A9, c9, e9, h9⟩ := q_slice HS1.out.row
        rw [List.length_map] at e9 h9
        subst e9
        clear y0 y2 y3
        go_wp2_with fail
        refine (pick_any ac.do_ 8 (by decide) (by decide) _).mono ?_
        rintro e w1 ⟨rfl, rfl⟩
        rw [hpk.out]
        by_cases hpop : pk = 4 ∨ pk = 5 ∨ pk = 6
        · have pz : ((pk == 4) = true ∨ ((pk == 4) = false ∧ (pk == 5) = true)) ∨ ((pk == 4) = false ∧ (pk == 5) = false ∧ (pk == 6) = true) := by
            rcases hpop with rfl | rfl | rfl <;> decide
          clear hpop
          rcases xs with _ | ⟨x, xs⟩
          ·
            have HE := Aside0.mk HS1.out.q.empty
            rcases pz with (p4 | ⟨p4, p5⟩) | ⟨p4, p5, p6⟩
            all_goals
              go_wp2_with fail
              refine (pop_none _ _ HE.out).mono ?_
              rintro e w2 ⟨rfl, b2⟩
              have hT := (HS1.out.below b2).below (below_alloc (Below.refl _ _) (.cells #[.int .u64 0, .int .i64 0, .slice none 0 0] 37))
              go_upto_region 26 with (fail)
              go_quiet (fail)
              have HT := Aside0.mk (hT.below (pw_below_drewN (Below.refl _ _) nq))
              clear b2 hT
              generalize (w2.alloc (.cells #[.int .u64 0, .int .i64 0, .slice none 0 0] 37)).drewN nq = w3 at *
              have HLen : Calls Try.prog 21 #[.pointer (some ⟨w.heap.size, 0, none⟩)] w3 fun e w' => e = .returned (.int .i64 (0)) ∧ w3 = w' := len_any _ _ _ _ _ _ _ HT.out.q
              have HSz : Calls Try.prog 22 #[.pointer (some ⟨w.heap.size, 0, none⟩)] w3 fun e w' => e = .returned (.int .i64 (0)) ∧ w3 = w' := size_any _ _ _ _ _ _ _ HT.out.q
              have HDr : Calls Try.prog 23 #[.pointer (some ⟨w.heap.size, 0, none⟩)] w3 fun e w' => e = .returned (.int .u64 (d)) ∧ w3 = w' := drops_any _ _ _ _ _ _ _ HT.out.q
              have dL : decide (items < 0) = false := decide_eq_false (by have := HT.out.ok.many; first | omega | (simp at this; omega))
              have dZ : decide (size < 0) = false := decide_eq_false (by have := HT.out.ok.size; first | omega | (simp [sz] at this; omega))
              have HL8 := Aside0.mk HLen
              have HS8 := Aside0.mk HSz
              have HD8 := Aside0.mk HDr
              clear HLen HSz HDr
              go_wp2_with (first | (go_at_call 21; refine HL8.out.mono ?_; rintro e w8 ⟨rfl, rfl⟩) | (go_at_call 22; refine HS8.out.mono ?_; rintro e w8 ⟨rfl, rfl⟩) | (go_at_call 23; refine HD8.out.mono ?_; rintro e w8 ⟨rfl, rfl⟩))
              go_roundw
              case rel => exact ⟨k + 1, d, _, [], by go_num, by omega, rfl, by omega, Nat.zero_le _, HT⟩
              case measure => simp [intOf]; omega
          ·
            have hxl : x.data.length ≤ 65536 := HS1.out.few x (by simp)
            have hrow := HS1.out.row
            have hln : (List.map (fun y : It => y.no) (x :: xs)).length = xs.length + 1 := by simp
            rw [hln, List.length_cons] at hrow
            clear h9
            obtain ⟨adv, rfl, hcv⟩ : ∃ adv, A9 = some adv ∧ wc.cell? adv = some (.int .u64 x.no) := by
              obtain ⟨adv, e, hc⟩ := q_cells hrow (by omega)
              exact ⟨adv, e, by have := hc 0 (.int .u64 x.no) rfl; simpa [Addr.add] using this⟩
            have HROW := Aside0.mk hrow
            have HCV := Aside0.mk hcv
            have hbv : adv.block < wc.heap.size := q_lt HS1.out.row _ rfl
            have hbD : ¬ D adv.block := HS1.out.apart _ rfl
            clear hrow hcv
            have hpos : decide ((0 : Int) < (xs.length : Int) + 1) = true := decide_eq_true (by omega)
            have HP := Aside0.mk (pop_some D _ x xs items size d _ HS1.out.q HS1.out.ok hxl)
            rcases pz with (p4 | ⟨p4, p5⟩) | ⟨p4, p5, p6⟩
            all_goals
              go_wp2_with fail
              refine HP.out.mono ?_
              rintro e w2 ⟨A2, n2, c2, rfl, d2, q2, k2⟩
              have cv2 := Lib.cell?_alloc_some (.cells #[.int .u64 x.no, .int .i64 x.size, .slice A2 n2 c2] 37) ((World.cell?_of_block (k2.block _ hbv hbD)).trans HCV.out)
              have hS3 := (HS1.out.keep (q2.step fun _ _ h => ⟨rfl, .inl h⟩) k2 HS1.out.ok.pop HS1.out.few.pop).below (below_alloc (Below.refl _ _) (.cells #[.int .u64 x.no, .int .i64 x.size, .slice A2 n2 c2] 37))
              clear d2 q2 k2
              go_upto_region 26 with (fail)
              go_quiet (fail)
              have HS3 := Aside0.mk ((hS3.below (pw_below_drewN (Below.refl _ _) nq)).cut)
              clear hS3 cv2
              generalize (w2.alloc (.cells #[.int .u64 x.no, .int .i64 x.size, .slice A2 n2 c2] 37)).drewN nq = w3 at *
              by_cases hc9 : c9 = 1
              · subst hc9
                have HT := Aside0.mk (show St w w3 w.heap.size _ xs items size d (.slice (some adv) xs.length 0) (xs.map (·.no)) from HS3.out)
                clear HS3
                have HLen : Calls Try.prog 21 #[.pointer (some ⟨w.heap.size, 0, none⟩)] w3 fun e w' => e = .returned (.int .i64 ((xs.length : Int))) ∧ w3 = w' := len_any _ _ _ _ _ _ _ HT.out.q
                have HSz : Calls Try.prog 22 #[.pointer (some ⟨w.heap.size, 0, none⟩)] w3 fun e w' => e = .returned (.int .i64 (sz xs)) ∧ w3 = w' := size_any _ _ _ _ _ _ _ HT.out.q
                have HDr : Calls Try.prog 23 #[.pointer (some ⟨w.heap.size, 0, none⟩)] w3 fun e w' => e = .returned (.int .u64 (d)) ∧ w3 = w' := drops_any _ _ _ _ _ _ _ HT.out.q
                have dL : decide (items < (xs.length : Int)) = false := decide_eq_false (by have := HT.out.ok.many; first | omega | (simp at this; omega))
                have dZ : decide (size < sz xs) = false := decide_eq_false (by have := HT.out.ok.size; first | omega | (simp [sz] at this; omega))
                have HL8 := Aside0.mk HLen
                have HS8 := Aside0.mk HSz
                have HD8 := Aside0.mk HDr
                clear HLen HSz HDr
                go_wp2_with (first | (go_at_call 21; refine HL8.out.mono ?_; rintro e w8 ⟨rfl, rfl⟩) | (go_at_call 22; refine HS8.out.mono ?_; rintro e w8 ⟨rfl, rfl⟩) | (go_at_call 23; refine HD8.out.mono ?_; rintro e w8 ⟨rfl, rfl⟩))
                go_roundw
                case rel => exact ⟨k + 1, d, _, xs, by go_num, by omega, rfl, by omega, by rw [List.length_cons] at hxk; omega, HT⟩
                case measure => simp [intOf]; omega
              · rw [if_neg hc9] at HS3
                have HT := Aside0.mk (show St w w3 w.heap.size _ xs items size d (.slice (some ⟨adv.block, adv.off + 1, none⟩) xs.length (c9 - 1)) (xs.map (·.no)) from HS3.out)
                clear HS3
                have HLen : Calls Try.prog 21 #[.pointer (some ⟨w.heap.size, 0, none⟩)] w3 fun e w' => e = .returned (.int .i64 ((xs.length : Int))) ∧ w3 = w' := len_any _ _ _ _ _ _ _ HT.out.q
                have HSz : Calls Try.prog 22 #[.pointer (some ⟨w.heap.size, 0, none⟩)] w3 fun e w' => e = .returned (.int .i64 (sz xs)) ∧ w3 = w' := size_any _ _ _ _ _ _ _ HT.out.q
                have HDr : Calls Try.prog 23 #[.pointer (some ⟨w.heap.size, 0, none⟩)] w3 fun e w' => e = .returned (.int .u64 (d)) ∧ w3 = w' := drops_any _ _ _ _ _ _ _ HT.out.q
                have dL : decide (items < (xs.length : Int)) = false := decide_eq_false (by have := HT.out.ok.many; first | omega | (simp at this; omega))
                have dZ : decide (size < sz xs) = false := decide_eq_false (by have := HT.out.ok.size; first | omega | (simp [sz] at this; omega))
                have HL8 := Aside0.mk HLen
                have HS8 := Aside0.mk HSz
                have HD8 := Aside0.mk HDr
                clear HLen HSz HDr
                go_wp2_with (first | (go_at_call 21; refine HL8.out.mono ?_; rintro e w8 ⟨rfl, rfl⟩) | (go_at_call 22; refine HS8.out.mono ?_; rintro e w8 ⟨rfl, rfl⟩) | (go_at_call 23; refine HD8.out.mono ?_; rintro e w8 ⟨rfl, rfl⟩))
                go_roundw
                case rel => exact ⟨k + 1, d, _, xs, by go_num, by omega, rfl, by omega, by rw [List.length_cons] at hxk; omega, HT⟩
                case measure => simp [intOf]; omega
        · by_cases hclear : pk = 7
          ·
            subst hclear
            go_wp2_with fail
            refine (clear_any D _ xs items size d _ HS1.out.q).mono ?_
            rintro e w2 ⟨rfl, q2, k2⟩
            have HT := Aside0.mk (HS1.out.keep (q2.step fun _ _ h => ⟨rfl, .inl h⟩) k2 HS1.out.ok.clear Few.nil).nil_
            clear q2 k2
            have HLen : Calls Try.prog 21 #[.pointer (some ⟨w.heap.size, 0, none⟩)] w2 fun e w' => e = .returned (.int .i64 (0)) ∧ w2 = w' := len_any _ _ _ _ _ _ _ HT.out.q
            have HSz : Calls Try.prog 22 #[.pointer (some ⟨w.heap.size, 0, none⟩)] w2 fun e w' => e = .returned (.int .i64 (0)) ∧ w2 = w' := size_any _ _ _ _ _ _ _ HT.out.q
            have HDr : Calls Try.prog 23 #[.pointer (some ⟨w.heap.size, 0, none⟩)] w2 fun e w' => e = .returned (.int .u64 (d)) ∧ w2 = w' := drops_any _ _ _ _ _ _ _ HT.out.q
            have dL : decide (items < 0) = false := decide_eq_false (by have := HT.out.ok.many; first | omega | (simp at this; omega))
            have dZ : decide (size < 0) = false := decide_eq_false (by have := HT.out.ok.size; first | omega | (simp [sz] at this; omega))
            have HL8 := Aside0.mk HLen
            have HS8 := Aside0.mk HSz
            have HD8 := Aside0.mk HDr
            clear HLen HSz HDr
            go_wp2_with (first | (go_at_call 21; refine HL8.out.mono ?_; rintro e w8 ⟨rfl, rfl⟩) | (go_at_call 22; refine HS8.out.mono ?_; rintro e w8 ⟨rfl, rfl⟩) | (go_at_call 23; refine HD8.out.mono ?_; rintro e w8 ⟨rfl, rfl⟩))
            go_roundw
            case rel => exact ⟨k + 1, d, _, [], by go_num, by omega, rfl, by omega, Nat.zero_le _, HT⟩
            case measure => simp [intOf]; omega
          · have p4 : (pk == 4) = false := by rw [beq_eq_false_iff_ne]; omega
            have p5 : (pk == 5) = false := by rw [beq_eq_false_iff_ne]; omega
            have p6 : (pk == 6) = false := by rw [beq_eq_false_iff_ne]; omega
            have p7 : (pk == 7) = false := by rw [beq_eq_false_iff_ne]; omega
            obtain ⟨i0, i1, i2, j0, j1, j2⟩ := cells3 HI.out
            have HR := Aside0.mk (room_any D _ xs items size d q wc HS1.out.q HS1.out.ok)
            have hq0 := HQ0.out
            have hqn : ¬ q < 0 := by omega
            have HPU := Aside0.mk (fun (w2 : World) (b2 : Below wc.heap.size wc w2) => push_any D _ xs items size d ⟨k, q, ac.data⟩ A1 n1 c1 w2 (HS1.out.below b2).q HS1.out.ok HS1.out.few (by have := HLD.out ac HACM.out; show ac.data.length ≤ _; omega)
              (HD.out.step fun b hb hB => ⟨(HS1.out.below b2).bel.block b hB, fun e => by have hB : b < w.heap.size := hB; omega⟩) (by omega))
            have hok := HS1.out.ok.push ⟨k, q, ac.data⟩ (by omega)
            have hfw := HS1.out.few.push (items := items) (bound := size) (drops := d) (x := ⟨k, q, ac.data⟩) (by have := HLD.out ac HACM.out; show ac.data.length ≤ _; omega)
            cases hrm : roomB xs.length items (sz xs) size q
            · have hpr : pushR xs items size d ⟨k, q, ac.data⟩ = (110, xs, (d : Int) + 1) := by
                unfold pushR
                rw [if_neg hqn]
                show (if roomB xs.length items (sz xs) size q = true then _ else _) = _
                rw [hrm]; rfl
              rw [hrm] at HR
              rw [hpr] at HPU hok hfw
              have HOK := Aside0.mk hok
              have HFW := Aside0.mk hfw
              clear hok hfw hrm hpr hq0 hqn
              go_wp2_with fail
              refine HR.out.mono ?_
              rintro e w2 ⟨rfl, b2⟩
              have HS2 := Aside0.mk (HS1.out.below b2)
              have HPU2 := Aside0.mk (HPU.out w2 b2)
              have HI2 := Aside0.mk (blk_below HI.out b2)
              obtain ⟨i0, i1, i2, j0, j1, j2⟩ := cells3 HI2.out
              clear b2
              go_wp2_with fail
              refine HPU2.out.mono ?_
              rintro e w3 ⟨rfl, q3, k3⟩
              have HT := Aside0.mk (HS2.out.keep (d' := d + 1) q3 k3 HOK.out HFW.out)
              have wd : IntKind.u64.wrap ((d : Int) + 1) = (d : Int) + 1 := by simp only [IntKind.wrap_u64]; omega
              clear q3 k3 HPU HPU2 HR
              have HLen : Calls Try.prog 21 #[.pointer (some ⟨w.heap.size, 0, none⟩)] w3 fun e w' => e = .returned (.int .i64 ((xs.length : Int))) ∧ w3 = w' := len_any _ _ _ _ _ _ _ HT.out.q
              have HSz : Calls Try.prog 22 #[.pointer (some ⟨w.heap.size, 0, none⟩)] w3 fun e w' => e = .returned (.int .i64 (sz xs)) ∧ w3 = w' := size_any _ _ _ _ _ _ _ HT.out.q
              have HDr : Calls Try.prog 23 #[.pointer (some ⟨w.heap.size, 0, none⟩)] w3 fun e w' => e = .returned (.int .u64 ((d : Int) + 1)) ∧ w3 = w' := drops_any _ _ _ _ _ _ _ HT.out.q
              have dL : decide (items < (xs.length : Int)) = false := decide_eq_false (by have := HT.out.ok.many; first | omega | (simp at this; omega))
              have dZ : decide (size < sz xs) = false := decide_eq_false (by have := HT.out.ok.size; first | omega | (simp [sz] at this; omega))
              have HL8 := Aside0.mk HLen
              have HS8 := Aside0.mk HSz
              have HD8 := Aside0.mk HDr
              clear HLen HSz HDr
              go_wp2_with (first | (go_at_call 21; refine HL8.out.mono ?_; rintro e w8 ⟨rfl, rfl⟩) | (go_at_call 22; refine HS8.out.mono ?_; rintro e w8 ⟨rfl, rfl⟩) | (go_at_call 23; refine HD8.out.mono ?_; rintro e w8 ⟨rfl, rfl⟩))
              go_roundw
              case rel => exact ⟨k + 1, d + 1, _, xs, by go_num, by omega, by go_num, by omega, by omega, HT⟩
              case measure => simp [intOf]; omega
            · have hpr : pushR xs items size d ⟨k, q, ac.data⟩ = (0, xs ++ [⟨k, q, ac.data⟩], (d : Int)) := by
                unfold pushR
                rw [if_neg hqn]
                show (if roomB xs.length items (sz xs) size q = true then _ else _) = _
                rw [hrm]; rfl
              rw [hrm] at HR
              rw [hpr] at HPU hok hfw
              have HOK := Aside0.mk hok
              have HFW := Aside0.mk hfw
              clear hok hfw hrm hpr hq0 hqn
              go_wp2_with fail
              refine HR.out.mono ?_
              rintro e w2 ⟨rfl, b2⟩
              have HS2 := Aside0.mk (HS1.out.below b2)
              have HPU2 := Aside0.mk (HPU.out w2 b2)
              have HI2 := Aside0.mk (blk_below HI.out b2)
              obtain ⟨i0, i1, i2, j0, j1, j2⟩ := cells3 HI2.out
              clear b2
              go_wp2_with fail
              refine HPU2.out.mono ?_
              rintro e w3 ⟨rfl, q3, k3⟩
              have HS3 := Aside0.mk (HS2.out.keep (d' := d) q3 k3 HOK.out HFW.out)
              obtain ⟨i0, i1, i2, j0, j1, j2⟩ := cells3 ((k3.block bx (blk_lt HI2.out) HNB.out).trans HI2.out)
              have HS4 := Aside0.mk (HS3.out.below (below_alloc (Below.refl _ _) (.cells #[.int .u64 k] 30)))
              clear q3 k3 HPU HPU2 HR
              go_wp2_with (at_builtin; refine wpList_append_q rfl (.tmp 84) (.tmp 87) 55 rfl w.heap.size Try.underlying55 (.slice A9 xs.length c9) (xs.map (·.no)) rfl HS4.out.row ⟨w3.heap.size, 0, none⟩ (k : Int) rfl (by exact cell_one_new _ _ _) (by rw [List.length_map]; omega) HS4.out.bel.size ?_; intro v5 w5 hr5 hg5 hat5)
              have hT := HS4.out.row_ hr5 hg5 hat5
              obtain ⟨A5, c5, e5, -⟩ := q_slice hr5
              rw [show (xs.map (·.no) ++ [(k : Int)]).length = xs.length + 1 by simp] at e5
              subst e5
              rw [show xs.map (·.no) ++ [(k : Int)] = (xs ++ [(⟨k, q, ac.data⟩ : It)]).map (·.no) by simp] at hT
              have HT := Aside0.mk hT
              have HLN := Aside0.mk (show (((xs ++ [(⟨k, q, ac.data⟩ : It)]).length : Nat) : Int) = (xs.length : Int) + 1 by simp)
              clear hr5 hg5 hat5 hT
              have HLen : Calls Try.prog 21 #[.pointer (some ⟨w.heap.size, 0, none⟩)] w5 fun e w' => e = .returned (.int .i64 ((xs.length : Int) + 1)) ∧ w5 = w' := by have := len_any _ _ _ _ _ _ _ HT.out.q; rw [HLN.out] at this; exact this
              have HSz : Calls Try.prog 22 #[.pointer (some ⟨w.heap.size, 0, none⟩)] w5 fun e w' => e = .returned (.int .i64 (sz (xs ++ [(⟨k, q, ac.data⟩ : It)]))) ∧ w5 = w' := size_any _ _ _ _ _ _ _ HT.out.q
              have HDr : Calls Try.prog 23 #[.pointer (some ⟨w.heap.size, 0, none⟩)] w5 fun e w' => e = .returned (.int .u64 (d)) ∧ w5 = w' := drops_any _ _ _ _ _ _ _ HT.out.q
              have dL : decide (items < (xs.length : Int) + 1) = false := decide_eq_false (by have := HT.out.ok.many; rw [HLN.out] at this; omega)
              have dZ : decide (size < sz (xs ++ [(⟨k, q, ac.data⟩ : It)])) = false := decide_eq_false (by have := HT.out.ok.size; first | omega | (simp [sz] at this; omega))
              have HL8 := Aside0.mk HLen
              have HS8 := Aside0.mk HSz
              have HD8 := Aside0.mk HDr
              clear HLen HSz HDr
              go_wp2_with (first | (go_at_call 21; refine HL8.out.mono ?_; rintro e w8 ⟨rfl, rfl⟩) | (go_at_call 22; refine HS8.out.mono ?_; rintro e w8 ⟨rfl, rfl⟩) | (go_at_call 23; refine HD8.out.mono ?_; rintro e w8 ⟨rfl, rfl⟩))
              go_roundw
              case rel => exact ⟨k + 1, d, _, xs ++ [(⟨k, q, ac.data⟩ : It)], by go_num, by omega, rfl, by omega, by rw [List.length_append]; simp; omega, HT⟩
              case measure => simp [intOf]; omega
      ·
        obtain rfl : k = n := by omega
        obtain ⟨A9, c9, e9, h9⟩ := q_slice HS.out.row
        rw [List.length_map] at e9 h9
        subst e9
        have HS0 := Aside0.mk HS
        clear HS
        go_upto_region 37 with (fail)
        go_loopw [17] (fun i wz => ∃ (j : Nat) (D : Nat → Prop), i = .int .i64 j ∧ j ≤ xs.length ∧ Aside0 (St w wz w.heap.size D (xs.drop j) items size d (.slice A9 xs.length c9) (xs.map (·.no)))) (fun i _ => xs.length - (intOf i).toNat)
        case atStart => exact ⟨0, D, rfl, Nat.zero_le _, ⟨HS0.out.out⟩⟩
        case round =>
          obtain ⟨j, D2, rfl, hj, HSj⟩ := hrel
          by_cases hjl : j < xs.length
          · have hdr : xs.drop j = xs[j] :: xs.drop (j + 1) := List.drop_eq_getElem_cons hjl
            have hnx : (xs.map (·.no))[j]? = some xs[j].no := by rw [List.getElem?_map, List.getElem?_eq_getElem hjl]; rfl
            have hS := HSj.out
            rw [hdr] at hS
            generalize xs[j] = x at hS hnx
            have hcv : ∃ adv, A9 = some adv ∧ wr.cell? (adv.add j) = some (.int .u64 x.no) := by
              have hrow := hS.row
              rw [List.length_map] at hrow
              obtain ⟨adv, e, hc⟩ := q_cells hrow (by omega)
              exact ⟨adv, e, hc j (.int .u64 x.no) (by rw [List.getElem?_map, hnx]; rfl)⟩
            obtain ⟨adv, rfl, hcv⟩ := hcv
            have hbv : adv.block < wr.heap.size := q_lt hS.row _ rfl
            have hbD : ¬ D2 adv.block := hS.apart _ rfl
            have HP := Aside0.mk (pop_some D2 _ x _ items size d _ hS.q hS.ok (hS.few x (by simp)))
            have HSx := Aside0.mk hS
            have HCV := Aside0.mk hcv
            clear hdr hnx hS hcv HSj
            go_wp2_with fail
            refine HP.out.mono ?_
            rintro e w2 ⟨A2, n2, c2, rfl, d2, q2, k2⟩
            have cv2 := Lib.cell?_alloc_some (.cells #[.int .u64 x.no, .int .i64 x.size, .slice A2 n2 c2] 37) ((World.cell?_of_block (k2.block _ (by rw [ad_block]; exact hbv) (by rw [ad_block]; exact hbD))).trans HCV.out)
            have HS3 := Aside0.mk ((HSx.out.keep (q2.step fun _ _ h => ⟨rfl, .inl h⟩) k2 HSx.out.ok.pop HSx.out.few.pop).below (below_alloc (Below.refl _ _) (.cells #[.int .u64 x.no, .int .i64 x.size, .slice A2 n2 c2] 37)))
            clear d2 q2 k2
            go_upto_region 40 with (fail)
            go_quiet (fail)
            go_wp2
            go_roundw
            case rel => exact ⟨j + 1, _, by go_num, by omega, ⟨HS3.out.below (pw_below_drewN (Below.refl _ _) _)⟩⟩
            case measure => simp [intOf]; omega
          · obtain rfl : j = xs.length := by omega
            have hS := HSj.out
            rw [List.drop_length] at hS
            have HSE := Aside0.mk hS
            have HZ8 : Calls Try.prog 22 #[.pointer (some ⟨w.heap.size, 0, none⟩)] wr fun e w' => e = .returned (.int .i64 0) ∧ wr = w' := size_any _ _ _ _ _ _ _ hS.q
            have HZ := Aside0.mk HZ8
            clear hS HZ8
            go_wp2_with fail
            refine HZ.out.mono ?_
            rintro e w2 ⟨rfl, rfl⟩
            go_wp2_with fail
            refine (works_any _).mono ?_
            rintro e w2 ⟨rfl, b⟩
            go_wp2
            go_ret
            exact ⟨rfl, below_step HSE.out.bel (b.mono (Nat.le_refl _))⟩
end Go.Proofs.Ytdipihaefiobiaa.F
