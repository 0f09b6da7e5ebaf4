/- shaper.Shaper.Release; conditions: the shaper lies in memory. -/
import Derived.Test.YtballojildjbhaaSG
import Derived.Deep.AppendLies
namespace Go.Proofs.Ytballojildjbhaa.S
open Go Go.RowKit Go.Proofs.YtballojildjbhaaW.PrintWords Go.Proofs.YtballojildjbhaaW.PrintLast Go.Proofs.YtballojildjbhaaW.PrintMore Go.Proofs.Ytballojildjbhaa.F
attribute [local go_sem] max2_int min2_int max_two min_two
set_option linter.unusedVariables false
set_option linter.unusedSimpArgs false

/-- What the best is, where there is one. -/
theorem nextP_ok {t : Int} {ls : List Ls} : ∀ {k : Nat}, (nextP t ls k).ok = true → (nextP t ls k).cls < k ∧ ∃ l x ys, ls[(nextP t ls k).cls]? = some l ∧ l.xs = x :: ys ∧ whenL t l = some (nextP t ls k).at_
  | 0, h => by simp [nextP] at h
  | k + 1, h => by
    rw [nextP] at h ⊢
    cases hk : ls[k]? with
    | none =>
      rw [hk] at h
      obtain ⟨h1, h2⟩ := nextP_ok h
      exact ⟨Nat.lt_succ_of_lt h1, h2⟩
    | some l =>
      rw [hk] at h
      simp only at h ⊢
      unfold lookL at h ⊢
      cases hw : whenL t l with
      | none =>
        rw [hw] at h
        simp only at h ⊢
        obtain ⟨h1, h2⟩ := nextP_ok h
        exact ⟨Nat.lt_succ_of_lt h1, h2⟩
      | some u =>
        rw [hw] at h
        simp only at h ⊢
        by_cases hc : (nextP t ls k).ok = false ∨ u < (nextP t ls k).at_
        · rw [if_pos hc]
          refine ⟨Nat.lt_succ_self k, l, ?_⟩
          cases hx : l.xs with
          | nil => unfold whenL at hw; rw [hx] at hw; cases hw
          | cons x ys => exact ⟨x, ys, hk, rfl, hw⟩
        · rw [if_neg hc] at h ⊢
          obtain ⟨h1, h2⟩ := nextP_ok h
          exact ⟨Nat.lt_succ_of_lt h1, h2⟩
theorem whenL_ge {t u : Int} {l : Ls} (h : whenL t l = some u) : t ≤ u := by
  unfold whenL at h
  split at h
  · cases h
  · split at h
    · injection h with h
      subst h
      split <;> omega
    · cases h
theorem nextS_ok {t : Int} {ls : List Ls} (h : (nextS t ls).ok = true) : (nextS t ls).cls < ls.length ∧ t ≤ (nextS t ls).at_ ∧ ∃ l x ys, ls[(nextS t ls).cls]? = some l ∧ l.xs = x :: ys := by
  obtain ⟨h1, l, x, ys, h2, h3, h4⟩ := nextP_ok h
  exact ⟨h1, whenL_ge h4, l, x, ys, h2, h3⟩

/-- The tick turns. -/
theorem Sh.tick {W : World} {O : Nat → Nat} {s : Nat} {t t' : Int} {ls : List Ls} (h : Sh W O s t ls) : Sh (W.setCell ⟨s, 0, none⟩ (.int .u64 t')) O s t' ls := by
  obtain ⟨ho, ⟨A, c, hb, hr⟩, hlt⟩ := h
  refine ⟨ho, ⟨A, c, blk_put hb 0 _ rfl, fun hn => ?_⟩, fun k hk => by simpa [World.setCell] using hlt k hk⟩
  obtain ⟨r, cs, e, hor, hh, hc⟩ := hr hn
  have hne : r ≠ s := blk_ne hh hb (by decide)
  refine ⟨r, cs, e, hor, (heap_far hne).trans hh, fun i l hi => ?_⟩
  obtain ⟨p, hp, hL⟩ := hc i l hi
  exact ⟨p, hp, hL.step fun k hk hD => ⟨heap_far (by rintro rfl; omega), hD⟩⟩

/-- Release, between two rounds. -/
structure RI (T : Int) (w0 : World) (O : Nat → Nat) (s : Nat) (t0 : Int) (ls0 : List Ls) (g : Nat) (W : World) (v : Value) (t : Int) (ls : List Ls) (os : List Ot) (cs : List Value) : Prop where
  st : Steps T t0 ls0 os t ls
  ok : ∀ l, l ∈ ls → LOk l
  len : ls.length = ls0.length
  cnt : os.length + cnt ls = cnt ls0
  ghost : g = S.cnt ls
  tu : B.U64 t
  sh : Sh W O s t ls
  row : OR w0 W v os cs
  keep : KeepD w0 W fun k => O k ≠ 0

set_option maxHeartbeats 400000 in
theorem release_nil (T : Int) (w : World) : Calls Try.prog 12 #[.pointer none, .int .u64 T] w fun e w' => e = .returned (.slice none 0 0) ∧ w = w' := by
  go_enter Try.func12, Try.ntmps12
  go_wp2
  go_ret
  exact ⟨rfl, rfl⟩

theorem set_mem {α : Type} {l : List α} {i : Nat} {a b : α} (h : b ∈ l.set i a) : b ∈ l ∨ b = a := List.mem_or_eq_of_mem_set h

set_option maxRecDepth 100000 in
set_option maxHeartbeats 2000000 in
theorem release_any (O : Nat → Nat) (s : Nat) (tick : Int) (ls : List Ls) (T T' : Int) (w : World) (h : Sh w O s tick ls) (hl : ∀ l, l ∈ ls → LOk l) (hn : ls.length ≤ 65536) (hc : cnt ls ≤ 65536)
    (ht : B.U64 tick) (hT : B.U64 T) (hT' : (if T < tick then tick else T) = T') :
    Calls Try.prog 12 #[.pointer (some ⟨s, 0, none⟩), .int .u64 T] w fun e w' => ∃ v os cs ls', e = .returned v ∧ OR w w' v os cs ∧ Rel T' tick ls os ls' ∧ Sh w' O s T' ls' ∧ KeepD w w' (fun k => O k ≠ 0) := by
  obtain ⟨i0, hi0, hz0, hz1, hz2⟩ := info_parts info_out
  have hTU : B.U64 T' := by subst hT'; split <;> assumption
  have HI := Aside0.mk (⟨.none _ _, hl, rfl, by simp, rfl, ht, h, OR.nil _ _, KeepD.of_below (Below.refl _ _) _⟩ : RI T' w O s tick ls (cnt ls) w (.slice none 0 0) tick ls [] [])
  obtain ⟨A, c, hb, hr⟩ := h.box
  have c0 : w.cell? ⟨s, 0, none⟩ = some (.int .u64 tick) := (blk_cell hb 0).trans rfl
  have HTU := Aside0.mk hTU
  have HI0 := Aside0.mk h
  clear h hl hb hr ht hT hTU
  go_enter Try.func12, Try.ntmps12
  go_wp2_with fail
  go_loopg [4] (cnt ls) (fun g v wr => ∃ A c t1 ls1 os cs, v = .slice A os.length c ∧ RI T' w O s tick ls g wr (.slice A os.length c) t1 ls1 os cs)
  case atStart => exact ⟨none, 0, tick, ls, [], [], rfl, HI.out⟩
  case round =>
    obtain ⟨A1, cc1, t1, ls1, os, cs, rfl, hri⟩ := hrel
    have HR := Aside0.mk hri
    clear hri c0 HI
    go_wp2_with fail
    refine (next_any O s t1 ls1 wr HR.out.sh HR.out.ok (by have := HR.out.len; omega)).mono ?_
    rintro e w2 ⟨rfl, hb2⟩
    have HB2 := Aside0.mk hb2
    have HS2 := Aside0.mk (HR.out.sh.below hb2)
    have HO2 := Aside0.mk (HR.out.row.below hb2)
    have HK2 := Aside0.mk (HR.out.keep.trans (KeepD.of_below hb2 (fun k => O k ≠ 0)) fun _ _ h => h)
    clear hb2
    obtain ⟨⟨at1, cl, ok1⟩, hN⟩ : ∃ z, nextS t1 ls1 = z := ⟨_, rfl⟩
    rw [hN]
    have HN := Aside0.mk hN
    clear hN
    obtain ⟨A2, c2, hb2, hr2⟩ := HS2.out.box
    have d0 : w2.cell? ⟨s, 0, none⟩ = some (.int .u64 t1) := (blk_cell hb2 0).trans rfl
    have f0 : w2.frozen? ⟨s, 0, none⟩ = false := blk_frozen hb2 0
    have HR2 := Aside0.mk hr2
    have HBX := Aside0.mk hb2
    have hOs : O s = 1 := HS2.out.own
    have HOS := Aside0.mk hOs
    have hsl : s < w.heap.size := by
      have h1 := HI0.out.lt s (by omega)
      exact h1
    clear hb2 hr2 hOs
    have stop : ok1 = false ∨ T' < at1 → ∃ ls', Rel T' tick ls os ls' ∧ ls' = ls1 := fun hs => ⟨ls1, ⟨t1, HR.out.st, by rw [HN.out]; exact hs⟩, rfl⟩
    have HST := Aside0.mk stop
    have HFin := Aside0.mk (show OR w (w2.setCell ⟨s, 0, none⟩ (.int .u64 T')) (.slice A1 os.length cc1) os cs ∧ Sh (w2.setCell ⟨s, 0, none⟩ (.int .u64 T')) O s T' ls1 ∧ KeepD w (w2.setCell ⟨s, 0, none⟩ (.int .u64 T')) (fun k => O k ≠ 0) from
      ⟨HO2.out.step fun k _ hk => heap_far (by omega), HS2.out.tick, HK2.out.set_ (.inr (by rw [HOS.out]; decide))⟩)
    clear stop
    cases ok1
    · go_wp2_with fail
      go_ret
      obtain ⟨ls', h1, rfl⟩ := HST.out (.inl trivial)
      exact ⟨_, os, cs, _, rfl, HFin.out.1, h1, HFin.out.2.1, HFin.out.2.2⟩
    · by_cases hat : T' < at1
      · have hb : decide (T' < at1) = true := decide_eq_true hat
        go_wp2_with fail
        go_ret
        obtain ⟨ls', h1, rfl⟩ := HST.out (.inr hat)
        exact ⟨_, os, cs, _, rfl, HFin.out.1, h1, HFin.out.2.1, HFin.out.2.2⟩
      · have hb : decide (T' < at1) = false := decide_eq_false hat
        obtain ⟨hcl, hge, l, x, ys, hlc, hlx⟩ := nextS_ok (t := t1) (ls := ls1) (by rw [HN.out])
        rw [HN.out] at hcl hge hlc
        have hclr : cl < ls1.length := hcl
        obtain ⟨r, c3, p, hs3, hp3, hL3⟩ := HS2.out.line_ hlc
        have hLok := HR.out.ok l (List.mem_of_getElem? hlc)
        have hat1 : B.U64 at1 := ⟨by have := HR.out.tu.1; have h2 : t1 ≤ at1 := hge; omega, by have := HTU.out.2; omega⟩
        have hL3' : Ln (w2.setCell ⟨s, 0, none⟩ (.int .u64 at1)) (fun k => O k = cl + 2) p l := hL3.step fun k _ hD => ⟨heap_far (by rintro rfl; have := HOS.out; omega), hD⟩
        have HL3 := Aside0.mk hL3'
        have HLK := Aside0.mk hLok
        have HLX := Aside0.mk hlx
        have HLC := Aside0.mk hlc
        have HAT := Aside0.mk hat1
        have hrs : ¬ r = s := (HS2.out.row_ne (by omega) hs3).1
        have hrs2 : ¬ s = r := Ne.symm hrs
        have e1 : w2.cell? ⟨s, 1, none⟩ = some (.slice (some ⟨r, 0, none⟩) ls1.length c3) := (blk_cell hs3 1).trans rfl
        have k0 : (0 : Int) ≤ cl := by omega
        have k1 : (cl : Int) < ls1.length := by omega
        have hS3 := HS2.out.tick (t' := at1)
        have HT := Aside0.mk (fun W' l' hk hL' => hS3.turn0 (W' := W') (l' := l') hlc (r0 := r) (c0 := c3) (p := p) (blk_put hs3 0 (.int .u64 at1) rfl) ((World.cell?_of_block (heap_far hrs)).trans hp3) hk hL')
        have HLT3 := Aside0.mk hS3.lt
        have HO3 := Aside0.mk (HO2.out.step (W' := w2.setCell ⟨s, 0, none⟩ (.int .u64 at1)) fun k _ hk => heap_far (by omega))
        have HK3 := Aside0.mk (HK2.out.set_ (g := s) (i := 0) (v := .int .u64 at1) (.inr (by rw [HOS.out]; decide)))
        have HST1 := Aside0.mk (HR.out.st.snoc (by rw [HN.out]) (by rw [HN.out]; show at1 ≤ T'; omega) (by rw [HN.out]; exact hlc) hlx)
        rw [HN.out] at HST1
        have HCNT := Aside0.mk (cnt_set (l' := outL l x ys at1) hlc)
        have hlen : os.length + cnt ls1 ≤ 65536 := by have := HR.out.cnt; omega
        have hx1 : l.xs.length = ys.length + 1 := by rw [hlx]; rfl
        have HX1 := Aside0.mk hx1
        have hc1 : 0 < cnt ls1 := by have := cnt_set (l' := outL l x ys at1) hlc; rw [hx1, show (outL l x ys at1).xs.length = ys.length from rfl] at this; omega
        clear HFin HST hs3 hL3 hL3' hLok hlx hlc hat1 hcl hS3 hx1
        go_wp2_with fail
        refine (out_any (fun k => O k = cl + 2) p l x ys at1 _ HL3.out HLK.out HLX.out HAT.out (fun k hk => HLT3.out k (by omega))).mono ?_
        rintro e w4 ⟨A4, n4, c4, rfl, hd4, hl4, hk4⟩
        have HS4 := Aside0.mk (HT.out w4 _ hk4 hl4)
        have HO4 := Aside0.mk (HO3.out.step (W' := w4) fun k hk hk2 => hk4.block k hk (fun e => by have e' : O k = cl + 2 := e; have := HI0.out.lt k (by omega); omega))
        have HK4 := Aside0.mk (HK3.out.trans hk4 fun k _ h => by show O k ≠ 0; omega)
        have HD4 := Aside0.mk hd4
        have hsz4 : w.heap.size ≤ w4.heap.size := HK4.out.size
        have HSZ3 := Aside0.mk HK3.out.size
        clear hd4 hl4 hk4 HT HL3 e1 hp3
        go_wp2_with (at_builtin; refine wpList_append_lies _ rfl (.tmp 38) (.tmp 51) 36 rfl w.heap.size 55 i0 _ 5 56 Try.underlying36 hi0 hz0 hz1 hz2 rfl (by decide) (.slice A1 os.length cc1) os.length cs rfl (HO4.out.row.alloc _) ⟨w4.heap.size, 0, none⟩ 1 1 (otc ⟨at1, cl, x⟩ A4 n4 c4) rfl rfl (World.news_of_block (blk_new w4 (.cells #[.int .u64 at1, .int .i64 cl, .int .u64 x.no, .int .i64 x.size, .slice A4 n4 c4] 55))) (by simp [otc, Value.oneCell']) (by omega) (by unfold maxLen; omega) (by omega) (by simp; omega) _ rfl ?_; intro g cap w5 hown hgrow _ _)
        have hbl := below_alloc (Below.refl _ w4) (.cells #[.int .u64 at1, .int .i64 cl, .int .u64 x.no, .int .i64 x.size, .slice A4 n4 c4] 55)
        have HS5 := Aside0.mk ((HS4.out.below hbl).step (W' := w5) (O' := O) (fun k hk hO => ⟨hgrow.block k hk (fun e => by
            have h1 := HI0.out.lt k hO
            have h2 := own_base HO4.out.row e.symm
            omega), rfl⟩) fun k hO => Nat.lt_of_lt_of_le ((HS4.out.below hbl).lt k hO) hgrow.size)
        have HO5 := Aside0.mk (OR.snoc HO3.out (HO4.out.below hbl) ⟨at1, cl, x⟩ A4 n4 c4 hown hgrow HSZ3.out (HD4.out.step (W' := w4.alloc (.cells #[.int .u64 at1, .int .i64 cl, .int .u64 x.no, .int .i64 x.size, .slice A4 n4 c4] 55)) (D' := fun k => (w2.setCell ⟨s, 0, none⟩ (.int .u64 at1)).heap.size ≤ k ∧ U8 (w4.alloc (.cells #[.int .u64 at1, .int .i64 cl, .int .u64 x.no, .int .i64 x.size, .slice A4 n4 c4] 55)) k) fun k hk hD => ⟨hbl.block k hk, hD.1, hD.2.same (hbl.block k hk)⟩))
        have HK5 := Aside0.mk (show KeepD w w5 (fun k => O k ≠ 0) from by
          have k1 := HK4.out.trans (KeepD.of_below hbl (fun k => O k ≠ 0)) fun _ _ h => h
          exact ⟨hgrow.os.trans k1.os, hgrow.tape.trans k1.tape, hgrow.output.trans k1.output, Nat.le_trans k1.size hgrow.size, fun k hk hO => (hgrow.block k (Nat.lt_of_lt_of_le hk k1.size) (fun e => by
            have h2 := own_base HO4.out.row e.symm
            omega)).trans (k1.block k hk hO)⟩)
        clear hown hgrow hbl
        have hgk := HR.out.ghost
        have hcc : cnt (ls1.set cl (outL l x ys at1)) + 1 = cnt ls1 := by have h1 := HCNT.out; have h2 := HX1.out; rw [h2, show (outL l x ys at1).xs.length = ys.length from rfl] at h1; omega
        have HCC := Aside0.mk hcc
        have HGK := Aside0.mk hgk
        clear hcc hgk
        go_roundg (cnt (ls1.set cl (outL l x ys at1)))
        case measure => have h1 := HCC.out; have h2 := HGK.out; omega
        case rel =>
          refine ⟨_, _, at1, ls1.set cl (outL l x ys at1), os ++ [⟨at1, cl, x⟩], cs ++ otc ⟨at1, cl, x⟩ A4 n4 c4, by rw [List.length_append]; rfl, ⟨HST1.out, ?_, ?_, ?_, rfl, HAT.out, HS5.out, ?_, HK5.out⟩⟩
          · intro m hm
            rcases set_mem hm with h | rfl
            · exact HR.out.ok m h
            · exact HLK.out.out HLX.out HAT.out
          · rw [List.length_set]; exact HR.out.len
          · have h1 := HCC.out; have h2 := HR.out.cnt; rw [List.length_append, List.length_singleton]; omega
          · have h5 := HO5.out
            rw [List.length_append, List.length_singleton]; exact h5
end Go.Proofs.Ytballojildjbhaa.S
