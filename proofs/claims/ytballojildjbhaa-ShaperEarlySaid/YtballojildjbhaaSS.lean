/- ShaperEarly's walk; conditions: the classes and the acts lie in memory. -/
import Derived.Test.YtballojildjbhaaSR
namespace Go.Proofs.Ytballojildjbhaa.S
open Go Go.RowKit Go.Proofs.YtballojildjbhaaW.PrintWords Go.Proofs.YtballojildjbhaaW.PrintLast Go.Proofs.YtballojildjbhaaW.PrintMore Go.Proofs.Ytballojildjbhaa.F
set_option linter.unusedVariables false
set_option linter.unusedSimpArgs false

/-- Release up to a tick that is not behind. -/
theorem release_up (w0 : World) (O : Nat → Nat) (s : Nat) (tick : Int) (ls : List Ls) (m : Nat) (T : Int) (w : World) (h : Sq w0 w O s tick ls m) (hm : m ≤ 65536) (hT : B.U64 T) (htT : tick ≤ T) :
    Calls Try.prog 12 #[.pointer (some ⟨s, 0, none⟩), .int .u64 T] w fun e w' => ∃ v cs, e = .returned v ∧ OR w w' v (relS T tick ls).1 cs ∧ Sq w0 w' O s T (relS T tick ls).2 m ∧ Goes w w' O O := by
  have := release_q w0 O s tick ls m T w h hm hT
  rw [if_neg (by omega)] at this
  exact this

/-- Two worlds that keep what lay there at first. -/
theorem between {w0 W W' : World} (h : Below w0.heap.size w0 W) (h' : Below w0.heap.size w0 W') : ∀ k, k < w0.heap.size → W'.heap[k]? = W.heap[k]? :=
  fun k hk => (h'.block k hk).trans (h.block k hk).symm
/-- What a class's numbers are. -/
def ClWf (cs : List Cl) : Prop := ∀ x, x ∈ cs → B.U64 x.rate ∧ B.U64 x.burst ∧ x.size ≤ 9223372036854775807

/-- The second shaper, tick by tick; what it gave, joined; what the first one gave. -/
structure TI (w wr0 w5 W : World) (O2 : Nat → Nat) (s2 : Nat) (lsN : List Ls) (m : Nat) (vw : Value) (osw : List Ot) (csw : List Value) (T : Nat) (gv : Value) (gos : List Ot) (gcs : List Value) : Prop where
  b : ∃ p, p ≤ 7 + (T : Int) ∧ Sq w W O2 s2 p (ticksF 7 lsN T).2 m ∧ relS (7 + T) p (ticksF 7 lsN T).2 = relS (7 + T) (7 + T) (ticksF 7 lsN T).2
  g : gos = (ticksF 7 lsN T).1
  got : OW w5 W gv gos gcs
  want : OW wr0 W vw osw csw
  sz : w5.heap.size ≤ W.heap.size
theorem TI.below {w wr0 w5 W W' : World} {O2 : Nat → Nat} {s2 : Nat} {lsN : List Ls} {m : Nat} {vw : Value} {osw : List Ot} {csw : List Value} {T : Nat} {gv : Value} {gos : List Ot} {gcs : List Value}
    (h : TI w wr0 w5 W O2 s2 lsN m vw osw csw T gv gos gcs) (hb : Below W.heap.size W W') : TI w wr0 w5 W' O2 s2 lsN m vw osw csw T gv gos gcs := by
  obtain ⟨⟨p, h1, h2, h3⟩, h4, h5, h6, h7⟩ := h
  exact ⟨⟨p, h1, h2.below hb, h3⟩, h4, h5.below hb, h6.below hb, Nat.le_trans h7 hb.size⟩

theorem OW.own_lt {w0 W : World} {v : Value} {os : List Ot} {cs : List Value} (h : OW w0 W v os cs) {k : Nat} (hk : v.ownBlock = some k) : k < W.heap.size := by
  rcases h.row.2 with ⟨e, _⟩ | ⟨g, cap, cu, e, hb, hh, _⟩
  · rw [e] at hk; simp [Value.ownBlock] at hk
  · rw [e] at hk
    have : g = k := by simpa [Value.ownBlock] using hk
    subst this
    exact blk_lt hh

/-- One tick more. -/
theorem TI.next {w wr0 w5 W W6 Wz W8 : World} {O2 : Nat → Nat} {s2 : Nat} {lsN : List Ls} {m : Nat} {vw : Value} {osw : List Ot} {csw : List Value} {T : Nat} {gv v8 : Value} {gos os1 : List Ot} {gcs cs8 : List Value}
    (h : TI w wr0 w5 W O2 s2 lsN m vw osw csw T gv gos gcs) (hb6 : Sq w W6 O2 s2 (7 + T) (relS (7 + T) (7 + T) (ticksF 7 lsN T).2).2 m) (hw6 : OW wr0 W6 vw osw csw) (hg6 : OW w5 W6 gv gos gcs) (hbz : Below W6.heap.size W6 Wz)
    (hgr : Wz.grownBy W8 gv.ownBlock) (h8 : OW w5 W8 v8 (gos ++ os1) cs8) (hos1 : (relS (7 + T) (7 + T) (ticksF 7 lsN T).2).1 = os1) (hO2 : ∀ k, O2 k ≠ 0 → k < wr0.heap.size) (hsz : wr0.heap.size ≤ w5.heap.size) (hsz7 : w5.heap.size ≤ Wz.heap.size) (hw5 : OW wr0 w5 vw osw csw) :
    TI w wr0 w5 W8 O2 s2 lsN m vw osw csw (T + 1) v8 (gos ++ os1) cs8 := by
  have hgb : ∀ k, gv.ownBlock = some k → w5.heap.size ≤ k := fun k hk => own_base hg6.row hk
  refine ⟨⟨7 + T, by omega, ?_, ?_⟩, ?_, h8, ?_, Nat.le_trans hsz7 hgr.size⟩
  · have hbz6 := hb6.below hbz
    have hlt := hbz6.sh.lt
    refine ⟨hbz6.sh.step (W' := W8) (O' := O2) (fun k hk hO => ⟨hgr.block k hk (fun e => ?_), rfl⟩) fun k hk => Nat.lt_of_lt_of_le (hlt k hk) hgr.size, hbz6.new, hbz6.bel.grown hgr hbz6.bel.size fun k hk => ?_, hbz6.inv, hbz6.tu⟩
    · have h1 := hgb k e.symm
      have h2 := hO2 k hO
      omega
    · have h1 := hgb k hk
      have h2 := h.b
      obtain ⟨p, _, h3, _⟩ := h2
      have h4 := hbz6.bel.size
      have h5 : w.heap.size ≤ w5.heap.size := Nat.le_of_not_lt fun hlt => by
        have h6 := hbz6.bel.block
        have : s2 < wr0.heap.size := hO2 s2 (by rw [hb6.sh.own]; decide)
        have := hb6.new s2 (by rw [hb6.sh.own]; decide)
        omega
      omega
  · have e : (7 : Int) + ((T + 1 : Nat) : Int) = 7 + T + 1 := by omega
    rw [e]
    exact relS_from (by omega) (by
      rcases relS_stop (T := 7 + (T : Int)) (t := 7 + T) (ls := (ticksF 7 lsN T).2) (Int.le_refl _) with h1 | h1
      · exact .inl h1
      · exact .inr (by show 7 + (T : Int) + 1 ≤ (nextS (7 + T) (relS (7 + T) (7 + T) (ticksF 7 lsN T).2).2).at_; omega))
  · rw [h.g, ← hos1]; rfl
  · refine (hw6.below hbz).step fun k hk hk2 hcase => hgr.block k hk (fun e => ?_)
    have h1 := hgb k e.symm
    rcases hcase with h2 | h2
    · have := hw5.own_lt h2; omega
    · exact out_far (hg6.below hbz) h2 e

set_option maxRecDepth 100000 in
set_option maxHeartbeats 8000000 in
theorem early_any (A : Option Addr) (n c : Nat) (cs : List Cl) (A2 : Option Addr) (n2 c2 : Nat) (l : List Ac) (tk : Int) (w : World) (hc : Cls w w.heap.size A n cs) (hcw : ClWf cs) (hl : Acts w w.heap.size A2 n2 l) (hn : n ≤ maxLen) (hn2 : n2 ≤ maxLen) (ht0 : 0 ≤ tk) (ht1 : tk ≤ 255) :
    Calls Try.prog 5 #[.slice A n c, .slice A2 n2 c2, .int .u8 tk] w fun e w' => e = .returned (.bool true) ∧ Below w.heap.size w w' := by
  have HF := Aside0.mk (few_any w.heap.size A2 n2 c2 12 l w hl hn2 (by omega))
  have HC := Aside0.mk hc
  have HCW := Aside0.mk hcw
  have HA := Aside0.mk hl
  have HN := Aside0.mk hn
  unfold maxLen at hn hn2
  clear hc hcw hl
  by_cases h6 : 6 < n
  · have hb6 : decide (6 < (n : Int)) = true := decide_eq_true (by omega)
    go_enter Try.func5, Try.ntmps5
    go_wp2_with fail
    refine (works_any _).mono ?_
    rintro e w1 ⟨rfl, b⟩
    have HB := Aside0.mk b
    clear b
    go_wp2_with fail
    go_ret
    exact ⟨rfl, HB.out⟩
  have hb6 : decide (6 < (n : Int)) = false := decide_eq_false (by omega)
  cases hfw : fewB l 12
  · rw [hfw] at HF
    clear hfw
    go_enter Try.func5, Try.ntmps5
    go_wp2_with fail
    refine HF.out.mono ?_
    rintro e w1 ⟨rfl, rfl⟩
    go_wp2_with fail
    refine (works_any _).mono ?_
    rintro e w1 ⟨rfl, b⟩
    have HB := Aside0.mk b
    clear b
    go_wp2_with fail
    go_ret
    exact ⟨rfl, HB.out⟩
  rw [hfw] at HF
  obtain ⟨hl12, hl20⟩ := fewB_true hfw
  have HL20 := Aside0.mk hl20
  have hn12 : n2 ≤ 12 := by rw [HA.out.1]; exact hl12
  clear hfw hl12 hl20
  go_enter Try.func5, Try.ntmps5
  go_wp2_with fail
  refine HF.out.mono ?_
  rintro e w1 ⟨rfl, rfl⟩
  go_wp2_with fail
  refine (snew_any 7 A n c cs w HC.out HN.out).mono ?_
  rintro e w1 ⟨hb1, hcase⟩
  have HB1 := Aside0.mk hb1
  have HC1 := Aside0.mk (show Cls w1 w1.heap.size A n cs from by
    have h1 := HC.out.below hb1
    exact ⟨h1.1, fun h0 => by obtain ⟨ad, e, hlt, hx⟩ := h1.2 h0; exact ⟨ad, e, Nat.lt_of_lt_of_le hlt hb1.size, hx⟩⟩)
  clear hb1
  rcases hcase with ⟨hok, s1, O1, rfl, hs1, hO1⟩ | ⟨hbad, rfl⟩
  · go_wp2_with fail
    refine (snew_any 7 A n c cs w1 HC1.out HN.out).mono ?_
    rintro e w2 ⟨hb2, ⟨_, s2, O2, rfl, hs2, hO2⟩ | ⟨hbad, _⟩⟩
    · have HT := Aside0.mk (⟨⟨hs1.below hb2, hO1, below_step HB1.out hb2, Inv.new hok ⟨by omega, by omega⟩ HCW.out, ⟨by omega, by omega⟩⟩,
        ⟨hs2, fun k hk => Nat.le_trans HB1.out.size (hO2 k hk), below_step HB1.out hb2, Inv.new hok ⟨by omega, by omega⟩ HCW.out, ⟨by omega, by omega⟩⟩,
        fun k hk => Classical.byContradiction fun hn => by have := hs1.lt k hk; have := hO2 k hn; omega⟩ : Two w w2 O1 O2 s1 s2 7 (cs.map (newL 7)) 7 (cs.map (newL 7)) 0)
      clear hs1 hO1 hs2 hO2 hb2 hok
      go_wp2_with fail
      obtain ⟨ls0, hls0⟩ : ∃ ls0, Aside0 (cs.map (newL 7) = ls0) := ⟨_, ⟨rfl⟩⟩
      rw [hls0.out] at HT
      go_loopw [11] (fun i wr => ∃ k : Nat, ∃ O1 O2, k ≤ n2 ∧ i = .int .i64 k ∧ Two w wr O1 O2 s1 s2 7 (offs ls0 (l.take k)) 7 (offs ls0 (l.take k)) k) (fun i _ => n2 - (intOf i).toNat)
      case atStart => exact ⟨0, O1, O2, Nat.zero_le _, rfl, HT.out⟩
      case round =>
        obtain ⟨k, O1, O2, hk, rfl, htw⟩ := hrel
        have HTW := Aside0.mk htw
        clear htw HT
        by_cases hlt : k < n2
        · obtain ⟨ad, rfl, hadb, hacts⟩ := HA.out.2 (by omega)
          have hkl : k < l.length := by have := HA.out.1; omega
          have hat := (hacts k l[k] (List.getElem?_eq_getElem hkl)).below HTW.out.a.bel (by rw [ad_block]; exact hadb)
          have HLK := Aside0.mk (List.getElem?_eq_getElem hkl)
          have hd20 := HL20.out l[k] (List.getElem_mem hkl)
          generalize l[k] = a at *
          obtain ⟨A3, n3, c3, x0, x1, x2, x3, x4, x5, hd3⟩ := hat
          have HD3 := Aside0.mk hd3
          have hblk : (ad.add (k * 6)).block < w.heap.size := by rw [ad_block]; exact hadb
          clear hacts hd3
          have k0 : (0 : Int) ≤ k := by omega
          have k1 : (k : Int) < n2 := by omega
          go_wp2_with fail
          have HSB := Aside0.mk (fun (W : World) (hW : Below w.heap.size w W) => (show W.cell? ⟨(ad.add (k * 6)).block, (ad.add (k * 6)).off + 1, none⟩ = some (.int .i64 a.cls) ∧ W.cell? ⟨(ad.add (k * 6)).block, (ad.add (k * 6)).off + 2, none⟩ = some (.int .u64 a.it.no) ∧ W.cell? ⟨(ad.add (k * 6)).block, (ad.add (k * 6)).off + 2 + 1, none⟩ = some (.int .i64 a.it.size) ∧ W.cell? ⟨(ad.add (k * 6)).block, (ad.add (k * 6)).off + 2 + 2, none⟩ = some (.slice A3 n3 c3) from by
            have key : ∀ p : Addr, p.block = (ad.add (k * 6)).block → W.cell? p = wr.cell? p := fun p hp => World.cell?_of_block (by rw [hp]; exact between HTW.out.a.bel hW _ hblk)
            exact ⟨(key ⟨_, _, none⟩ rfl).trans x1, (key ⟨_, _, none⟩ rfl).trans x2, (key ⟨_, _, none⟩ rfl).trans x3, (key ⟨_, _, none⟩ rfl).trans x4⟩))
          have HO1 := Aside0.mk (((HTW.out.below (below_drew (Below.refl _ _))).offer1 a.cls a.it A3 n3 c3 (by omega) (by omega) (HD3.out.step fun j _ hj => ⟨rfl, hj⟩)).mono (R' := fun e w' => e = .returned (.int .i64 (offS (offs ls0 (l.take k)) a.cls a.it).1) ∧ (∃ O1', Two w w' O1' O2 s1 s2 7 (offS (offs ls0 (l.take k)) a.cls a.it).2 7 (offs ls0 (l.take k)) (k + 1)) ∧
            (w'.cell? ⟨(ad.add (k * 6)).block, (ad.add (k * 6)).off + 1, none⟩ = some (.int .i64 a.cls) ∧ w'.cell? ⟨(ad.add (k * 6)).block, (ad.add (k * 6)).off + 2, none⟩ = some (.int .u64 a.it.no) ∧ w'.cell? ⟨(ad.add (k * 6)).block, (ad.add (k * 6)).off + 2 + 1, none⟩ = some (.int .i64 a.it.size) ∧ w'.cell? ⟨(ad.add (k * 6)).block, (ad.add (k * 6)).off + 2 + 2, none⟩ = some (.slice A3 n3 c3)))
            (fun e w' hh => ⟨hh.1, hh.2, by
              obtain ⟨_, O1', h2⟩ := hh
              exact HSB.out w' h2.a.bel⟩))
          have HO2 := Aside0.mk (fun (W : World) (h : ∃ O1', Two w W O1' O2 s1 s2 7 (offS (offs ls0 (l.take k)) a.cls a.it).2 7 (offs ls0 (l.take k)) (k + 1)) => (show Calls Try.prog 11 #[.pointer (some ⟨s2, 0, none⟩), .int .i64 a.cls, .agg #[.int .u64 a.it.no, .int .i64 a.it.size, .slice A3 n3 c3]] W fun e w' => e = .returned (.int .i64 (offS (offs ls0 (l.take k)) a.cls a.it).1) ∧ (∃ O1' O2', Two w w' O1' O2' s1 s2 7 (offS (offs ls0 (l.take k)) a.cls a.it).2 7 (offS (offs ls0 (l.take k)) a.cls a.it).2 (k + 1)) ∧
            (w'.cell? ⟨(ad.add (k * 6)).block, (ad.add (k * 6)).off + 1, none⟩ = some (.int .i64 a.cls) ∧ w'.cell? ⟨(ad.add (k * 6)).block, (ad.add (k * 6)).off + 2, none⟩ = some (.int .u64 a.it.no) ∧ w'.cell? ⟨(ad.add (k * 6)).block, (ad.add (k * 6)).off + 2 + 1, none⟩ = some (.int .i64 a.it.size) ∧ w'.cell? ⟨(ad.add (k * 6)).block, (ad.add (k * 6)).off + 2 + 2, none⟩ = some (.slice A3 n3 c3)) from by
              obtain ⟨O1', h⟩ := h
              refine (h.offer2 HTW.out.b.inv a.cls a.it A3 n3 c3 (by omega) (by omega) (HD3.out.step fun j _ hj => ⟨between HTW.out.a.bel h.a.bel j hj, hj⟩)).mono ?_
              rintro e w' ⟨rfl, O2', h2⟩
              exact ⟨rfl, ⟨O1', O2', h2⟩, HSB.out w' h2.a.bel⟩))
          have y0 := HSB.out wr.drew (below_drew HTW.out.a.bel)
          obtain ⟨d0, d1, d2, d3⟩ := id y0
          clear x0 x1 x2 x3 x4 x5
          go_region_held3 (fun W => W.cell? ⟨(ad.add (k * 6)).block, (ad.add (k * 6)).off + 1, none⟩ = some (.int .i64 a.cls) ∧ W.cell? ⟨(ad.add (k * 6)).block, (ad.add (k * 6)).off + 2, none⟩ = some (.int .u64 a.it.no) ∧ W.cell? ⟨(ad.add (k * 6)).block, (ad.add (k * 6)).off + 2 + 1, none⟩ = some (.int .i64 a.it.size) ∧ W.cell? ⟨(ad.add (k * 6)).block, (ad.add (k * 6)).off + 2 + 2, none⟩ = some (.slice A3 n3 c3))
            (first | (with_reducible exact y2) | (with_reducible exact y1) | (with_reducible exact y0) | fail)
            (first | (go_at_call 11; (with_reducible refine HO1.out.mono ?_); rintro e w3 ⟨rfl, h3, y1⟩) | (go_at_call 11; (with_reducible refine (HO2.out w3 h3).mono ?_); rintro e w4 ⟨rfl, h4, y2⟩) | fail)
          all_goals
            obtain ⟨O1', O2', h4⟩ := h4
            have HT4 := Aside0.mk h4
            clear h3 h4 y0 y1 y2 d0 d1 d2 d3
            go_wp2_with fail
            go_roundw
            case rel => exact ⟨k + 1, O1', O2', by omega, by go_num, by rw [offs_take HLK.out]; exact HT4.out⟩
            case measure => simp [intOf]; omega
        · obtain rfl : k = n2 := by omega
          obtain ⟨lsN, hlsN⟩ : ∃ z, Aside0 (offs ls0 (l.take k) = z) := ⟨_, ⟨rfl⟩⟩
          rw [hlsN.out] at HTW
          obtain ⟨N, hN⟩ : ∃ N : Nat, tk % 200 = N := ⟨(tk % 200).toNat, by omega⟩
          have hN200 : N < 200 := by omega
          have hw1 : IntKind.u8.wrap (tk % 200) = tk % 200 := by simp only [IntKind.wrap_u8]; omega
          go_wp2_with fail
          refine (release_up w O1 s1 7 lsN k (7 + N) wr HTW.out.a (by omega) ⟨by omega, by omega⟩ (by omega)).mono ?_
          rintro e w5 ⟨v, csw, rfl, hor, ha5, hg5⟩
          obtain ⟨hb5, hdis⟩ := HTW.out.b.other hg5 HTW.out.d HTW.out.a.new
          have hb5' := hb5
          have HB5 := Aside0.mk hb5
          have HW5 := Aside0.mk (hor.weak (Nat.le_refl wr.heap.size))
          have HO2 := Aside0.mk HTW.out.b.sh.lt
          have HSZ := Aside0.mk hg5.keep.size
          have HI := Aside0.mk HTW.out.b.inv
          have HBW := Aside0.mk HTW.out.a.bel.size
          obtain ⟨osw, hosw⟩ : ∃ z, Aside0 ((relS (7 + N) 7 lsN).1 = z) := ⟨_, ⟨rfl⟩⟩
          rw [hosw.out] at HW5
          obtain ⟨Aw, cw, rfl⟩ := HW5.out.slice
          clear hor ha5 hg5 hb5 hdis hN hw1
          have HTI := Aside0.mk (⟨⟨7, by omega, hb5', by rw [show (7 : Int) + ((0 : Nat) : Int) = 7 by omega]⟩, rfl, OW.nil _ _, HW5.out, Nat.le_refl _⟩ : TI w wr w5 w5 O2 s2 lsN k (.slice Aw osw.length cw) osw csw 0 (.slice none 0 0) [] [])
          clear hb5'
          go_wp2_with fail
          obtain ⟨wr0, rfl⟩ : ∃ z : World, z = wr := ⟨_, rfl⟩
          go_loopw [14, 15] (fun g t wr => ∃ T : Nat, ∃ Ag cg gos gcs, T ≤ N + 1 ∧ t = .int .u64 T ∧ g = .slice Ag gos.length cg ∧ TI w wr0 w5 wr O2 s2 lsN k (.slice Aw osw.length cw) osw csw T (.slice Ag gos.length cg) gos gcs) (fun _ t _ => (N + 1) - (intOf t).toNat)
          case atStart => exact ⟨0, none, 0, [], [], by omega, rfl, rfl, HTI.out⟩
          case round =>
            obtain ⟨T, Ag, cg, gos, gcs, hT, rfl, rfl, hti⟩ := hrel
            have HTI := Aside0.mk hti
            clear hti
            by_cases hTN : T ≤ N
            · have hb1 : decide ((T : Int) ≤ N) = true := decide_eq_true (by omega)
              obtain ⟨p, hp1, hp2, hp3⟩ := HTI.out.b
              have hti := ticksF_inv HI.out (by omega) T (by omega : (7 : Int) + T ≤ 18446744073709551615)
              go_wp2_with fail
              refine (release_up w O2 s2 p (ticksF 7 lsN T).2 k (7 + T) wr hp2 (by omega) ⟨by omega, by omega⟩ hp1).mono ?_
              rintro e w6 ⟨v1, cs1, rfl, hor, hb6, hg6⟩
              rw [hp3] at hor hb6
              have HNOW := Aside0.mk (relS_now (T := 7 + T) (ls := (ticksF 7 lsN T).2))
              have HB6 := Aside0.mk hb6
              have HG6 := Aside0.mk (HTI.out.got.step (W' := w6) fun j hj hj2 _ => hg6.keep.block j hj (fun hO => by have := HO2.out j hO; have := HSZ.out; omega))
              have HW6 := Aside0.mk (HTI.out.want.step (W' := w6) fun j hj hj2 _ => hg6.keep.block j hj (fun hO => by have := HO2.out j hO; omega))
              have HONE := Aside0.mk (hor.weak (w0 := w5) HTI.out.sz)
              have HSZ6 := Aside0.mk (Nat.le_trans HTI.out.sz hg6.keep.size)
              have hcnt : (relS (7 + T) (7 + T) (ticksF 7 lsN T).2).1.length ≤ k := by
                obtain ⟨_, h3, _⟩ := relS_rel (7 + T) (7 + T) (ticksF 7 lsN T).2
                have := h3.cnt
                have := hti.1.cnt
                omega
              have hgl : gos.length ≤ k := by have := HTI.out.g; rw [this]; have := hti.2; have := HI.out.cnt; omega
              obtain ⟨os1, hos1⟩ : ∃ z, Aside0 ((relS (7 + T) (7 + T) (ticksF 7 lsN T).2).1 = z) := ⟨_, ⟨rfl⟩⟩
              rw [hos1.out] at HONE HNOW hcnt
              obtain ⟨A1, c1, rfl⟩ := HONE.out.slice
              clear hor hb6 hg6 hp1 hp2 hp3 hti
              go_wp2_with fail
              obtain ⟨wt, rfl⟩ : ∃ z : World, z = wr := ⟨_, rfl⟩
              go_loopw [17] (fun i wz => ∃ j : Nat, j ≤ os1.length ∧ i = .int .i64 j ∧ Below w6.heap.size w6 wz) (fun i _ => os1.length - (intOf i).toNat)
              case atStart => exact ⟨0, Nat.zero_le _, rfl, Below.refl _ _⟩
              case round =>
                obtain ⟨j, hj, rfl, hbz⟩ := hrel
                have HBZ := Aside0.mk hbz
                clear hbz
                by_cases hjl : j < os1.length
                · obtain ⟨r, cc, e, hcell⟩ := (HONE.out.below HBZ.out).at (by omega)
                  injection e with e1 e2 e3
                  subst e1
                  subst e3
                  obtain ⟨_, _, _, x0, x1, -⟩ := hcell j os1[j] (List.getElem?_eq_getElem hjl)
                  rw [HNOW.out.1 _ (List.getElem_mem hjl)] at x0
                  have j0 : (0 : Int) ≤ j := by omega
                  have j1 : (j : Int) < os1.length := by omega
                  by_cases hj0 : j = 0
                  · subst hj0
                    go_wp2_with fail
                    go_quiet (fail)
                    go_wp2_with fail
                    go_roundw
                    case rel => exact ⟨1, by omega, rfl, pw_below_drewN HBZ.out _⟩
                    case measure => simp [intOf]; omega
                  · have hjp : 0 < j := by omega
                    have hbj : decide (0 < (j : Int)) = true := decide_eq_true (by omega)
                    have hjm : j - 1 < os1.length := by omega
                    obtain ⟨_, _, _, -, y1, -⟩ := hcell (j - 1) os1[j - 1] (List.getElem?_eq_getElem hjm)
                    have hrise := HNOW.out.2 (j - 1) os1[j - 1] os1[j] (List.getElem?_eq_getElem hjm) (by rw [show j - 1 + 1 = j by omega]; exact List.getElem?_eq_getElem hjl)
                    have hbc : decide ((os1[j].cls : Int) < os1[j - 1].cls) = false := decide_eq_false (by omega)
                    clear hcell
                    go_wp2_with fail
                    go_quiet (fail)
                    go_wp2_with fail
                    go_roundw
                    case rel => exact ⟨j + 1, by omega, by go_num, pw_below_drewN HBZ.out _⟩
                    case measure => simp [intOf]; omega
                · obtain rfl : j = os1.length := by omega
                  have HSZ7 := Aside0.mk (Nat.le_trans HSZ6.out HBZ.out.size)
                  go_wp2_with (at_builtin; refine wpList_append_outs rfl (.tmp 129) (.tmp 130) rfl w5 (.slice Ag gos.length cg) (.slice A1 os1.length c1) gos os1 gcs cs1 rfl rfl (HG6.out.below HBZ.out) (HONE.out.below HBZ.out) (by omega) HSZ7.out ?_; intro v8 w8 how8 hg8 hat8)
                  obtain ⟨A8, c8, rfl⟩ := how8.slice
                  have HT8 := Aside0.mk (TI.next HTI.out HB6.out HW6.out HG6.out HBZ.out hg8 how8 hos1.out HO2.out HSZ.out HSZ7.out HW5.out)
                  clear how8 hg8 hat8
                  go_roundw
                  case rel => exact ⟨T + 1, A8, c8, gos ++ os1, gcs ++ cs1, by omega, by go_num, rfl, HT8.out⟩
                  case measure => simp [intOf]; omega
            · have hTe : Aside0 (T = N + 1) := ⟨by omega⟩
              have hb1 : decide ((T : Int) ≤ N) = false := decide_eq_false (by omega)
              have hgl : gos.length ≤ k := by
                have h1 := HTI.out.g
                have h2 := (ticksF_inv HI.out (by omega) T (by have := hTe.out; omega : (7 : Int) + (T : Int) ≤ 18446744073709551615)).2
                have h3 := HI.out.cnt
                rw [h1]; omega
              obtain rfl : gos = osw := by rw [HTI.out.g, hTe.out, (ticksF_eq 7 lsN N).1]; exact hosw.out
              obtain ⟨p, -, hsq, -⟩ := HTI.out.b
              have HBE := Aside0.mk hsq.bel
              clear hsq
              go_wp2_with fail
              obtain ⟨wt, rfl⟩ : ∃ z : World, z = wr := ⟨_, rfl⟩
              go_loopw [18] (fun i wz => ∃ j : Nat, j ≤ gos.length ∧ i = .int .i64 j ∧ Below wt.heap.size wt wz) (fun i _ => gos.length - (intOf i).toNat)
              case atStart => exact ⟨0, Nat.zero_le _, rfl, Below.refl _ _⟩
              case round =>
                obtain ⟨j, hj, rfl, hbz⟩ := hrel
                have HBZ := Aside0.mk hbz
                clear hbz
                by_cases hjl : j < gos.length
                · obtain ⟨r1, cc1, e, hcell1⟩ := (HTI.out.got.below HBZ.out).at (by omega)
                  injection e with e1 e2 e3
                  subst e1
                  subst e3
                  obtain ⟨r2, cc2, e, hcell2⟩ := (HTI.out.want.below HBZ.out).at (by omega)
                  injection e with e1 e2 e3
                  subst e1
                  subst e3
                  obtain ⟨B1, m1, k1, x0, x1, x2, x3, x4, hd1⟩ := hcell1 j gos[j] (List.getElem?_eq_getElem hjl)
                  obtain ⟨B2, m2, k2, y0, y1, y2, y3, y4, hd2⟩ := hcell2 j gos[j] (List.getElem?_eq_getElem hjl)
                  generalize gos[j] = o at *
                  have HD1 := Aside0.mk hd1
                  have HD2 := Aside0.mk hd2
                  have j0 : (0 : Int) ≤ j := by omega
                  have j1 : (j : Int) < gos.length := by omega
                  have hneq := fun W => neq_same o.it W
                  have HSB := Aside0.mk (fun (W : World) (hW : Below wr.heap.size wr W) => (show W.cell? ⟨r1, j * 5, none⟩ = some (.int .u64 o.at_) ∧ W.cell? ⟨r1, j * 5 + 1, none⟩ = some (.int .i64 o.cls) ∧ W.cell? ⟨r1, j * 5 + 2, none⟩ = some (.int .u64 o.it.no) ∧ W.cell? ⟨r1, j * 5 + 2 + 1, none⟩ = some (.int .i64 o.it.size) ∧ W.cell? ⟨r1, j * 5 + 2 + 2, none⟩ = some (.slice B1 m1 k1) ∧ W.cell? ⟨r2, j * 5, none⟩ = some (.int .u64 o.at_) ∧ W.cell? ⟨r2, j * 5 + 1, none⟩ = some (.int .i64 o.cls) ∧ W.cell? ⟨r2, j * 5 + 2, none⟩ = some (.int .u64 o.it.no) ∧ W.cell? ⟨r2, j * 5 + 2 + 1, none⟩ = some (.int .i64 o.it.size) ∧ W.cell? ⟨r2, j * 5 + 2 + 2, none⟩ = some (.slice B2 m2 k2) from
                    ⟨cell_below x0 hW, cell_below x1 hW, cell_below x2 hW, cell_below x3 hW, cell_below x4 hW, cell_below y0 hW, cell_below y1 hW, cell_below y2 hW, cell_below y3 hW, cell_below y4 hW⟩))
                  have HI1 := Aside0.mk (fun (W : World) (hW : Below wr.heap.size wr W) => (item_any _ B1 m1 k1 o.it W (HD1.out.below hW)).mono (R' := fun e w' => e = .returned (riV o.it) ∧ Below wr.heap.size wr w' ∧ (w'.cell? ⟨r1, j * 5, none⟩ = some (.int .u64 o.at_) ∧ w'.cell? ⟨r1, j * 5 + 1, none⟩ = some (.int .i64 o.cls) ∧ w'.cell? ⟨r1, j * 5 + 2, none⟩ = some (.int .u64 o.it.no) ∧ w'.cell? ⟨r1, j * 5 + 2 + 1, none⟩ = some (.int .i64 o.it.size) ∧ w'.cell? ⟨r1, j * 5 + 2 + 2, none⟩ = some (.slice B1 m1 k1) ∧ w'.cell? ⟨r2, j * 5, none⟩ = some (.int .u64 o.at_) ∧ w'.cell? ⟨r2, j * 5 + 1, none⟩ = some (.int .i64 o.cls) ∧ w'.cell? ⟨r2, j * 5 + 2, none⟩ = some (.int .u64 o.it.no) ∧ w'.cell? ⟨r2, j * 5 + 2 + 1, none⟩ = some (.int .i64 o.it.size) ∧ w'.cell? ⟨r2, j * 5 + 2 + 2, none⟩ = some (.slice B2 m2 k2)))
                    (fun e w' hh => ⟨hh.1, below_step hW hh.2, HSB.out w' (below_step hW hh.2)⟩))
                  have HI2 := Aside0.mk (fun (W : World) (hW : Below wr.heap.size wr W) => (item_any _ B2 m2 k2 o.it W (HD2.out.below hW)).mono (R' := fun e w' => e = .returned (riV o.it) ∧ Below wr.heap.size wr w' ∧ (w'.cell? ⟨r1, j * 5, none⟩ = some (.int .u64 o.at_) ∧ w'.cell? ⟨r1, j * 5 + 1, none⟩ = some (.int .i64 o.cls) ∧ w'.cell? ⟨r1, j * 5 + 2, none⟩ = some (.int .u64 o.it.no) ∧ w'.cell? ⟨r1, j * 5 + 2 + 1, none⟩ = some (.int .i64 o.it.size) ∧ w'.cell? ⟨r1, j * 5 + 2 + 2, none⟩ = some (.slice B1 m1 k1) ∧ w'.cell? ⟨r2, j * 5, none⟩ = some (.int .u64 o.at_) ∧ w'.cell? ⟨r2, j * 5 + 1, none⟩ = some (.int .i64 o.cls) ∧ w'.cell? ⟨r2, j * 5 + 2, none⟩ = some (.int .u64 o.it.no) ∧ w'.cell? ⟨r2, j * 5 + 2 + 1, none⟩ = some (.int .i64 o.it.size) ∧ w'.cell? ⟨r2, j * 5 + 2 + 2, none⟩ = some (.slice B2 m2 k2)))
                    (fun e w' hh => ⟨hh.1, below_step hW hh.2, HSB.out w' (below_step hW hh.2)⟩))
                  clear hcell1 hcell2 hd1 hd2
                  go_wp2_with fail
                  have z0 := HSB.out wr.drew (below_drew (Below.refl _ _))
                  obtain ⟨d0, d1, d2, d3, d4, d5, d6, d7, d8, d9⟩ := id z0
                  clear x0 x1 x2 x3 x4 y0 y1 y2 y3 y4
                  go_region_held3 (fun W => W.cell? ⟨r1, j * 5, none⟩ = some (.int .u64 o.at_) ∧ W.cell? ⟨r1, j * 5 + 1, none⟩ = some (.int .i64 o.cls) ∧ W.cell? ⟨r1, j * 5 + 2, none⟩ = some (.int .u64 o.it.no) ∧ W.cell? ⟨r1, j * 5 + 2 + 1, none⟩ = some (.int .i64 o.it.size) ∧ W.cell? ⟨r1, j * 5 + 2 + 2, none⟩ = some (.slice B1 m1 k1) ∧ W.cell? ⟨r2, j * 5, none⟩ = some (.int .u64 o.at_) ∧ W.cell? ⟨r2, j * 5 + 1, none⟩ = some (.int .i64 o.cls) ∧ W.cell? ⟨r2, j * 5 + 2, none⟩ = some (.int .u64 o.it.no) ∧ W.cell? ⟨r2, j * 5 + 2 + 1, none⟩ = some (.int .i64 o.it.size) ∧ W.cell? ⟨r2, j * 5 + 2 + 2, none⟩ = some (.slice B2 m2 k2))
                    (first | (with_reducible exact z2) | (with_reducible exact z1) | (with_reducible exact z0) | fail)
                    (first | (go_at_call 18; (with_reducible refine (HI1.out _ (below_drew (Below.refl _ _))).mono ?_); rintro e w8 ⟨rfl, h8, z1⟩) | (go_at_call 18; (with_reducible refine (HI2.out _ h8).mono ?_); rintro e w9 ⟨rfl, h9, z2⟩) | fail)
                  all_goals
                    have HB9 := Aside0.mk h9
                    clear h8 h9 z0 z1 z2 d0 d1 d2 d3 d4 d5 d6 d7 d8 d9
                    go_wp2_with fail
                    go_roundw
                    case rel => exact ⟨j + 1, by omega, by go_num, below_step HBZ.out HB9.out⟩
                    case measure => simp [intOf]; omega
                · obtain rfl : j = gos.length := by omega
                  go_wp2_with fail
                  refine (works_any _).mono ?_
                  rintro e w9 ⟨rfl, b⟩
                  have HB := Aside0.mk (below_step (below_step HBE.out HBZ.out) b)
                  clear b
                  go_wp2_with fail
                  go_ret
                  exact ⟨rfl, HB.out⟩
    · rw [hok] at hbad; cases hbad
  · go_wp2_with fail
    refine (snew_any 7 A n c cs w1 HC1.out HN.out).mono ?_
    rintro e w2 ⟨hb2, ⟨hok, _⟩ | ⟨_, rfl⟩⟩
    · rw [hbad] at hok; cases hok
    · have HB2 := Aside0.mk (below_step HB1.out hb2)
      clear hb2
      go_wp2_with fail
      refine (works_any _).mono ?_
      rintro e w3 ⟨rfl, b⟩
      have HB := Aside0.mk (below_step HB2.out b)
      clear b
      go_wp2_with fail
      go_ret
      exact ⟨rfl, HB.out⟩
end Go.Proofs.Ytballojildjbhaa.S
