/- octroilaw11.is: where a queue is the reference's, it answers true; conditions: both lie in memory. -/
import Derived.Test.YtdipihaefiobiaaQV
import Derived.Deep.RegionHeld3
namespace Go.Proofs.Ytdipihaefiobiaa.F
open Go Go.RowKit Go.Proofs.YtdipihaefiobiaaW.PrintWords Go.Proofs.YtdipihaefiobiaaW.PrintLast Go.Proofs.YtdipihaefiobiaaW.PrintMore
set_option linter.unusedVariables false
set_option linter.unusedSimpArgs false

theorem Dat.keepU {W W' : World} {B : Nat} {A : Option Addr} {n : Nat} {l : List UInt8} (h : Dat W (fun k => B ≤ k ∧ U8 W k) A n l) (hk : ∀ ad : Addr, A = some ad → 0 < n → W'.heap[ad.block]? = W.heap[ad.block]?) : Dat W' (fun k => B ≤ k ∧ U8 W' k) A n l := by
  refine ⟨h.1, fun hn => ?_⟩
  obtain ⟨ad, rfl, hD, hc⟩ := h.2 hn
  have e := hk ad rfl hn
  exact ⟨ad, rfl, ⟨hD.1, hD.2.same e⟩, fun j x hx => (World.cell?_of_block (w := W) (by rw [ad_block]; exact e)).trans (hc j x hx)⟩
theorem frozen_u8 {W : World} {a : Addr} (h : U8 W a.block) : W.frozen? a = false := by
  obtain ⟨cs, hc⟩ := h
  simp [World.frozen?, hc]

theorem cell_lt_ {W : World} {a : Addr} {v : Value} (h : W.cell? a = some v) : a.block < W.heap.size := by
  obtain ⟨o, ho, _⟩ := cells_of_cell h
  exact blk_lt ho
theorem own_form {W : World} {B n m cv : Nat} {V : Option Addr} {cells : List Value} (h : W.ownsRow B 37 3 (.slice V n cv) m cells) (hj : 0 < m ∨ True) {j : Nat} (hjm : j < m) :
    ∃ gr, V = some ⟨gr, 0, none⟩ ∧ (∃ cur, W.heap[gr]? = some (.cells cur 37 (0, 0))) ∧ ∀ q u, cells[q]? = some u → W.cell? ⟨gr, q, none⟩ = some u := by
  obtain ⟨hl, ⟨e, h0⟩ | ⟨g, cap, cu, e, _, hh, hle, _, hsz, ht⟩⟩ := h
  · omega
  · injection e with e1 e2 e3
    subst e1
    refine ⟨g, rfl, ⟨cu, hh⟩, fun q u hu => ?_⟩
    rw [blk_cell hh q, ← Array.getElem?_toList]
    rw [← ht, List.getElem?_take] at hu
    split at hu
    · exact hu
    · cases hu

/-- Between two rounds of is's inner loop: All's row, and the items from j on, as they were told. M: the heap behind All; B: ahead of it. -/
structure IsI (M B : Nat) (W : World) (V : Option Addr) (n cv : Nat) (cells : List Value) (xs : List It) (j : Nat) : Prop where
  own : W.ownsRow B 37 3 (.slice V n cv) xs.length cells
  it : ∀ i x, j ≤ i → xs[i]? = some x → ItIn W B cells i x
  sz : M ≤ W.heap.size

/-- In a loop that adds to the bytes of one row: all else is kept. -/
structure Inc (A : Option Addr) (n : Nat) (W W' : World) : Prop where
  os : W'.os = W.os
  tape : W'.tape = W.tape
  output : W'.output = W.output
  size : W'.heap.size = W.heap.size
  block : ∀ k, (∀ ad : Addr, A = some ad → 0 < n → k ≠ ad.block) → W'.heap[k]? = W.heap[k]?
  row : ∀ ad : Addr, A = some ad → 0 < n → U8 W' ad.block ∧ ∀ q, q < n → ∃ y, W'.cell? (ad.add q) = some (.int .u8 y)
theorem Inc.start {W W' : World} {P : Nat → Prop} {A : Option Addr} {n : Nat} {l : List UInt8} (h : Dat W (fun k => P k ∧ U8 W k) A n l) (hb : Below W.heap.size W W') (hs : W'.heap.size = W.heap.size) : Inc A n W W' := by
  have hk : ∀ k, W'.heap[k]? = W.heap[k]? := fun k => by
    by_cases hk : k < W.heap.size
    · exact hb.block k hk
    · rw [Array.getElem?_eq_none (by omega), Array.getElem?_eq_none (by omega)]
  refine ⟨hb.os, hb.tape, hb.output, hs, fun k _ => hk k, fun ad e hn => ?_⟩
  obtain ⟨ad', e', hD, hc⟩ := h.2 hn
  obtain rfl : ad' = ad := by rw [e] at e'; injection e' with e'; exact e'.symm
  refine ⟨hD.2.same (hk _), fun q hq => ?_⟩
  have hl : q < l.length := by have := h.1; omega
  exact ⟨_, (World.cell?_of_block (w := W) (hk _)).trans (hc q l[q] (List.getElem?_eq_getElem hl))⟩
theorem Inc.put {A : Option Addr} {n : Nat} {W W' : World} (h : Inc A n W W') {ad : Addr} (e : A = some ad) {q : Nat} (hq : q < n) (y : Int) : Inc A n W (W'.setCell (ad.add q) (.int .u8 y)) := by
  refine ⟨h.os, h.tape, h.output, by simpa [World.setCell] using h.size, fun k hk => (Below.heap_setCell _ _ _ k (by rw [ad_block]; exact hk ad e (by omega))).trans (h.block k hk), fun ad' e' hn => ?_⟩
  obtain rfl : ad' = ad := by rw [e] at e'; injection e' with e'; exact e'.symm
  obtain ⟨⟨cs, hu⟩, hr⟩ := h.row _ e hn
  refine ⟨⟨cs.setIfInBounds (ad'.add q).off (.int .u8 y), ?_⟩ , fun q' hq' => ?_⟩
  · obtain ⟨y0, hy0⟩ := hr q hq
    obtain ⟨o, ho, hs⟩ := cells_of_cell hy0
    by_cases hsp : (ad'.add q).spot.isSome
    · simp [World.cell?, ad_block, hu, hsp] at hy0
    · simp only [World.setCell, ad_block, hsp, Array.getElem?_modify, hu, if_true, Option.map_some]
      rfl
  · obtain ⟨y1, hy1⟩ := hr q' hq'
    by_cases he : ad'.add q = ad'.add q'
    · rw [← he]
      exact ⟨y, World.cell?_setCell_same _ _ _ (by rw [he]; exact hy1)⟩
    · exact ⟨y1, (World.cell?_setCell_other _ _ _ _ he).trans hy1⟩

set_option maxRecDepth 100000 in
set_option maxHeartbeats 2000000 in
theorem is_any (D E : Nat → Prop) (g : Nat) (xs : List It) (items bound drops : Int) (A : Option Addr) (n c : Nat) (w : World) (h : Fq w D g xs items bound drops) (ho : Ok xs items bound drops) (hf : Few xs) (hr : RRow w E A n xs) (hnc : n ≤ c) :
    Calls Try.prog 20 #[.pointer (some ⟨g, 0, none⟩), rqV A n c items bound drops] w fun e w' => e = .returned (.bool true) ∧ Below w.heap.size w w' := by
  have HN := Aside0.mk hr.1
  have HO := Aside0.mk ho
  have HNC := Aside0.mk hnc
  have hn : n ≤ 65536 := by have := ho.many; have := ho.items; have := hr.1; omega
  have HAL := Aside0.mk (fun W (hb : Below w.heap.size w W) => all_any D g xs items bound drops W (h.below hb) hf (by have := HN.out; omega))
  have HLE := Aside0.mk (fun W (hb : Below w.heap.size w W) => len_any D g xs items bound drops W (h.below hb))
  have HSZ := Aside0.mk (fun W (hb : Below w.heap.size w W) => size_any D g xs items bound drops W (h.below hb))
  have HDR := Aside0.mk (fun W (hb : Below w.heap.size w W) => drops_any D g xs items bound drops W (h.below hb))
  have HRS := Aside0.mk (fun W (hb : Below w.heap.size w W) => rsize_any E A n c xs items bound drops W (hr.below hb) ho)
  rw [← HN.out] at HLE
  have HQ := Aside0.mk h
  have HR := Aside0.mk hr
  have HF := Aside0.mk hf
  clear h ho hf hr hnc
  go_enter Try.func20, Try.ntmps20
  go_wp2
  go_loopw [5] (fun i wr => ∃ k : Nat, i = .int .i64 k ∧ k ≤ 2 ∧ Aside0 (Below w.heap.size w wr) ∧ Aside0 (wr.heap[w.heap.size]? = some (.cells #[.slice A n c, .int .i64 items, .int .i64 bound, .int .u64 drops] 32 (0, 0)))) (fun i _ => 2 - (intOf i).toNat)
  case atStart => exact ⟨0, rfl, Nat.zero_le _, ⟨below_alloc (Below.refl _ _) _⟩, ⟨blk_new _ _⟩⟩
  case round =>
    obtain ⟨k, rfl, hk, HB, HBX⟩ := hrel
    by_cases hlt : k < 2
    · go_wp2_with fail
      refine (HAL.out wr HB.out).mono ?_
      rintro e w1 ⟨v, cells, rfl, hown, hits, hdist, hb⟩
      have HB1 := Aside0.mk (below_step HB.out hb)
      have hbx := blk_below HBX.out hb
      have HBX1 := Aside0.mk hbx
      obtain ⟨⟨k0, k1, k2, k3⟩, _⟩ := cells4 hbx
      obtain ⟨V, cv, ev⟩ : ∃ V cv, v = .slice V n cv := by
        have hnn := HN.out
        rcases hown.2 with ⟨rfl, h0⟩ | ⟨g', cap, cur, rfl, _⟩
        · exact ⟨none, 0, by rw [hnn, h0]⟩
        · exact ⟨_, cap, by rw [hnn]⟩
      subst ev
      have HOWN := Aside0.mk hown
      have HIT := Aside0.mk hits
      have HDI := Aside0.mk hdist
      have HZ1 := Aside0.mk hb.size
      have HZ0 := Aside0.mk HB.out.size
      clear hown hits hdist hb hbx
      go_upto_region 5 with (fail)
      have d0 : w1.drew.cell? ⟨w.heap.size, 0, none⟩ = some (.slice A n c) := k0
      have d1 : w1.drew.cell? ⟨w.heap.size, 1, none⟩ = some (.int .i64 items) := k1
      have d2 : w1.drew.cell? ⟨w.heap.size, 2, none⟩ = some (.int .i64 bound) := k2
      have d3 : w1.drew.cell? ⟨w.heap.size, 3, none⟩ = some (.int .u64 drops) := k3
      have hbd : Below w.heap.size w w1.drew := below_drew HB1.out
      have HRS1 := Aside0.mk ((HRS.out w1.drew hbd).mono (R' := fun e w' => e = .returned (.int .i64 (sz xs)) ∧ Below w1.heap.size w1 w' ∧ Below w.heap.size w w' ∧ w'.cell? ⟨w.heap.size, 0, none⟩ = some (.slice A n c) ∧ w'.cell? ⟨w.heap.size, 1, none⟩ = some (.int .i64 items) ∧ w'.cell? ⟨w.heap.size, 2, none⟩ = some (.int .i64 bound) ∧ w'.cell? ⟨w.heap.size, 3, none⟩ = some (.int .u64 drops))
        (fun e w' hh => by
          obtain ⟨⟨s0, s1, s2, s3⟩, _⟩ := cells4 (blk_below (blk_drew HBX1.out) hh.2)
          exact ⟨hh.1, (below_drew (Below.refl w1.heap.size w1)).trans hh.2, below_step hbd hh.2, s0, s1, s2, s3⟩))
      go_region_held3 (fun W => W.cell? ⟨w.heap.size, 0, none⟩ = some (.slice A n c) ∧ W.cell? ⟨w.heap.size, 1, none⟩ = some (.int .i64 items) ∧ W.cell? ⟨w.heap.size, 2, none⟩ = some (.int .i64 bound) ∧ W.cell? ⟨w.heap.size, 3, none⟩ = some (.int .u64 drops))
        (first | (with_reducible exact ⟨s0, s1, s2, s3⟩) | (with_reducible exact ⟨d0, d1, d2, d3⟩) | fail)
        (first | (go_at_call 21; refine (HLE.out w1.drew hbd).mono ?_; rintro e w5 ⟨rfl, rfl⟩) | (go_at_call 22; refine (HSZ.out w1.drew hbd).mono ?_; rintro e w5 ⟨rfl, rfl⟩) | (go_at_call 27; refine HRS1.out.mono ?_; rintro e w6 ⟨rfl, hb6, hbw6, s0, s1, s2, s3⟩) | (go_at_call 23; refine (HDR.out w6 hbw6).mono ?_; rintro e w7 ⟨rfl, rfl⟩))
      all_goals (go_wp2_with fail)
      have HBX6 := Aside0.mk (blk_below HBX1.out hb6)
      obtain ⟨B0, HB0⟩ : ∃ B0, Aside0 (wr.heap.size = B0) := ⟨_, ⟨rfl⟩⟩
      rw [HB0.out] at HOWN HIT HZ0
      have HI6 : Aside0 (IsI w1.heap.size B0 w6 V n cv cells xs 0) := ⟨own_same HOWN.out fun k hk => hb6.block k hk.lt, fun j x _ hx => (HIT.out j x hx).step fun k hu _ => hb6.block k hu.lt, hb6.size⟩
      have HW6 := Aside0.mk hbw6
      clear hbw6 hb6 s0 s1 s2 s3 d0 d1 d2 d3 k0 k1 k2 k3 hbd HRS1
      go_loopw [7, 8] (fun i _ wz => ∃ j : Nat, i = .int .i64 j ∧ j ≤ n ∧ Aside0 (Below w.heap.size w wz) ∧ Aside0 (wz.heap[w.heap.size]? = some (.cells #[.slice A n c, .int .i64 items, .int .i64 bound, .int .u64 drops] 32 (0, 0))) ∧ Aside0 (IsI w1.heap.size B0 wz V n cv cells xs j)) (fun i _ _ => n - (intOf i).toNat)
      case atStart => exact ⟨0, rfl, Nat.zero_le _, HW6, HBX6, HI6⟩
      case round =>
        obtain ⟨j, rfl, hj, HWz, HBXz, HIz⟩ := hrel
        by_cases hjl : j < n
        · have hjx : j < xs.length := by have := HN.out; omega
          have hx : xs[j]? = some xs[j] := List.getElem?_eq_getElem hjx
          generalize xs[j] = x at hx
          obtain ⟨A1, n1, c1, h0, h1, h2, hd⟩ := HIz.out.it j x (Nat.le_refl _) hx
          obtain ⟨gr, hV, hgr, hcell⟩ := own_form HIz.out.own (.inr trivial) hjx
          subst hV
          obtain ⟨ad, rfl, _, hrc⟩ := (HR.out.step (W' := wr) (E' := fun _ => True) fun k hk _ => ⟨HWz.out.block k hk, trivial⟩).2 (by omega)
          obtain ⟨r0, r1, r2⟩ := hrc j x hx
          rw [Nat.mul_comm] at h0 h1 h2
          obtain ⟨⟨b0, _, _, _⟩, _⟩ := cells4 HBXz.out
          have y0 : wr.drew.cell? ⟨gr, j * 3, none⟩ = some (.int .u64 x.no) := hcell _ _ h0
          have y1 : wr.drew.cell? ⟨gr, j * 3 + 1, none⟩ = some (.int .i64 x.size) := hcell _ _ h1
          have y2 : wr.drew.cell? ⟨gr, j * 3 + 2, none⟩ = some (.slice A1 n1 c1) := hcell _ _ h2
          have y3 : wr.drew.cell? ⟨w.heap.size, 0, none⟩ = some (.slice (some ad) n c) := b0
          have y4 : wr.drew.cell? (ad.add (j * 3)) = some (.int .u64 x.no) := r0
          have y5 : wr.drew.cell? ⟨(ad.add (j * 3)).block, (ad.add (j * 3)).off + 1, none⟩ = some (.int .i64 x.size) := r1
          have y6 : wr.drew.cell? ⟨(ad.add (j * 3)).block, (ad.add (j * 3)).off + 2, none⟩ = some (.string (strOf x.data)) := r2
          have hlt0 := cell_lt_ y0
          have hlt3 := cell_lt_ y3
          have hlt4 := cell_lt_ y4
          rw [ad_block] at hlt4
          have HX := Aside0.mk hx
          have HD := Aside0.mk hd
          have HGR := Aside0.mk hgr
          have H2 := Aside0.mk h2
          have hnq := fun W => neq_same x W
          have HIC := Aside0.mk ((item_any _ A1 n1 c1 x wr.drew (show Dat wr.drew (fun k => B0 ≤ k ∧ U8 wr k) A1 n1 x.data from hd)).mono (R' := fun e w' => e = .returned (riV x) ∧ Below wr.heap.size wr w' ∧ (w'.cell? ⟨gr, j * 3, none⟩ = some (.int .u64 x.no) ∧ w'.cell? ⟨gr, j * 3 + 1, none⟩ = some (.int .i64 x.size) ∧ w'.cell? ⟨gr, j * 3 + 2, none⟩ = some (.slice A1 n1 c1) ∧ w'.cell? ⟨w.heap.size, 0, none⟩ = some (.slice (some ad) n c) ∧ w'.cell? (ad.add (j * 3)) = some (.int .u64 x.no) ∧ w'.cell? ⟨(ad.add (j * 3)).block, (ad.add (j * 3)).off + 1, none⟩ = some (.int .i64 x.size) ∧ w'.cell? ⟨(ad.add (j * 3)).block, (ad.add (j * 3)).off + 2, none⟩ = some (.string (strOf x.data))))
            (fun e w' hh => by
              have hb := (below_drew (Below.refl wr.heap.size wr)).trans hh.2
              exact ⟨hh.1, hb, (hb.cell (p := ⟨gr, j * 3, none⟩) hlt0).trans y0, (hb.cell (p := ⟨gr, j * 3 + 1, none⟩) hlt0).trans y1, (hb.cell (p := ⟨gr, j * 3 + 2, none⟩) hlt0).trans y2, (hb.cell (p := ⟨w.heap.size, 0, none⟩) hlt3).trans y3, (hb.cell (p := ad.add (j * 3)) (by rw [ad_block]; exact hlt4)).trans y4,
                (hb.cell (p := ⟨(ad.add (j * 3)).block, (ad.add (j * 3)).off + 1, none⟩) (by rw [ad_block]; exact hlt4)).trans y5, (hb.cell (p := ⟨(ad.add (j * 3)).block, (ad.add (j * 3)).off + 2, none⟩) (by rw [ad_block]; exact hlt4)).trans y6⟩))
          clear h0 h1 h2 hcell hrc r0 r1 r2 b0 hx hd hgr hlt0 hlt3 hlt4
          go_upto_region 10 with (fail)
          go_region_held3 (fun W => W.cell? ⟨gr, j * 3, none⟩ = some (.int .u64 x.no) ∧ W.cell? ⟨gr, j * 3 + 1, none⟩ = some (.int .i64 x.size) ∧ W.cell? ⟨gr, j * 3 + 2, none⟩ = some (.slice A1 n1 c1) ∧ W.cell? ⟨w.heap.size, 0, none⟩ = some (.slice (some ad) n c) ∧ W.cell? (ad.add (j * 3)) = some (.int .u64 x.no) ∧ W.cell? ⟨(ad.add (j * 3)).block, (ad.add (j * 3)).off + 1, none⟩ = some (.int .i64 x.size) ∧ W.cell? ⟨(ad.add (j * 3)).block, (ad.add (j * 3)).off + 2, none⟩ = some (.string (strOf x.data)))
            (first | (with_reducible exact s7) | (with_reducible exact ⟨y0, y1, y2, y3, y4, y5, y6⟩) | fail)
            (first | (go_at_call 14; refine HIC.out.mono ?_; rintro e w7 ⟨rfl, hb7, s7⟩))
          all_goals (go_wp2_with fail)
          have HWz7 := Aside0.mk (below_step HWz.out hb7)
          have HBXz7 := Aside0.mk (blk_below HBXz.out hb7)
          have HD7 := HD.out.keepU (W' := w7) fun ad' e hn => by
            obtain ⟨_, e', hu, _⟩ := HD.out.2 hn
            rw [e] at e'
            injection e' with e'
            exact hb7.block _ (e' ▸ hu.2.lt)
          have HO7 := Aside0.mk (own_same HIz.out.own fun k hk => hb7.block k hk.lt)
          have HIT7 : Aside0 (∀ i x, j + 1 ≤ i → xs[i]? = some x → ItIn w7 B0 cells i x) := ⟨fun i x' hi hx' => (HIz.out.it i x' (by omega) hx').step fun k hu _ => hb7.block k hu.lt⟩
          have HZ7 := Aside0.mk (Nat.le_trans HIz.out.sz hb7.size)
          have HG7 := Aside0.mk ((hb7.block gr (by obtain ⟨cur, hc⟩ := HGR.out; exact blk_lt hc)).trans HGR.out.choose_spec)
          have z0 := s7.2.2.1
          have hgu : ∀ ad : Addr, A1 = some ad → 0 < n1 → gr ≠ ad.block := fun ad' e hn hh => by
            obtain ⟨_, e', hu, _⟩ := HD7.2 hn
            rw [e] at e'
            injection e' with e'
            exact hu.2.ne_ HG7.out (by decide) (e' ▸ hh.symm)
          have HGU := Aside0.mk hgu
          have HI7 : Aside0 (Inc A1 n1 w7 w7) := ⟨Inc.start HD7 (Below.refl _ _) rfl⟩
          have HDD := Aside0.mk HD7
          clear hgu HD7 hb7 s7 y0 y1 y2 y3 y4 y5 y6
          go_loopw [8] (fun i wq => ∃ q : Nat, i = .int .i64 q ∧ q ≤ n1 ∧ Aside0 (Inc A1 n1 w7 wq)) (fun i _ => n1 - (intOf i).toNat)
          case atStart => exact ⟨0, rfl, Nat.zero_le _, HI7⟩
          case round =>
            obtain ⟨q, rfl, hq, HIq⟩ := hrel
            have z1 : wr.cell? ⟨gr, j * 3 + 2, none⟩ = some (.slice A1 n1 c1) := (World.cell?_of_block (w := w7) (HIq.out.block gr HGU.out)).trans z0
            by_cases hql : q < n1
            · obtain ⟨ad1, rfl, hu1, _⟩ := HDD.out.2 (by omega)
              obtain ⟨HU1, hr1⟩ := HIq.out.row ad1 rfl (by omega)
              obtain ⟨y, hy⟩ := hr1 q hql
              have hfz := frozen_u8 (a := ad1.add q) (W := wr) (by rw [ad_block]; exact HU1)
              have HP := Aside0.mk (HIq.out.put rfl hql ((y + 1) % 256))
              have hq63 : q + 1 ≤ 2 ^ 40 := by have := HDD.out.1; have := HF.out _ (List.mem_of_getElem? HX.out); omega
              go_wp2_with fail
              exact ⟨⟨q + 1, by go_num, by omega, HP⟩, by simp [intOf]; omega⟩
            · obtain rfl : q = n1 := by omega
              go_wp2_with fail
              refine ⟨⟨j + 1, by go_num, by omega, ⟨?_⟩, ⟨?_⟩, ⟨?_⟩⟩, by simp [intOf]; omega⟩
              · have hb := HWz7.out
                exact ⟨HIq.out.os.trans hb.os, HIq.out.tape.trans hb.tape, HIq.out.output.trans hb.output, by have := HIq.out.size; have := hb.size; omega, fun k hk => (HIq.out.block k fun ad' e hn hh => by
                  obtain ⟨_, e', hu, _⟩ := HDD.out.2 hn
                  rw [e] at e'
                  injection e' with e'
                  have := hu.1
                  have := HZ0.out
                  rw [← e', ← hh] at *
                  omega).trans (hb.block k hk)⟩
              · refine (HIq.out.block _ fun ad' e hn hh => ?_).trans HBXz7.out
                obtain ⟨_, e', hu, _⟩ := HDD.out.2 hn
                rw [e] at e'
                injection e' with e'
                exact hu.2.ne_ HBXz7.out (by decide) (e' ▸ hh.symm)
              · refine ⟨?_, ?_, by have := HIq.out.size; have := HZ7.out; omega⟩
                · obtain ⟨h1, h2 | ⟨g', cap, cur, hv, hg, hh, r⟩⟩ := HO7.out
                  · exact ⟨h1, .inl h2⟩
                  · refine ⟨h1, .inr ⟨g', cap, cur, hv, hg, (HIq.out.block g' ?_).trans hh, r⟩⟩
                    injection hv with e1
                    injection e1 with e1
                    injection e1 with e1
                    rw [← e1]
                    exact HGU.out
                · intro i x' hi hx'
                  obtain ⟨A', n', c', i0', i1', i2', hd'⟩ := HIT7.out i x' hi hx'
                  refine ⟨A', n', c', i0', i1', i2', hd'.keepU fun ad' e hn => HIq.out.block _ fun ad1 e1 hn1 hh => ?_⟩
                  subst e e1
                  exact HDI.out j i ad1 ad' _ c1 n' c' (by omega) (by rw [Nat.mul_comm]; exact H2.out) i2' hn1 hn hh.symm
        · go_wp2
          go_roundw
          case rel => exact ⟨k + 1, by go_num, by omega, HWz, HBXz⟩
          case measure => simp [intOf]; omega
    · obtain rfl : k = 2 := by omega
      obtain ⟨⟨k0, k1, k2, k3⟩, _⟩ := cells4 HBX.out
      have hqw := HQ.out.below HB.out
      have hrw_ := HR.out.below HB.out
      cases xs with
      | nil =>
        obtain rfl : n = 0 := HN.out
        go_wp2_with fail
        refine (head_none _ _ hqw.empty).mono ?_
        rintro e w1 ⟨rfl, hb1⟩
        obtain ⟨⟨d0, d1, d2, d3⟩, _⟩ := cells4 (blk_below HBX.out hb1)
        have e0 := Lib.cell?_alloc_some (o := .cells #[.int .u64 0, .int .i64 0, .slice none 0 0] 37) d0
        have e1 := Lib.cell?_alloc_some (o := .cells #[.int .u64 0, .int .i64 0, .slice none 0 0] 37) d1
        have e2 := Lib.cell?_alloc_some (o := .cells #[.int .u64 0, .int .i64 0, .slice none 0 0] 37) d2
        have e3 := Lib.cell?_alloc_some (o := .cells #[.int .u64 0, .int .i64 0, .slice none 0 0] 37) d3
        clear d0 d1 d2 d3
        go_wp2_with (go_at_call 12; refine (rpop_nil A c items bound drops _).mono ?_; rintro e w2 ⟨rfl, hb2⟩)
        obtain ⟨w3, ew⟩ : ∃ w3, w3 = (w2.alloc (.cells #[.slice A 0 c, .int .i64 items, .int .i64 bound, .int .u64 drops] 32)).alloc (.cells #[.int .u64 0, .int .i64 0, .string (strOf (⟨0, 0, []⟩ : It).data)] 42) := ⟨_, rfl⟩
        rw [show (w2.alloc (.cells #[.slice A 0 c, .int .i64 items, .int .i64 bound, .int .u64 drops] 32)).alloc (.cells #[.int .u64 0, .int .i64 0, .string ⟨#[]⟩] 42) = w3 from ew.symm]
        have hs1 : w1.heap.size + 1 ≤ w2.heap.size := by have := hb2.size; simpa using this
        have hbx : w3.heap[w1.heap.size]? = some (.cells #[.int .u64 (⟨0, 0, []⟩ : It).no, .int .i64 (⟨0, 0, []⟩ : It).size, .slice none 0 0] 37 (0, 0)) := by
          rw [ew, Below.heap_alloc _ _ _ (by simp; omega), Below.heap_alloc _ _ _ (by omega), hb2.block _ (by simp)]
          exact blk_new _ _
        have hby : w3.heap[w2.heap.size + 1]? = some (.cells #[.int .u64 (⟨0, 0, []⟩ : It).no, .int .i64 (⟨0, 0, []⟩ : It).size, .string (strOf (⟨0, 0, []⟩ : It).data)] 42 (0, 0)) := by
          rw [ew]
          simpa using blk_new (w2.alloc (.cells #[.slice A 0 c, .int .i64 items, .int .i64 bound, .int .u64 drops] 32)) (.cells #[.int .u64 (⟨0, 0, []⟩ : It).no, .int .i64 (⟨0, 0, []⟩ : It).size, .string (strOf (⟨0, 0, []⟩ : It).data)] 42)
        have hbz1 : Below w1.heap.size w1 w3 := by
          rw [ew]
          exact below_alloc (below_alloc ((below_alloc (Below.refl _ _) _).trans (hb2.mono (by simp))) _) _
        have hbz := below_step HB.out (below_step hb1 hbz1)
        have HIC := Aside0.mk (fun W (hW : Below w3.heap.size w3 W) => item_any (fun _ => True) none 0 0 (⟨0, 0, []⟩ : It) W ((dat_nil w3 _).below hW))
        have HBZ := Aside0.mk hbz
        obtain ⟨a0, a1, a2, _⟩ := cells3 hbx
        obtain ⟨b0, b1, b2, _⟩ := cells3 hby
        have hx0 : w1.heap.size < w3.heap.size := blk_lt hbx
        have hy0 : w2.heap.size + 1 < w3.heap.size := blk_lt hby
        have hnq := fun W => eql_same (⟨0, 0, []⟩ : It) W
        have y6 : w3.cell? ⟨w1.heap.size, 0, none⟩ = some (.int .u64 (⟨0, 0, []⟩ : It).no) ∧ w3.cell? ⟨w1.heap.size, 1, none⟩ = some (.int .i64 (⟨0, 0, []⟩ : It).size) ∧ w3.cell? ⟨w1.heap.size, 2, none⟩ = some (.slice none 0 0) ∧ w3.cell? ⟨w2.heap.size + 1, 0, none⟩ = some (.int .u64 (⟨0, 0, []⟩ : It).no) ∧ w3.cell? ⟨w2.heap.size + 1, 1, none⟩ = some (.int .i64 (⟨0, 0, []⟩ : It).size) ∧ w3.cell? ⟨w2.heap.size + 1, 2, none⟩ = some (.string (strOf (⟨0, 0, []⟩ : It).data)) := ⟨a0, a1, a2, b0, b1, b2⟩
        have y6' : w3.drew.cell? ⟨w1.heap.size, 0, none⟩ = some (.int .u64 (⟨0, 0, []⟩ : It).no) ∧ w3.drew.cell? ⟨w1.heap.size, 1, none⟩ = some (.int .i64 (⟨0, 0, []⟩ : It).size) ∧ w3.drew.cell? ⟨w1.heap.size, 2, none⟩ = some (.slice none 0 0) ∧ w3.drew.cell? ⟨w2.heap.size + 1, 0, none⟩ = some (.int .u64 (⟨0, 0, []⟩ : It).no) ∧ w3.drew.cell? ⟨w2.heap.size + 1, 1, none⟩ = some (.int .i64 (⟨0, 0, []⟩ : It).size) ∧ w3.drew.cell? ⟨w2.heap.size + 1, 2, none⟩ = some (.string (strOf (⟨0, 0, []⟩ : It).data)) := y6
        obtain ⟨f0, f1, f2, f3, f4, f5⟩ := id y6'
        clear ew hbx hby a0 a1 a2 b0 b1 b2 e0 e1 e2 e3 k0 k1 k2 k3
        have HIM := Aside0.mk ((HIC.out w3.drew (below_drew (Below.refl _ _))).mono (R' := fun e w' => e = .returned (riV (⟨0, 0, []⟩ : It)) ∧ Below w3.heap.size w3 w' ∧ (w'.cell? ⟨w1.heap.size, 0, none⟩ = some (.int .u64 (⟨0, 0, []⟩ : It).no) ∧ w'.cell? ⟨w1.heap.size, 1, none⟩ = some (.int .i64 (⟨0, 0, []⟩ : It).size) ∧ w'.cell? ⟨w1.heap.size, 2, none⟩ = some (.slice none 0 0) ∧ w'.cell? ⟨w2.heap.size + 1, 0, none⟩ = some (.int .u64 (⟨0, 0, []⟩ : It).no) ∧ w'.cell? ⟨w2.heap.size + 1, 1, none⟩ = some (.int .i64 (⟨0, 0, []⟩ : It).size) ∧ w'.cell? ⟨w2.heap.size + 1, 2, none⟩ = some (.string (strOf (⟨0, 0, []⟩ : It).data))))
          (fun e w' hh => by
            have hb := (below_drew (Below.refl w3.heap.size w3)).trans hh.2
            exact ⟨hh.1, hb, (hb.cell (p := ⟨w1.heap.size, 0, none⟩) hx0).trans f0, (hb.cell (p := ⟨w1.heap.size, 1, none⟩) hx0).trans f1, (hb.cell (p := ⟨w1.heap.size, 2, none⟩) hx0).trans f2, (hb.cell (p := ⟨w2.heap.size + 1, 0, none⟩) hy0).trans f3, (hb.cell (p := ⟨w2.heap.size + 1, 1, none⟩) hy0).trans f4, (hb.cell (p := ⟨w2.heap.size + 1, 2, none⟩) hy0).trans f5⟩))
        go_upto_region 18 with (fail)
        go_region_held3 (fun W => W.cell? ⟨w1.heap.size, 0, none⟩ = some (.int .u64 (⟨0, 0, []⟩ : It).no) ∧ W.cell? ⟨w1.heap.size, 1, none⟩ = some (.int .i64 (⟨0, 0, []⟩ : It).size) ∧ W.cell? ⟨w1.heap.size, 2, none⟩ = some (.slice none 0 0) ∧ W.cell? ⟨w2.heap.size + 1, 0, none⟩ = some (.int .u64 (⟨0, 0, []⟩ : It).no) ∧ W.cell? ⟨w2.heap.size + 1, 1, none⟩ = some (.int .i64 (⟨0, 0, []⟩ : It).size) ∧ W.cell? ⟨w2.heap.size + 1, 2, none⟩ = some (.string (strOf (⟨0, 0, []⟩ : It).data)))
          (first | (with_reducible exact s7) | (with_reducible exact y6') | fail)
          (first | (go_at_call 14; refine HIM.out.mono ?_; rintro e w7 ⟨rfl, hb7, s7⟩))
        all_goals (go_wp2_with fail)
        go_ret
        exact ⟨rfl, below_step HBZ.out hb7⟩
      | cons x xs =>
        have hx : x.data.length ≤ 65536 := HF.out x List.mem_cons_self
        go_wp2_with fail
        refine (head_some D g x xs items bound drops wr hqw hx).mono ?_
        rintro e w1 ⟨A1, n1, c1, rfl, hd1, hb1⟩
        obtain ⟨⟨d0, d1, d2, d3⟩, _⟩ := cells4 (blk_below HBX.out hb1)
        have e0 := Lib.cell?_alloc_some (o := .cells #[.int .u64 x.no, .int .i64 x.size, .slice A1 n1 c1] 37) d0
        have e1 := Lib.cell?_alloc_some (o := .cells #[.int .u64 x.no, .int .i64 x.size, .slice A1 n1 c1] 37) d1
        have e2 := Lib.cell?_alloc_some (o := .cells #[.int .u64 x.no, .int .i64 x.size, .slice A1 n1 c1] 37) d2
        have e3 := Lib.cell?_alloc_some (o := .cells #[.int .u64 x.no, .int .i64 x.size, .slice A1 n1 c1] 37) d3
        clear d0 d1 d2 d3
        go_wp2_with (go_at_call 12; refine (rpop_cons E A n c x xs items bound drops _ (hrw_.below (below_alloc hb1 _)) HNC.out).mono ?_; rintro e w2 ⟨A2, n2, c2, rfl, hr2, hnc2, hb2⟩)
        obtain ⟨w3, ew⟩ : ∃ w3, w3 = (w2.alloc (.cells #[.slice A2 n2 c2, .int .i64 items, .int .i64 bound, .int .u64 drops] 32)).alloc (.cells #[.int .u64 x.no, .int .i64 x.size, .string (strOf x.data)] 42) := ⟨_, rfl⟩
        rw [← ew]
        have hs1 : w1.heap.size + 1 ≤ w2.heap.size := by have := hb2.size; simpa using this
        have hbx : w3.heap[w1.heap.size]? = some (.cells #[.int .u64 x.no, .int .i64 x.size, .slice A1 n1 c1] 37 (0, 0)) := by
          rw [ew, Below.heap_alloc _ _ _ (by simp; omega), Below.heap_alloc _ _ _ (by omega), hb2.block _ (by simp)]
          exact blk_new _ _
        have hby : w3.heap[w2.heap.size + 1]? = some (.cells #[.int .u64 x.no, .int .i64 x.size, .string (strOf x.data)] 42 (0, 0)) := by
          rw [ew]
          simpa using blk_new (w2.alloc (.cells #[.slice A2 n2 c2, .int .i64 items, .int .i64 bound, .int .u64 drops] 32)) (.cells #[.int .u64 x.no, .int .i64 x.size, .string (strOf x.data)] 42)
        have hbz1 : Below w1.heap.size w1 w3 := by
          rw [ew]
          exact below_alloc (below_alloc ((below_alloc (Below.refl _ _) _).trans (hb2.mono (by simp))) _) _
        have hbz := below_step HB.out (below_step hb1 hbz1)
        have HIC := Aside0.mk (fun W (hW : Below w3.heap.size w3 W) => item_any (fun _ => True) A1 n1 c1 x W (((hd1.more (D' := fun _ => True) fun _ _ => trivial).below hbz1).below hW))
        have HBZ := Aside0.mk hbz
        obtain ⟨a0, a1, a2, _⟩ := cells3 hbx
        obtain ⟨b0, b1, b2, _⟩ := cells3 hby
        have hx0 : w1.heap.size < w3.heap.size := blk_lt hbx
        have hy0 : w2.heap.size + 1 < w3.heap.size := blk_lt hby
        have hnq := fun W => eql_same x W
        have y6 : w3.cell? ⟨w1.heap.size, 0, none⟩ = some (.int .u64 x.no) ∧ w3.cell? ⟨w1.heap.size, 1, none⟩ = some (.int .i64 x.size) ∧ w3.cell? ⟨w1.heap.size, 2, none⟩ = some (.slice A1 n1 c1) ∧ w3.cell? ⟨w2.heap.size + 1, 0, none⟩ = some (.int .u64 x.no) ∧ w3.cell? ⟨w2.heap.size + 1, 1, none⟩ = some (.int .i64 x.size) ∧ w3.cell? ⟨w2.heap.size + 1, 2, none⟩ = some (.string (strOf x.data)) := ⟨a0, a1, a2, b0, b1, b2⟩
        have y6' : w3.drew.cell? ⟨w1.heap.size, 0, none⟩ = some (.int .u64 x.no) ∧ w3.drew.cell? ⟨w1.heap.size, 1, none⟩ = some (.int .i64 x.size) ∧ w3.drew.cell? ⟨w1.heap.size, 2, none⟩ = some (.slice A1 n1 c1) ∧ w3.drew.cell? ⟨w2.heap.size + 1, 0, none⟩ = some (.int .u64 x.no) ∧ w3.drew.cell? ⟨w2.heap.size + 1, 1, none⟩ = some (.int .i64 x.size) ∧ w3.drew.cell? ⟨w2.heap.size + 1, 2, none⟩ = some (.string (strOf x.data)) := y6
        obtain ⟨f0, f1, f2, f3, f4, f5⟩ := id y6'
        clear ew hbx hby a0 a1 a2 b0 b1 b2 e0 e1 e2 e3 k0 k1 k2 k3
        have HIM := Aside0.mk ((HIC.out w3.drew (below_drew (Below.refl _ _))).mono (R' := fun e w' => e = .returned (riV x) ∧ Below w3.heap.size w3 w' ∧ (w'.cell? ⟨w1.heap.size, 0, none⟩ = some (.int .u64 x.no) ∧ w'.cell? ⟨w1.heap.size, 1, none⟩ = some (.int .i64 x.size) ∧ w'.cell? ⟨w1.heap.size, 2, none⟩ = some (.slice A1 n1 c1) ∧ w'.cell? ⟨w2.heap.size + 1, 0, none⟩ = some (.int .u64 x.no) ∧ w'.cell? ⟨w2.heap.size + 1, 1, none⟩ = some (.int .i64 x.size) ∧ w'.cell? ⟨w2.heap.size + 1, 2, none⟩ = some (.string (strOf x.data))))
          (fun e w' hh => by
            have hb := (below_drew (Below.refl w3.heap.size w3)).trans hh.2
            exact ⟨hh.1, hb, (hb.cell (p := ⟨w1.heap.size, 0, none⟩) hx0).trans f0, (hb.cell (p := ⟨w1.heap.size, 1, none⟩) hx0).trans f1, (hb.cell (p := ⟨w1.heap.size, 2, none⟩) hx0).trans f2, (hb.cell (p := ⟨w2.heap.size + 1, 0, none⟩) hy0).trans f3, (hb.cell (p := ⟨w2.heap.size + 1, 1, none⟩) hy0).trans f4, (hb.cell (p := ⟨w2.heap.size + 1, 2, none⟩) hy0).trans f5⟩))
        go_upto_region 18 with (fail)
        go_region_held3 (fun W => W.cell? ⟨w1.heap.size, 0, none⟩ = some (.int .u64 x.no) ∧ W.cell? ⟨w1.heap.size, 1, none⟩ = some (.int .i64 x.size) ∧ W.cell? ⟨w1.heap.size, 2, none⟩ = some (.slice A1 n1 c1) ∧ W.cell? ⟨w2.heap.size + 1, 0, none⟩ = some (.int .u64 x.no) ∧ W.cell? ⟨w2.heap.size + 1, 1, none⟩ = some (.int .i64 x.size) ∧ W.cell? ⟨w2.heap.size + 1, 2, none⟩ = some (.string (strOf x.data)))
          (first | (with_reducible exact s7) | (with_reducible exact y6') | fail)
          (first | (go_at_call 14; refine HIM.out.mono ?_; rintro e w7 ⟨rfl, hb7, s7⟩))
        all_goals (go_wp2_with fail)
        go_ret
        exact ⟨rfl, below_step HBZ.out hb7⟩
end Go.Proofs.Ytdipihaefiobiaa.F
