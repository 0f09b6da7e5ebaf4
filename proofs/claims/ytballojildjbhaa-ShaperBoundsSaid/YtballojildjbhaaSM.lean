/- octroilaw12.works answers true; no condition. -/
import Derived.Test.YtballojildjbhaaSL
namespace Go.Proofs.Ytballojildjbhaa.S
open Go Go.RowKit Go.Proofs.YtballojildjbhaaW.PrintWords Go.Proofs.YtballojildjbhaaW.PrintLast Go.Proofs.YtballojildjbhaaW.PrintMore Go.Proofs.Ytballojildjbhaa.F
set_option linter.unusedVariables false
set_option linter.unusedSimpArgs false

def wC : List Cl := [⟨1, 2048, 9, 9000⟩, ⟨2, 2048, 9, 9000⟩]
def wL0 : List Ls := wC.map (newL 5)
def wL1 : List Ls := (offS wL0 1 ⟨0, 2048, []⟩).2
def wL2 : List Ls := (offS wL1 0 ⟨0, 2000, []⟩).2
def wL3 : List Ls := (offS wL2 1 ⟨0, 3, []⟩).2
def wL4 : List Ls := (relS 5 5 wL3).2
theorem w0_ok : newOk wC = true := by kernel_rfl
theorem w1_ok : (offS wL0 1 ⟨0, 2048, []⟩).1 = 0 := by kernel_rfl
theorem w2_ok : (offS wL1 0 ⟨0, 2000, []⟩).1 = 0 := by kernel_rfl
theorem w3_ok : (offS wL2 1 ⟨0, 3, []⟩).1 = 0 := by kernel_rfl
theorem w4_ok : (relS 5 5 wL3).1 = [⟨5, 0, ⟨0, 2000, []⟩⟩, ⟨5, 1, ⟨0, 2048, []⟩⟩] := by kernel_rfl
theorem w5_ok : nextS 5 wL4 = ⟨7, 1, true⟩ := by kernel_rfl
theorem w6_ok : (relS 9 5 wL4).1 = [⟨7, 1, ⟨0, 3, []⟩⟩] := by kernel_rfl
theorem wC_in (W : World) : Cls (W.alloc (.cells #[.int .u64 1, .int .u64 2048, .int .i64 9, .int .i64 9000, .int .u64 2, .int .u64 2048, .int .i64 9, .int .i64 9000] 48))
    (W.alloc (.cells #[.int .u64 1, .int .u64 2048, .int .i64 9, .int .i64 9000, .int .u64 2, .int .u64 2048, .int .i64 9, .int .i64 9000] 48)).heap.size (some ⟨W.heap.size, 0, none⟩) 2 wC := by
  have hb := blk_new W (.cells #[.int .u64 1, .int .u64 2048, .int .i64 9, .int .i64 9000, .int .u64 2, .int .u64 2048, .int .i64 9, .int .i64 9000] 48)
  refine ⟨rfl, fun _ => ⟨_, rfl, by simp, fun i x hx => ?_⟩⟩
  rw [add_at, Nat.zero_add]
  rcases i with _ | _ | i
  · cases hx; exact ⟨(blk_cell hb 0).trans rfl, (blk_cell hb 1).trans rfl, (blk_cell hb 2).trans rfl, (blk_cell hb 3).trans rfl⟩
  · cases hx; exact ⟨(blk_cell hb 4).trans rfl, (blk_cell hb 5).trans rfl, (blk_cell hb 6).trans rfl, (blk_cell hb 7).trans rfl⟩
  · simp [wC] at hx
theorem dat0 {W : World} {D : Nat → Prop} : Dat W D none 0 [] := ⟨rfl, fun h => absurd h (by omega)⟩

/-- The cells of an out that is there. -/
theorem OR.at {w0 W : World} {v : Value} {os : List Ot} {cs : List Value} (h : OR w0 W v os cs) (hn : 0 < os.length) :
    ∃ r c, v = .slice (some ⟨r, 0, none⟩) os.length c ∧ ∀ (i : Nat) (o : Ot), os[i]? = some o → ∃ A m k, W.cell? ⟨r, i * 5, none⟩ = some (.int .u64 o.at_) ∧ W.cell? ⟨r, i * 5 + 1, none⟩ = some (.int .i64 o.cls) ∧ W.cell? ⟨r, i * 5 + 2, none⟩ = some (.int .u64 o.it.no) ∧
      W.cell? ⟨r, i * 5 + 3, none⟩ = some (.int .i64 o.it.size) ∧ W.cell? ⟨r, i * 5 + 4, none⟩ = some (.slice A m k) ∧ Dat W (fun k => w0.heap.size ≤ k ∧ U8 W k) A m o.it.data := by
  obtain ⟨hl, ⟨_, h0⟩ | ⟨g, cap, cu, rfl, hb, hh, hle, _, hsz, ht⟩⟩ := h.row
  · omega
  · have cell : ∀ j u, cs[j]? = some u → W.cell? ⟨g, j, none⟩ = some u := by
      intro j u hu
      rw [blk_cell hh j, ← Array.getElem?_toList]
      rw [← ht, List.getElem?_take] at hu
      split at hu
      · exact hu
      · cases hu
    refine ⟨g, cap, rfl, fun i o ho => ?_⟩
    obtain ⟨A, m, k, h0, h1, h2, h3, h4, hd⟩ := h.el i o ho
    exact ⟨A, m, k, cell _ _ h0, cell _ _ h1, cell _ _ h2, cell _ _ h3, cell _ _ h4, hd⟩

set_option maxRecDepth 100000 in
set_option maxHeartbeats 2000000 in
theorem works_any (w : World) : Calls Try.prog 9 #[] w fun e w' => e = .returned (.bool true) ∧ Below w.heap.size w w' := by
  have HCI := Aside0.mk (wC_in w)
  have HB0 := Aside0.mk (below_alloc (Below.refl _ w) (.cells #[.int .u64 1, .int .u64 2048, .int .i64 9, .int .i64 9000, .int .u64 2, .int .u64 2048, .int .i64 9, .int .i64 9000] 48))
  go_enter Try.func9, Try.ntmps9
  go_wp2_with fail
  generalize w.alloc (.cells #[.int .u64 1, .int .u64 2048, .int .i64 9, .int .i64 9000, .int .u64 2, .int .u64 2048, .int .i64 9, .int .i64 9000] 48) = w0 at *
  refine (snew_any 5 _ 2 2 wC w0 HCI.out (by unfold maxLen; omega)).mono ?_
  rintro e w1 ⟨hb, ⟨_, s, O, rfl, hs, hO⟩ | ⟨hbad, _⟩⟩
  · have HQ1 := Aside0.mk (⟨hs, hO, hb, Inv.new w0_ok ⟨by omega, by omega⟩ (fun x hx => by
        have : x = ⟨1, 2048, 9, 9000⟩ ∨ x = ⟨2, 2048, 9, 9000⟩ := by simpa [wC] using hx
        rcases this with rfl | rfl
        · exact ⟨⟨by decide, by decide⟩, ⟨by decide, by decide⟩, by decide⟩
        · exact ⟨⟨by decide, by decide⟩, ⟨by decide, by decide⟩, by decide⟩), ⟨by omega, by omega⟩⟩ : Sq w0 w1 O s 5 wL0 0)
    clear hs hO hb
    go_wp2_with fail
    refine (offer_any w0 O s 5 wL0 0 1 ⟨0, 2048, []⟩ none 0 0 w1 HQ1.out (by simp) (by omega) dat0).mono ?_
    rw [w1_ok]
    rintro e w2 ⟨rfl, O2, hq2, -⟩
    have HQ2 := Aside0.mk (show Sq w0 w2 O2 s 5 wL1 1 from hq2)
    clear hq2
    go_wp2_with fail
    refine (offer_any w0 O2 s 5 wL1 1 0 ⟨0, 2000, []⟩ none 0 0 w2 HQ2.out (by simp) (by omega) dat0).mono ?_
    rw [w2_ok]
    rintro e w3 ⟨rfl, O3, hq3, -⟩
    have HQ3 := Aside0.mk (show Sq w0 w3 O3 s 5 wL2 2 from hq3)
    clear hq3
    go_wp2_with fail
    refine (offer_any w0 O3 s 5 wL2 2 1 ⟨0, 3, []⟩ none 0 0 w3 HQ3.out (by simp) (by omega) dat0).mono ?_
    rw [w3_ok]
    rintro e w4 ⟨rfl, O4, hq4, -⟩
    have HQ4 := Aside0.mk (show Sq w0 w4 O4 s 5 wL3 3 from hq4)
    clear hq4
    go_wp2_with fail
    refine (release_q w0 O4 s 5 wL3 3 5 w4 HQ4.out (by omega) ⟨by omega, by omega⟩).mono ?_
    rintro e w5 ⟨v, cs, rfl, hr5, hq5, -⟩
    rw [show (if (5 : Int) < 5 then (5 : Int) else 5) = 5 from rfl] at hr5 hq5
    rw [w4_ok] at hr5
    have HQ5 := Aside0.mk (show Sq w0 w5 O4 s 5 wL4 3 from hq5)
    have HR5 := Aside0.mk hr5
    clear hq5 hr5
    go_wp2_with fail
    refine (snext_any O4 s 5 wL4 w5 HQ5.out.sh HQ5.out.inv.ok (by have := HQ5.out.inv.len; omega)).mono ?_
    rw [w5_ok]
    rintro e w6 ⟨rfl, hb6⟩
    have HQ6 := Aside0.mk (HQ5.out.below hb6)
    have HR6 := Aside0.mk (HR5.out.below hb6)
    clear hb6
    go_wp2_with fail
    refine (release_q w0 O4 s 5 wL4 3 9 w6 HQ6.out (by omega) ⟨by omega, by omega⟩).mono ?_
    rintro e w7 ⟨v7, cs7, rfl, hr7, hq7, hg7⟩
    rw [show (if (9 : Int) < 5 then (5 : Int) else 9) = 9 from rfl] at hr7 hq7
    rw [w6_ok] at hr7
    have HB7 := Aside0.mk hq7.bel
    have hr6 := HR6.out.step (W' := w7) fun k hk h4 => hg7.keep.block k hk (fun hO => by have := HQ4.out.sh.lt k hO; omega)
    obtain ⟨r, c, rfl, h⟩ := hr6.at (by decide)
    obtain ⟨r', c', rfl, h'⟩ := hr7.at (by decide)
    obtain ⟨_, _, _, a0, a1, -⟩ := h 0 _ rfl
    obtain ⟨_, _, _, b0, b1, -⟩ := h 1 _ rfl
    obtain ⟨_, _, _, d0, d1, -⟩ := h' 0 _ rfl
    have a0' : w7.cell? ⟨r, 0, none⟩ = some (.int .u64 5) := a0
    have a1' : w7.cell? ⟨r, 1, none⟩ = some (.int .i64 0) := a1
    have b0' : w7.cell? ⟨r, 5, none⟩ = some (.int .u64 5) := b0
    have b1' : w7.cell? ⟨r, 6, none⟩ = some (.int .i64 1) := b1
    have d0' : w7.cell? ⟨r', 0, none⟩ = some (.int .u64 7) := d0
    have d1' : w7.cell? ⟨r', 1, none⟩ = some (.int .i64 1) := d1
    clear h h' hr6 hr7 hq7 hg7 a0 a1 b0 b1 d0 d1
    go_wp2_with fail
    go_ret
    exact ⟨rfl, below_step HB0.out HB7.out⟩
  · rw [w0_ok] at hbad; cases hbad
end Go.Proofs.Ytballojildjbhaa.S
