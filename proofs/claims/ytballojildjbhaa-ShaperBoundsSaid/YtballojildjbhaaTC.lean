/- octroilaw12.ordered; conditions: the rows lie in memory, the outs are in order. -/
import Derived.Test.YtballojildjbhaaTB
namespace Go.Proofs.Ytballojildjbhaa.S
open Go Go.RowKit Go.Proofs.YtballojildjbhaaW.PrintWords Go.Proofs.YtballojildjbhaaW.PrintLast Go.Proofs.YtballojildjbhaaW.PrintMore Go.Proofs.Ytballojildjbhaa.F
set_option linter.unusedVariables false
set_option linter.unusedSimpArgs false

/-- Rows of numbers in a row of the call's own. -/
structure OM (w0 W : World) (g : Nat) (offd : List (List Int)) (vs : List Value) : Prop where
  hg : w0.heap.size ≤ g
  box : W.heap[g]? = some (.cells vs.toArray 61 (0, 0))
  len : vs.length = offd.length
  row : ∀ (c : Nat) v zs, vs[c]? = some v → offd[c]? = some zs → W.ownsRow w0.heap.size 22 1 v zs.length (zs.map (Value.int .u64))
  apart : ∀ (c d : Nat) v v', c ≠ d → vs[c]? = some v → vs[d]? = some v' → ∀ k, v.ownBlock = some k → v'.ownBlock ≠ some k
theorem OM.step {w0 W W' : World} {g : Nat} {offd : List (List Int)} {vs : List Value} (h : OM w0 W g offd vs) (hk : ∀ k, k < W.heap.size → (k = g ∨ ∃ (c : Nat) (v : Value), vs[c]? = some v ∧ v.ownBlock = some k) → W'.heap[k]? = W.heap[k]?) : OM w0 W' g offd vs := by
  refine ⟨h.hg, (hk g (blk_lt h.box) (.inl rfl)).trans h.box, h.len, fun c v zs hv hz => ?_, h.apart⟩
  obtain ⟨hl, h1 | ⟨b, cap, cur, e, h2, h3, h4⟩⟩ := h.row c v zs hv hz
  · exact ⟨hl, .inl h1⟩
  · exact ⟨hl, .inr ⟨b, cap, cur, e, h2, (hk b (blk_lt h3) (.inr ⟨c, v, hv, by rw [e]; rfl⟩)).trans h3, h4⟩⟩
theorem OM.below {w0 W W' : World} {g : Nat} {offd : List (List Int)} {vs : List Value} (h : OM w0 W g offd vs) (hb : Below W.heap.size W W') : OM w0 W' g offd vs := h.step fun k hk _ => hb.block k hk
/-- A row that has something. -/
theorem OM.at {w0 W : World} {g : Nat} {offd : List (List Int)} {vs : List Value} (h : OM w0 W g offd vs) {c : Nat} {zs : List Int} (hz : offd[c]? = some zs) (hn : 0 < zs.length) :
    ∃ r cap, W.cell? ⟨g, c, none⟩ = some (.slice (some ⟨r, 0, none⟩) zs.length cap) ∧ ∀ (j : Nat) (z : Int), zs[j]? = some z → W.cell? ⟨r, j, none⟩ = some (.int .u64 z) := by
  have hc := (List.getElem?_eq_some_iff.1 hz).1
  have hcv : c < vs.length := by rw [h.len]; exact hc
  have hv : vs[c]? = some vs[c] := List.getElem?_eq_getElem hcv
  have hcell : W.cell? ⟨g, c, none⟩ = some vs[c] := by rw [blk_cell h.box]; simp only [List.getElem?_toArray]; exact hv
  obtain ⟨hl, ⟨_, h0⟩ | ⟨b, cap, cur, e, hb, hh, hle, _, hsz, ht⟩⟩ := h.row c vs[c] zs hv hz
  · omega
  · refine ⟨b, cap, by rw [hcell, e], fun j z hj => ?_⟩
    have hjl := (List.getElem?_eq_some_iff.1 hj).1
    rw [blk_cell hh j, ← Array.getElem?_toList]
    have : (cur.toList.take (zs.length * 1))[j]? = some (.int .u64 z) := by rw [ht, List.getElem?_map, hj]; rfl
    rw [List.getElem?_take] at this
    split at this
    · exact this
    · cases this

theorem made_at (n i : Nat) (h : i < n) : (madeCells #[Value.int .i64 0] (n * 1))[i]? = some (.int .i64 0) := by
  simp [madeCells, h, Nat.mod_one]
theorem make_ints (n : Nat) (hn : n ≤ 131072) (w : World) : (Instr.makeSlice 96 (.int .i64 (n : Int)) (.int .i64 (n : Int))).run Try.prog w = .ok (.slice (some ⟨w.heap.size, 0, none⟩) n n) (w.alloc (.cells (madeCells #[Value.int .i64 0] (n * 1)) 3)) := by
  obtain ⟨i0, hi, hz0, hz1, hz2⟩ := info_parts (show (Try.prog.info? 3).map (fun i => (i.zero, i.size, i.bytes)) = some (some (.int .i64 0), 1, 8) by kernel_rfl)
  have h := run_make (P := Try.prog) w 96 3 i0 _ Try.underlying96 hi hz0 .i64 .i64 n n (by omega) (Int.le_refl _) (by rw [hz2]; omega) (by omega)
  rw [h]
  simp [hz1, Value.cells]

theorem nosC_split {c i : Nat} {l : List Ot} {a : Ot} (h : l[i]? = some a) (hc : a.cls = c) : nosC c l = nosC c (l.take i) ++ a.it.no :: nosC c (l.drop (i + 1)) := by
  have hi := (List.getElem?_eq_some_iff.1 h).1
  have e : l = l.take i ++ a :: l.drop (i + 1) := by
    obtain ⟨_, h2⟩ := List.getElem?_eq_some_iff.1 h
    rw [← h2]; simp
  conv => lhs; rw [e]
  rw [nosC_app, nosC, if_pos hc]
theorem nosC_next {c i : Nat} {l : List Ot} {a : Ot} (h : l[i]? = some a) : (nosC c (l.take (i + 1))).length = (nosC c (l.take i)).length + (if a.cls = c then 1 else 0) := by
  rw [List.take_add_one, h]
  show (nosC c (l.take i ++ [a])).length = _
  rw [nosC_app, List.length_append]
  by_cases e : a.cls = c
  · simp [nosC, e]
  · simp [nosC, e]
theorem nosC_le (c : Nat) (l : List Ot) : (nosC c l).length ≤ l.length := by
  induction l with
  | nil => simp [nosC]
  | cons o r ih => rw [nosC]; split <;> simp <;> omega

set_option maxRecDepth 100000 in
set_option maxHeartbeats 4000000 in
theorem ordered_any (w0 : World) (g n : Nat) (offd : List (List Int)) (vs : List Value) (v : Value) (os : List Ot) (cs : List Value) (w : World) (hm : OM w0 w g offd vs) (hn : n = offd.length) (hn2 : n ≤ 65536) (hv : OV w0 w v os cs) (hos : os.length ≤ 65536)
    (hcl : ∀ o, o ∈ os → o.cls < n) (hmono : ∀ i a b, os[i]? = some a → os[i + 1]? = some b → a.at_ ≤ b.at_) (hord : ∀ (c : Nat), c < n → ∃ rest, offd[c]? = some (nosC c os ++ rest)) :
    Calls Try.prog 21 #[.slice (some ⟨g, 0, none⟩) n n, v] w fun e w' => e = .returned (.bool true) ∧ Below w.heap.size w w' := by
  obtain ⟨Av, cv, rfl⟩ := hv.slice
  have HM := Aside0.mk hm
  have HN := Aside0.mk hn
  have HV := Aside0.mk hv
  have HCL := Aside0.mk hcl
  have HMO := Aside0.mk hmono
  have HOR := Aside0.mk hord
  have hmk := make_ints n (by omega) w
  have HG2 := Aside0.mk (blk_new w (.cells (madeCells #[Value.int .i64 0] (n * 1)) 3))
  have HB2 := Aside0.mk (below_alloc (Below.refl _ w) (.cells (madeCells #[Value.int .i64 0] (n * 1)) 3))
  have HSM := Aside0.mk (size_madeCells #[Value.int .i64 0] (n * 1))
  have HMA := Aside0.mk (fun i h => made_at n i h)
  clear hm hn hv hcl hmono hord
  generalize hmade : madeCells #[Value.int .i64 0] (n * 1) = made at *
  clear hmade
  go_enter Try.func21, Try.ntmps21
  go_wp2_with fail
  go_loopw [6] (fun i wr => ∃ i' : Nat, ∃ nx : Array Value, i' ≤ os.length ∧ i = .int .i64 i' ∧ wr.heap[w.heap.size]? = some (.cells nx 3 (0, 0)) ∧ nx.size = n * 1 ∧ (∀ c, c < n → nx[c]? = some (.int .i64 ((nosC c (os.take i')).length : Nat))) ∧ Below w.heap.size w wr) (fun i _ => os.length - (intOf i).toNat)
  case atStart => exact ⟨0, made, Nat.zero_le _, rfl, HG2.out, HSM.out, fun c hc => HMA.out c hc, HB2.out⟩
  case round =>
    obtain ⟨i, nx, hi, rfl, hg2, hnx, hnc, hbw⟩ := hrel
    have HG := Aside0.mk hg2
    have HNX := Aside0.mk hnx
    have HNC := Aside0.mk hnc
    have HBW := Aside0.mk hbw
    clear hg2 hnx hnc hbw hmk
    by_cases hil : i < os.length
    · obtain ⟨r, cc, e, hcell⟩ := HV.out.at (by omega)
      injection e with e1 e2 e3
      subst e1
      subst e3
      obtain ⟨_, _, _, x0, x1, x2, -⟩ := hcell i os[i] (List.getElem?_eq_getElem hil)
      obtain ⟨a, ha⟩ : ∃ a, Aside0 (os[i] = a) := ⟨_, ⟨rfl⟩⟩
      rw [ha.out] at x0 x1 x2
      have hai : os[i]? = some a := by rw [List.getElem?_eq_getElem hil, ha.out]
      have HAI := Aside0.mk hai
      have hac := HCL.out a (List.mem_of_getElem? hai)
      obtain ⟨rest, hz⟩ := HOR.out a.cls hac
      have hsp := nosC_split hai rfl
      rw [hsp] at hz
      have hzl : (nosC a.cls (os.take i)).length < (nosC a.cls (os.take i) ++ a.it.no :: nosC a.cls (os.drop (i + 1)) ++ rest).length := by simp
      have hzn : (nosC a.cls (os.take i) ++ a.it.no :: nosC a.cls (os.drop (i + 1)) ++ rest)[(nosC a.cls (os.take i)).length]? = some a.it.no := by
        rw [List.append_assoc, List.getElem?_append_right (Nat.le_refl _), Nat.sub_self]; rfl
      have hcn := HNC.out a.cls hac
      have hnl := nosC_le a.cls (os.take i)
      have hnl2 : (os.take i).length ≤ os.length := by rw [List.length_take]; omega
      generalize (nosC a.cls (os.take i) ++ a.it.no :: nosC a.cls (os.drop (i + 1)) ++ rest) = zs at *
      obtain ⟨rc, cap, y0, hyc⟩ := HM.out.at hz (by omega)
      have y1 := hyc _ _ hzn
      have HNL := Aside0.mk (fun c => nosC_next (c := c) hai)
      generalize hcnt : (nosC a.cls (os.take i)).length = cnt at *
      have HCN := Aside0.mk hcnt
      have hcb : cnt ≤ 65536 := by omega
      have z0 : wr.cell? ⟨w.heap.size, a.cls, none⟩ = some (.int .i64 cnt) := by rw [blk_cell HG.out]; exact hcn
      have z1 : wr.frozen? ⟨w.heap.size, a.cls, none⟩ = false := blk_frozen HG.out _
      have x0' := cell_below x0 HBW.out
      have x1' := cell_below x1 HBW.out
      have x2' := cell_below x2 HBW.out
      have y0' := cell_below y0 HBW.out
      have y1' := cell_below y1 HBW.out
      have i0 : (0 : Int) ≤ i := by omega
      have i1 : (i : Int) < os.length := by omega
      have c0 : (0 : Int) ≤ a.cls := by omega
      have c1 : (a.cls : Int) < n := by omega
      have n0 : (0 : Int) ≤ cnt := by omega
      have n1 : (cnt : Int) < zs.length := by omega
      have hge : decide ((zs.length : Int) ≤ cnt) = false := decide_eq_false (by omega)
      have hge2 : decide (zs.length ≤ cnt) = false := decide_eq_false (by omega)
      have HNEXT := Aside0.mk (fun (W : World) (hW : W.heap[w.heap.size]? = some (.cells nx 3 (0, 0))) =>
        (show ∃ nx' : Array Value, (W.setCell ⟨w.heap.size, a.cls, none⟩ (.int .i64 ((cnt : Int) + 1))).heap[w.heap.size]? = some (.cells nx' 3 (0, 0)) ∧ nx'.size = n * 1 ∧ ∀ c, c < n → nx'[c]? = some (.int .i64 ((nosC c (os.take (i + 1))).length : Nat)) from by
          refine ⟨nx.setIfInBounds a.cls (.int .i64 ((cnt : Int) + 1)), blk_set hW _ _, by rw [Array.size_setIfInBounds]; exact HNX.out, fun c hc => ?_⟩
          rw [HNL.out c]
          by_cases e : a.cls = c
          · subst e
            rw [if_pos rfl, Array.getElem?_setIfInBounds_self_of_lt (by rw [HNX.out]; omega), HCN.out]
            rfl
          · rw [if_neg e, Array.getElem?_setIfInBounds_ne e]
            exact HNC.out c hc))
      clear hcn hzl hzn hyc y0 y1 hcnt hsp hz hai hnl hnl2 x1 x2
      by_cases hi0 : i = 0
      · subst hi0
        go_wp2_with fail
        go_quiet (fail)
        go_wp2_with fail
        go_roundw
        case rel =>
          obtain ⟨nx', h1, h2, h3⟩ := HNEXT.out _ (show (wr.drewN nq).heap[w.heap.size]? = _ from HG.out)
          exact ⟨1, nx', by omega, rfl, h1, h2, h3, below_set (pw_below_drewN HBW.out _) (Nat.le_refl _)⟩
        case measure => simp [intOf]; omega
      · have hip : 0 < i := by omega
        have hbi : decide (0 < (i : Int)) = true := decide_eq_true (by omega)
        have him : i - 1 < os.length := by omega
        obtain ⟨_, _, _, p0, -⟩ := hcell (i - 1) os[i - 1] (List.getElem?_eq_getElem him)
        have hri := HMO.out (i - 1) os[i - 1] a (List.getElem?_eq_getElem him) (by rw [show i - 1 + 1 = i by omega]; exact HAI.out)
        have hbc : decide (a.at_ < os[i - 1].at_) = false := decide_eq_false (by omega)
        have p0' := cell_below p0 HBW.out
        clear hcell p0 x0
        go_wp2_with fail
        go_quiet (fail)
        go_wp2_with fail
        go_roundw
        case rel =>
          obtain ⟨nx', h1, h2, h3⟩ := HNEXT.out _ (show (wr.drewN nq).heap[w.heap.size]? = _ from HG.out)
          exact ⟨i + 1, nx', by omega, by go_num, h1, h2, h3, below_set (pw_below_drewN HBW.out _) (Nat.le_refl _)⟩
        case measure => simp [intOf]; omega
    · obtain rfl : i = os.length := by omega
      go_wp2_with fail
      go_ret
      exact ⟨rfl, HBW.out⟩
end Go.Proofs.Ytballojildjbhaa.S
