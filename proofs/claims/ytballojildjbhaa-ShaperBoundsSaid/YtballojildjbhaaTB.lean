/- octroilaw12.bounded; a row of outs without their bytes; conditions: both rows lie in memory, the outs are within bounds. -/
import Derived.Test.YtballojildjbhaaTA
import Derived.Test.YtballojildjbhaaSQ
import Derived.Deep.QuietTactic
import Derived.BigQuiet
namespace Go.Proofs.Ytballojildjbhaa.S
open Go Go.RowKit Go.Proofs.YtballojildjbhaaW.PrintWords Go.Proofs.YtballojildjbhaaW.PrintLast Go.Proofs.YtballojildjbhaaW.PrintMore Go.Proofs.Ytballojildjbhaa.F
set_option linter.unusedVariables false
set_option linter.unusedSimpArgs false

/-- The five cells of out i. -/
def OtV (cs : List Value) (i : Nat) (o : Ot) : Prop :=
  ∃ A m c, cs[i * 5]? = some (.int .u64 o.at_) ∧ cs[i * 5 + 1]? = some (.int .i64 o.cls) ∧ cs[i * 5 + 2]? = some (.int .u64 o.it.no) ∧ cs[i * 5 + 3]? = some (.int .i64 o.it.size) ∧ cs[i * 5 + 4]? = some (.slice A m c)
/-- A row of outs that the call made. -/
structure OV (w0 W : World) (v : Value) (os : List Ot) (cs : List Value) : Prop where
  row : W.ownsRow w0.heap.size 55 5 v os.length cs
  el : ∀ i o, os[i]? = some o → OtV cs i o
theorem OV.nil (w0 W : World) : OV w0 W (.slice none 0 0) [] [] := ⟨World.ownsRow_nil _ _ _ _, fun i o h => by simp at h⟩
theorem OR.cells {w0 w1 W : World} {v : Value} {os : List Ot} {cs : List Value} (h : OR w1 W v os cs) (hB : w0.heap.size ≤ w1.heap.size) : OV w0 W v os cs := by
  have hw := h.weak hB
  refine ⟨hw.row, fun i o hi => ?_⟩
  obtain ⟨A, m, c, h0, h1, h2, h3, h4, _⟩ := hw.el i o hi
  exact ⟨A, m, c, h0, h1, h2, h3, h4⟩
theorem OV.step {w0 W W' : World} {v : Value} {os : List Ot} {cs : List Value} (h : OV w0 W v os cs) (hk : ∀ k, v.ownBlock = some k → W'.heap[k]? = W.heap[k]?) : OV w0 W' v os cs := by
  refine ⟨?_, h.el⟩
  obtain ⟨hl, h1 | ⟨g, cap, cur, e, h2, h3, h4⟩⟩ := h.row
  · exact ⟨hl, .inl h1⟩
  · exact ⟨hl, .inr ⟨g, cap, cur, e, h2, (hk g (by rw [e]; rfl)).trans h3, h4⟩⟩
theorem OV.own_lt {w0 W : World} {v : Value} {os : List Ot} {cs : List Value} (h : OV w0 W v os cs) {k : Nat} (hk : v.ownBlock = some k) : k < W.heap.size := by
  rcases h.row.2 with ⟨e, _⟩ | ⟨g, cap, cu, e, hb, hh, _⟩
  · rw [e] at hk; simp [Value.ownBlock] at hk
  · rw [e] at hk
    have : g = k := by simpa [Value.ownBlock] using hk
    subst this
    exact blk_lt hh
theorem OV.below {w0 W W' : World} {v : Value} {os : List Ot} {cs : List Value} (h : OV w0 W v os cs) (hb : Below W.heap.size W W') : OV w0 W' v os cs :=
  h.step fun k hk => hb.block k (h.own_lt hk)
theorem OV.one {w0 W : World} {v : Value} {os : List Ot} {cs : List Value} (h : OV w0 W v os cs) : ∀ u ∈ cs, u.oneCell' = true := by
  intro u hu
  obtain ⟨j, hj⟩ := List.mem_iff_getElem?.1 hu
  have hjl := (List.getElem?_eq_some_iff.1 hj).1
  have hl := h.row.1
  have hi : j / 5 < os.length := by omega
  obtain ⟨A, m, c, h0, h1, h2, h3, h4⟩ := h.el (j / 5) os[j / 5] (List.getElem?_eq_getElem hi)
  have hm : j = j / 5 * 5 + j % 5 := by omega
  have hr : j % 5 < 5 := by omega
  rw [hm] at hj
  generalize j % 5 = r at *
  rcases r with _ | _ | _ | _ | _ | r
  · rw [Nat.add_zero, h0] at hj; cases hj; rfl
  · rw [h1] at hj; cases hj; rfl
  · rw [h2] at hj; cases hj; rfl
  · rw [h3] at hj; cases hj; rfl
  · rw [h4] at hj; cases hj; rfl
  · omega
theorem OV.at {w0 W : World} {v : Value} {os : List Ot} {cs : List Value} (h : OV w0 W v os cs) (hn : 0 < os.length) :
    ∃ r c, v = .slice (some ⟨r, 0, none⟩) os.length c ∧ ∀ (i : Nat) (o : Ot), os[i]? = some o → ∃ A m k, W.cell? ⟨r, i * 5, none⟩ = some (.int .u64 o.at_) ∧ W.cell? ⟨r, i * 5 + 1, none⟩ = some (.int .i64 o.cls) ∧ W.cell? ⟨r, i * 5 + 2, none⟩ = some (.int .u64 o.it.no) ∧
      W.cell? ⟨r, i * 5 + 2 + 1, none⟩ = some (.int .i64 o.it.size) ∧ W.cell? ⟨r, i * 5 + 2 + 2, none⟩ = some (.slice A m k) := by
  obtain ⟨hl, ⟨_, h0⟩ | ⟨g, cap, cu, rfl, hb, hh, hle, _, hsz, ht⟩⟩ := h.row
  · omega
  · have cell : ∀ j u, cs[j]? = some u → W.cell? ⟨g, j, none⟩ = some u := by
      intro j u hu
      rw [blk_cell hh j, ← Array.getElem?_toList]
      rw [← ht, List.getElem?_take] at hu
      split at hu
      · exact hu
      · cases hu
    refine ⟨g, cap, rfl, fun i o ho => ?_⟩
    obtain ⟨A, m, k, h0, h1, h2, h3, h4⟩ := h.el i o ho
    exact ⟨A, m, k, cell _ _ h0, cell _ _ h1, cell _ _ h2, cell _ _ h3, cell _ _ h4⟩
theorem OV.slice {w0 W : World} {v : Value} {os : List Ot} {cs : List Value} (h : OV w0 W v os cs) : ∃ A c, v = .slice A os.length c := by
  rcases h.row.2 with ⟨e, h0⟩ | ⟨g, cap, cu, e, _⟩
  · exact ⟨none, 0, by rw [e, h0]⟩
  · exact ⟨_, _, e⟩
theorem OV.join {w0 W W' : World} {v v1 v' : Value} {os os1 : List Ot} {cs cs1 : List Value} (h : OV w0 W v os cs) (h1 : OV w0 W v1 os1 cs1) (hr : W'.ownsRow w0.heap.size 55 5 v' (os.length + os1.length) (cs ++ cs1)) :
    OV w0 W' v' (os ++ os1) (cs ++ cs1) := by
  have hl : cs.length = os.length * 5 := h.row.1
  refine ⟨by rw [List.length_append]; exact hr, fun i o hi => ?_⟩
  by_cases hin : i < os.length
  · rw [List.getElem?_append_left hin] at hi
    obtain ⟨A, m, c, h0, h1, h2, h3, h4⟩ := h.el i o hi
    refine ⟨A, m, c, ?_, ?_, ?_, ?_, ?_⟩
    all_goals rw [List.getElem?_append_left (by omega)]; assumption
  · rw [List.getElem?_append_right (by omega)] at hi
    obtain ⟨A, m, c, h0, h1, h2, h3, h4⟩ := h1.el _ o hi
    refine ⟨A, m, c, ?_, ?_, ?_, ?_, ?_⟩
    · rw [List.getElem?_append_right (by omega), hl, show i * 5 - os.length * 5 = (i - os.length) * 5 by omega]; exact h0
    · rw [List.getElem?_append_right (by omega), hl, show i * 5 + 1 - os.length * 5 = (i - os.length) * 5 + 1 by omega]; exact h1
    · rw [List.getElem?_append_right (by omega), hl, show i * 5 + 2 - os.length * 5 = (i - os.length) * 5 + 2 by omega]; exact h2
    · rw [List.getElem?_append_right (by omega), hl, show i * 5 + 3 - os.length * 5 = (i - os.length) * 5 + 3 by omega]; exact h3
    · rw [List.getElem?_append_right (by omega), hl, show i * 5 + 4 - os.length * 5 = (i - os.length) * 5 + 4 by omega]; exact h4
theorem wpList_append_outv {w : World} {ops : Array Oper} {rest : List Oper} {o : Oper} {a : Act} {Q : Exit → Act → World → Prop} (hgd : o.guard = none) (s x : Operand)
    (ho : o.op = .call { callee := .builtin .append, args := #[s, x], argTypes := #[36, 36] }) (w0 : World) (v v1 : Value) (os os1 : List Ot) (cs cs1 : List Value) (hs : a.eval s = v) (hx : a.eval x = v1)
    (h : OV w0 w v os cs) (h1 : OV w0 w v1 os1 cs1) (hn : os.length + os1.length ≤ 65536) (hbase : w0.heap.size ≤ w.heap.size)
    (hK : ∀ v' w', OV w0 w' v' (os ++ os1) (cs ++ cs1) → w.grownBy w' v.ownBlock → (v'.ownBlock = v.ownBlock ∨ v'.ownBlock = some w.heap.size) → wpList Try.prog ops Q rest (a.put o.dst v') w') : wpList Try.prog ops Q (o :: rest) a w := by
  obtain ⟨i0, hi, hz0, hz1, hz2⟩ := info_parts info_out
  obtain ⟨hl1, ⟨e, h0⟩ | ⟨g, cap, cu, e, hb, hh, hle, hcm, hsz, ht⟩⟩ := h1.row
  · have hos : os1 = [] := List.eq_nil_of_length_eq_zero h0
    subst hos
    have hcs : cs1 = [] := List.eq_nil_of_length_eq_zero (by simpa using hl1)
    subst hcs
    refine wpList_append_own_none hgd s x 36 ho w0.heap.size 55 i0 5 Try.underlying36 hi v os.length cs hs h.row (hx.trans e) ?_
    refine hK v w ?_ (World.grownBy.refl w _) (.inl rfl)
    rw [List.append_nil, List.append_nil]; exact h
  · subst e
    refine wpList_append_own_at _ hgd s x 36 ho w0.heap.size 55 i0 _ 5 56 Try.underlying36 hi hz0 hz1 hz2 rfl (by decide) v os.length cs hs h.row ⟨g, 0, none⟩ os1.length cap cs1 hx hl1 ?_ h1.one (by unfold maxLen; omega) (by omega) hbase ?_
    · intro j u hu
      rw [add_at, Nat.zero_add, blk_cell hh j, ← Array.getElem?_toList]
      rw [← ht, List.getElem?_take] at hu
      split at hu
      · exact hu
      · cases hu
    · intro v' w' h2 h3 _ h5
      exact hK v' w' (h.join h1 h2) h3 h5

theorem sumC_bd {c : Nat} {l : List Ot} (h : ∀ o, o ∈ l → 0 ≤ o.it.size ∧ o.it.size ≤ 2048) : 0 ≤ sumC c l ∧ sumC c l ≤ 2048 * (l.length : Int) := by
  induction l with
  | nil => simp [sumC]
  | cons o r ih =>
    have h1 := h o (by simp)
    have h2 := ih fun x hx => h x (by simp [hx])
    rw [sumC, List.length_cons]
    split <;> omega
theorem sumC_next {c i k : Nat} {l : List Ot} {o : Ot} (hk : l[k]? = some o) (hik : i ≤ k) : sumC c ((l.take (k + 1)).drop i) = sumC c ((l.take k).drop i) + (if o.cls = c then o.it.size else 0) := by
  have hkl := (List.getElem?_eq_some_iff.1 hk).1
  rw [List.take_add_one, hk]
  show sumC c ((l.take k ++ [o]).drop i) = _
  rw [List.drop_append_of_le_length (by rw [List.length_take]; omega), sumC_app]
  simp [sumC]

set_option maxRecDepth 100000 in
set_option maxHeartbeats 4000000 in
theorem bounded_any (w0 : World) (A : Option Addr) (n c : Nat) (xs : List Cl) (v : Value) (os : List Ot) (cs : List Value) (w : World) (hc : Cls w w.heap.size A n xs) (hn : n ≤ 65536) (hv : OV w0 w v os cs) (hos : os.length ≤ 65536)
    (hx : ∀ x, x ∈ xs → 0 ≤ x.rate ∧ x.rate < 1048576 ∧ 0 ≤ x.burst ∧ x.burst < 1048576) (ho : ∀ o, o ∈ os → o.cls < n ∧ 0 ≤ o.at_ ∧ o.at_ < 4294967296 ∧ 0 ≤ o.it.size ∧ o.it.size ≤ 2048)
    (hb : ∀ (c : Nat) x, xs[c]? = some x → ∀ i k a b, i ≤ k → os[i]? = some a → os[k]? = some b → a.cls = c → b.cls = c → a.at_ ≤ b.at_ ∧ sumC c ((os.take (k + 1)).drop i) ≤ x.burst + x.rate * (b.at_ - a.at_)) :
    Calls Try.prog 20 #[.slice A n c, v] w fun e w' => e = .returned (.bool true) ∧ Below w.heap.size w w' := by
  obtain ⟨Av, cv, rfl⟩ := hv.slice
  have HC := Aside0.mk hc
  have HV := Aside0.mk hv
  have HX := Aside0.mk hx
  have HO := Aside0.mk ho
  have HB := Aside0.mk hb
  clear hc hv hx ho hb
  go_enter Try.func20, Try.ntmps20
  go_wp2_with fail
  go_loopw [5] (fun i wr => ∃ i' : Nat, i' ≤ os.length ∧ i = .int .i64 i' ∧ Below w.heap.size w wr) (fun i _ => os.length - (intOf i).toNat)
  case atStart => exact ⟨0, Nat.zero_le _, rfl, Below.refl _ _⟩
  case round =>
    obtain ⟨i, hi, rfl, hbw⟩ := hrel
    have HBW := Aside0.mk hbw
    clear hbw
    by_cases hil : i < os.length
    · obtain ⟨r, cc, e, hcell⟩ := (HV.out.below HBW.out).at (by omega)
      injection e with e1 e2 e3
      subst e1
      subst e3
      have HCE := Aside0.mk hcell
      obtain ⟨_, _, _, x0, x1, -⟩ := hcell i os[i] (List.getElem?_eq_getElem hil)
      obtain ⟨a, ha⟩ : ∃ a, Aside0 (os[i] = a) := ⟨_, ⟨rfl⟩⟩
      rw [ha.out] at x0 x1
      have hai : os[i]? = some a := by rw [List.getElem?_eq_getElem hil, ha.out]
      have HAI := Aside0.mk hai
      obtain ⟨o1, o2, o3, o4, o5⟩ := HO.out a (List.mem_of_getElem? hai)
      have i0 : (0 : Int) ≤ i := by omega
      have i1 : (i : Int) < os.length := by omega
      have g1 : decide ((a.cls : Int) < 0) = false := decide_eq_false (by omega)
      have g2 : decide ((n : Int) ≤ a.cls) = false := decide_eq_false (by omega)
      clear hcell hai
      go_wp2_with fail
      obtain ⟨wo, rfl⟩ : ∃ z : World, z = wr := ⟨_, rfl⟩
      go_loopw [6, 8] (fun s k wr => ∃ k' : Nat, i ≤ k' ∧ k' ≤ os.length ∧ k = .int .i64 k' ∧ s = .int .u64 (sumC a.cls ((os.take k').drop i)) ∧ Below wo.heap.size wo wr) (fun _ k _ => os.length - (intOf k).toNat)
      case atStart =>
        refine ⟨i, Nat.le_refl _, by omega, rfl, ?_, Below.refl _ _⟩
        rw [List.drop_eq_nil_of_le (by rw [List.length_take]; omega)]; rfl
      case round =>
        obtain ⟨k, hik, hk, rfl, rfl, hbz⟩ := hrel
        have HBZ := Aside0.mk hbz
        clear hbz
        by_cases hkl : k < os.length
        · have x0' := cell_below x0 HBZ.out
          have x1' := cell_below x1 HBZ.out
          obtain ⟨_, _, _, y0, y1, y2, y3, -⟩ := HCE.out k os[k] (List.getElem?_eq_getElem hkl)
          have y0' := cell_below y0 HBZ.out
          have y1' := cell_below y1 HBZ.out
          have y3' := cell_below y3 HBZ.out
          obtain ⟨b, hb⟩ : ∃ b, Aside0 (os[k] = b) := ⟨_, ⟨rfl⟩⟩
          rw [hb.out] at y0' y1' y3'
          have hbk : os[k]? = some b := by rw [List.getElem?_eq_getElem hkl, hb.out]
          have HBK := Aside0.mk hbk
          obtain ⟨p1, p2, p3, p4, p5⟩ := HO.out b (List.mem_of_getElem? hbk)
          have hnext := sumC_next (c := a.cls) hbk hik
          have hbd := sumC_bd (c := a.cls) (l := (os.take k).drop i) fun o ho => by
            obtain ⟨_, _, _, h4, h5⟩ := HO.out o (List.mem_of_mem_take (List.mem_of_mem_drop ho))
            exact ⟨h4, h5⟩
          have hlen : (((os.take k).drop i).length : Int) ≤ 65536 := by rw [List.length_drop, List.length_take]; omega
          have HNX := Aside0.mk hnext
          generalize sumC a.cls ((os.take k).drop i) = S at *
          obtain ⟨hS0, hS1⟩ := hbd
          have hS2 : S ≤ 134217728 := by omega
          have j0 : (0 : Int) ≤ k := by omega
          have j1 : (k : Int) < os.length := by omega
          clear hnext hbk y0 y1 y2 y3 x0 x1 hS1 hlen
          by_cases hcl : b.cls = a.cls
          · have hne : ((b.cls : Int) != a.cls) = false := by rw [hcl]; simp
            have hac : a.cls < xs.length := by have := HC.out.1; omega
            obtain ⟨ad, rfl, hadb, hcl4⟩ := HC.out.2 (by omega)
            have hx4 := (hcl4 a.cls xs[a.cls] (List.getElem?_eq_getElem hac)).same ((HBW.out.trans (HBZ.out.mono HBW.out.size)).block _ (by rw [ad_block]; exact hadb))
            obtain ⟨q1, q2, q3, q4⟩ := HX.out xs[a.cls] (List.getElem_mem hac)
            obtain ⟨r1, r2⟩ := HB.out a.cls xs[a.cls] (List.getElem?_eq_getElem hac) i k a b hik HAI.out HBK.out rfl hcl
            rw [HNX.out, if_pos hcl] at r2
            generalize xs[a.cls] = x at *
            obtain ⟨z0, z1, -, -⟩ := hx4
            have hm0 : 0 ≤ x.rate * (b.at_ - a.at_) := Int.mul_nonneg q1 (by omega)
            have hm1 : x.rate * (b.at_ - a.at_) ≤ 1048576 * 4294967296 := Int.mul_le_mul (by omega) (by omega) (by omega) (by omega)
            have hw1 : IntKind.u64.wrap (b.at_ - a.at_) = b.at_ - a.at_ := by simp only [IntKind.wrap_u64]; omega
            have hw2 : IntKind.u64.wrap (x.rate * (b.at_ - a.at_)) = x.rate * (b.at_ - a.at_) := by simp only [IntKind.wrap_u64]; omega
            generalize hP : x.rate * (b.at_ - a.at_) = P at *
            have hw3 : IntKind.u64.wrap (x.burst + P) = x.burst + P := by simp only [IntKind.wrap_u64]; omega
            have hw4 : IntKind.u64.wrap b.it.size = b.it.size := by simp only [IntKind.wrap_u64]; omega
            have hlt : decide (b.at_ < a.at_) = false := decide_eq_false (by omega)
            have hgt : decide (x.burst + P < S + b.it.size) = false := decide_eq_false (by omega)
            have c0 : (0 : Int) ≤ a.cls := by omega
            have c1 : (a.cls : Int) < n := by omega
            have HSN := Aside0.mk (show S + b.it.size = sumC a.cls ((os.take (k + 1)).drop i) by rw [HNX.out, if_pos hcl])
            go_wp2_with fail
            go_quiet (fail)
            go_wp2_with fail
            go_roundw
            case rel => exact ⟨k + 1, by omega, by omega, by go_num, by rw [HSN.out], pw_below_drewN HBZ.out _⟩
            case measure => simp [intOf]; omega
          · have hne : ((b.cls : Int) != a.cls) = true := by rw [bne_iff_ne]; omega
            go_wp2_with fail
            go_roundw
            case rel => exact ⟨k + 1, by omega, by omega, by go_num, by rw [HNX.out, if_neg hcl, Int.add_zero], HBZ.out⟩
            case measure => simp [intOf]; omega
        · obtain rfl : k = os.length := by omega
          go_wp2_with fail
          go_roundw
          case rel => exact ⟨i + 1, by omega, by go_num, HBW.out.trans (HBZ.out.mono HBW.out.size)⟩
          case measure => simp [intOf]; omega
    · obtain rfl : i = os.length := by omega
      go_wp2_with fail
      go_ret
      exact ⟨rfl, HBW.out⟩
end Go.Proofs.Ytballojildjbhaa.S
