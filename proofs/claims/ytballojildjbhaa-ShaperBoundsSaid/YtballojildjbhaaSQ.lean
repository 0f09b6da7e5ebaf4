/- Two shapers of the call's own; rows of outs that are joined; conditions: none. -/
import Derived.Test.YtballojildjbhaaSP
import Derived.Test.YtballojildjbhaaSO
import Derived.Laws.AppendOwnNone
namespace Go.Proofs.Ytballojildjbhaa.S
open Go Go.RowKit Go.Proofs.YtballojildjbhaaW.PrintWords Go.Proofs.YtballojildjbhaaW.PrintLast Go.Proofs.YtballojildjbhaaW.PrintMore Go.Proofs.Ytballojildjbhaa.F
set_option linter.unusedVariables false
set_option linter.unusedSimpArgs false

/-- What a class's numbers are. -/
def ClWf (cs : List Cl) : Prop := ∀ x, x ∈ cs → B.U64 x.rate ∧ B.U64 x.burst ∧ x.size ≤ 9223372036854775807

/-- A shaper stays where a call turns another one's blocks. -/
theorem Sq.other {w0 W W' : World} {O O1 O1' : Nat → Nat} {s : Nat} {tick : Int} {ls : List Ls} {m : Nat} (h : Sq w0 W O s tick ls m) (hg : Goes W W' O1 O1') (hd : ∀ k, O1 k ≠ 0 → O k = 0) (h1 : ∀ k, O1 k ≠ 0 → w0.heap.size ≤ k) :
    Sq w0 W' O s tick ls m ∧ ∀ k, O1' k ≠ 0 → O k = 0 := by
  have hlt := h.sh.lt
  refine ⟨⟨h.sh.step (fun k hk hO => ⟨hg.keep.block k hk (fun e => hO (hd k e)), rfl⟩) fun k hk => Nat.lt_of_lt_of_le (hlt k hk) hg.keep.size, h.new, h.bel.trans (hg.below h.bel.size h1), h.inv, h.tu⟩, fun k hk => ?_⟩
  by_cases hkl : k < W.heap.size
  · rw [hg.same k hkl] at hk; exact hd k hk
  · exact Classical.byContradiction fun hn => hkl (hlt k hn)

/-- A row of outs, whose bytes may be shared. -/
structure OW (w0 W : World) (v : Value) (os : List Ot) (cs : List Value) : Prop where
  row : W.ownsRow w0.heap.size 55 5 v os.length cs
  el : ∀ i o, os[i]? = some o → OtC W w0.heap.size cs i o
theorem OW.nil (w0 W : World) : OW w0 W (.slice none 0 0) [] [] := ⟨World.ownsRow_nil _ _ _ _, fun i o h => by simp at h⟩
theorem OR.weak {w0 w1 W : World} {v : Value} {os : List Ot} {cs : List Value} (h : OR w1 W v os cs) (hB : w0.heap.size ≤ w1.heap.size) : OW w0 W v os cs := by
  refine ⟨?_, fun i o hi => ?_⟩
  · obtain ⟨hl, h1 | ⟨g, cap, cur, e, h2, h3⟩⟩ := h.row
    · exact ⟨hl, .inl h1⟩
    · exact ⟨hl, .inr ⟨g, cap, cur, e, Nat.le_trans hB h2, h3⟩⟩
  · obtain ⟨A, m, c, h0, h1, h2, h3, h4, hd⟩ := h.el i o hi
    exact ⟨A, m, c, h0, h1, h2, h3, h4, hd.step fun k _ hD => ⟨rfl, Nat.le_trans hB hD.1, hD.2⟩⟩
theorem OW.step {w0 W W' : World} {v : Value} {os : List Ot} {cs : List Value} (h : OW w0 W v os cs) (hk : ∀ k, k < W.heap.size → w0.heap.size ≤ k → (v.ownBlock = some k ∨ U8 W k) → W'.heap[k]? = W.heap[k]?) : OW w0 W' v os cs := by
  refine ⟨?_, fun i o hi => (h.el i o hi).step fun k hu hB => hk k hu.lt hB (.inr hu)⟩
  obtain ⟨hl, h1 | ⟨g, cap, cur, e, h2, h3, h4⟩⟩ := h.row
  · exact ⟨hl, .inl h1⟩
  · exact ⟨hl, .inr ⟨g, cap, cur, e, h2, (hk g (blk_lt h3) h2 (.inl (by rw [e]; rfl))).trans h3, h4⟩⟩
theorem OW.below {w0 W W' : World} {v : Value} {os : List Ot} {cs : List Value} (h : OW w0 W v os cs) (hb : Below W.heap.size W W') : OW w0 W' v os cs :=
  h.step fun k hk _ _ => hb.block k hk
theorem OW.one {w0 W : World} {v : Value} {os : List Ot} {cs : List Value} (h : OW w0 W v os cs) : ∀ u ∈ cs, u.oneCell' = true := by
  intro u hu
  obtain ⟨j, hj⟩ := List.mem_iff_getElem?.1 hu
  have hjl := (List.getElem?_eq_some_iff.1 hj).1
  have hl := h.row.1
  have hi : j / 5 < os.length := by omega
  obtain ⟨A, m, c, h0, h1, h2, h3, h4, hd⟩ := h.el (j / 5) os[j / 5] (List.getElem?_eq_getElem hi)
  have hm : j = j / 5 * 5 + j % 5 := by omega
  have hr : j % 5 < 5 := by omega
  rw [hm] at hj
  generalize j % 5 = r at *
  rcases r with _ | _ | _ | _ | _ | r
  · rw [Nat.add_zero, h0] at hj; cases hj; rfl
  · rw [h1] at hj; cases hj; rfl
  · rw [h2] at hj; cases hj; rfl
  · rw [h3] at hj; cases hj; rfl
  · rw [h4] at hj; cases hj; rfl
  · omega
/-- The cells of an out that is there. -/
theorem OW.at {w0 W : World} {v : Value} {os : List Ot} {cs : List Value} (h : OW w0 W v os cs) (hn : 0 < os.length) :
    ∃ r c, v = .slice (some ⟨r, 0, none⟩) os.length c ∧ ∀ (i : Nat) (o : Ot), os[i]? = some o → ∃ A m k, W.cell? ⟨r, i * 5, none⟩ = some (.int .u64 o.at_) ∧ W.cell? ⟨r, i * 5 + 1, none⟩ = some (.int .i64 o.cls) ∧ W.cell? ⟨r, i * 5 + 2, none⟩ = some (.int .u64 o.it.no) ∧
      W.cell? ⟨r, i * 5 + 2 + 1, none⟩ = some (.int .i64 o.it.size) ∧ W.cell? ⟨r, i * 5 + 2 + 2, none⟩ = some (.slice A m k) ∧ Dat W (fun k => w0.heap.size ≤ k ∧ U8 W k) A m o.it.data := by
  obtain ⟨hl, ⟨_, h0⟩ | ⟨g, cap, cu, rfl, hb, hh, hle, _, hsz, ht⟩⟩ := h.row
  · omega
  · have cell : ∀ j u, cs[j]? = some u → W.cell? ⟨g, j, none⟩ = some u := by
      intro j u hu
      rw [blk_cell hh j, ← Array.getElem?_toList]
      rw [← ht, List.getElem?_take] at hu
      split at hu
      · exact hu
      · cases hu
    refine ⟨g, cap, rfl, fun i o ho => ?_⟩
    obtain ⟨A, m, k, h0, h1, h2, h3, h4, hd⟩ := h.el i o ho
    exact ⟨A, m, k, cell _ _ h0, cell _ _ h1, cell _ _ h2, cell _ _ h3, cell _ _ h4, hd⟩
/-- A row is nil or has a block. -/
theorem OW.slice {w0 W : World} {v : Value} {os : List Ot} {cs : List Value} (h : OW w0 W v os cs) : ∃ A c, v = .slice A os.length c := by
  rcases h.row.2 with ⟨e, h0⟩ | ⟨g, cap, cu, e, _⟩
  · exact ⟨none, 0, by rw [e, h0]⟩
  · exact ⟨_, _, e⟩

theorem out_far {w0 W : World} {v : Value} {os : List Ot} {cs : List Value} (h : OW w0 W v os cs) {k : Nat} (hu : U8 W k) : some k ≠ v.ownBlock := by
  obtain ⟨cs', hc⟩ := hu
  exact own_ne_ h.row hc (by decide)

/-- Two rows joined. -/
theorem OW.join {w0 W W' : World} {v v1 v' : Value} {os os1 : List Ot} {cs cs1 : List Value} (h : OW w0 W v os cs) (h1 : OW w0 W v1 os1 cs1) (hr : W'.ownsRow w0.heap.size 55 5 v' (os.length + os1.length) (cs ++ cs1)) (hg : W.grownBy W' v.ownBlock) :
    OW w0 W' v' (os ++ os1) (cs ++ cs1) := by
  have hl : cs.length = os.length * 5 := h.row.1
  have far : ∀ k, U8 W k → w0.heap.size ≤ k → W'.heap[k]? = W.heap[k]? := fun k hk _ => hg.block k hk.lt (out_far h hk)
  refine ⟨by rw [List.length_append]; exact hr, fun i o hi => ?_⟩
  by_cases hin : i < os.length
  · rw [List.getElem?_append_left hin] at hi
    obtain ⟨A, m, c, h0, h1, h2, h3, h4, hd⟩ := (h.el i o hi).step far
    refine ⟨A, m, c, ?_, ?_, ?_, ?_, ?_, hd⟩
    all_goals rw [List.getElem?_append_left (by omega)]; assumption
  · rw [List.getElem?_append_right (by omega)] at hi
    obtain ⟨A, m, c, h0, h1, h2, h3, h4, hd⟩ := (h1.el _ o hi).step far
    refine ⟨A, m, c, ?_, ?_, ?_, ?_, ?_, hd⟩
    · rw [List.getElem?_append_right (by omega), hl, show i * 5 - os.length * 5 = (i - os.length) * 5 by omega]; exact h0
    · rw [List.getElem?_append_right (by omega), hl, show i * 5 + 1 - os.length * 5 = (i - os.length) * 5 + 1 by omega]; exact h1
    · rw [List.getElem?_append_right (by omega), hl, show i * 5 + 2 - os.length * 5 = (i - os.length) * 5 + 2 by omega]; exact h2
    · rw [List.getElem?_append_right (by omega), hl, show i * 5 + 3 - os.length * 5 = (i - os.length) * 5 + 3 by omega]; exact h3
    · rw [List.getElem?_append_right (by omega), hl, show i * 5 + 4 - os.length * 5 = (i - os.length) * 5 + 4 by omega]; exact h4

/-- append of a row of outs, at a plain region's list. -/
theorem wpList_append_outs {w : World} {ops : Array Oper} {rest : List Oper} {o : Oper} {a : Act} {Q : Exit → Act → World → Prop} (hgd : o.guard = none) (s x : Operand)
    (ho : o.op = .call { callee := .builtin .append, args := #[s, x], argTypes := #[36, 36] }) (w0 : World) (v v1 : Value) (os os1 : List Ot) (cs cs1 : List Value) (hs : a.eval s = v) (hx : a.eval x = v1)
    (h : OW w0 w v os cs) (h1 : OW w0 w v1 os1 cs1) (hn : os.length + os1.length ≤ 65536) (hbase : w0.heap.size ≤ w.heap.size)
    (hK : ∀ v' w', OW w0 w' v' (os ++ os1) (cs ++ cs1) → w.grownBy w' v.ownBlock → (v'.ownBlock = v.ownBlock ∨ v'.ownBlock = some w.heap.size) → wpList Try.prog ops Q rest (a.put o.dst v') w') : wpList Try.prog ops Q (o :: rest) a w := by
  obtain ⟨i0, hi, hz0, hz1, hz2⟩ := info_parts info_out
  obtain ⟨hl1, ⟨e, h0⟩ | ⟨g, cap, cu, e, hb, hh, hle, hcm, hsz, ht⟩⟩ := h1.row
  · have hos : os1 = [] := List.eq_nil_of_length_eq_zero h0
    subst hos
    have hcs : cs1 = [] := List.eq_nil_of_length_eq_zero (by simpa using hl1)
    subst hcs
    refine wpList_append_own_none hgd s x 36 ho w0.heap.size 55 i0 5 Try.underlying36 hi v os.length cs hs h.row (hx.trans e) ?_
    refine hK v w ?_ (World.grownBy.refl w _) (.inl rfl)
    rw [List.append_nil, List.append_nil]; exact h
  · subst e
    refine wpList_append_own_at _ hgd s x 36 ho w0.heap.size 55 i0 _ 5 56 Try.underlying36 hi hz0 hz1 hz2 rfl (by decide) v os.length cs hs h.row ⟨g, 0, none⟩ os1.length cap cs1 hx hl1 ?_ h1.one (by unfold maxLen; omega) (by omega) hbase ?_
    · intro j u hu
      rw [add_at, Nat.zero_add, blk_cell hh j, ← Array.getElem?_toList]
      rw [← ht, List.getElem?_take] at hu
      split at hu
      · exact hu
      · cases hu
    · intro v' w' h2 h3 _ h5
      exact hK v' w' (h.join h1 h2 h3) h3 h5
end Go.Proofs.Ytballojildjbhaa.S
