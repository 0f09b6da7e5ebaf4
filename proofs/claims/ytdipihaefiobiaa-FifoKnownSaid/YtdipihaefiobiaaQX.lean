/- FifoPlays: the state of its loop; append of bytes to nil; conditions: none. -/
import Derived.Test.YtdipihaefiobiaaQW
import Derived.Test.YtdipihaefiobiaaQO
import Derived.Deep.RegionLaw
namespace Go.Proofs.Ytdipihaefiobiaa.F
open Go Go.RowKit Go.Proofs.YtdipihaefiobiaaW.PrintWords Go.Proofs.YtdipihaefiobiaaW.PrintLast Go.Proofs.YtdipihaefiobiaaW.PrintMore
set_option linter.unusedVariables false
set_option linter.unusedSimpArgs false

theorem run_append_bytes (w : World) (ty : TypeId) (D : Nat → Prop) (A : Option Addr) (n c : Nat) (l : List UInt8) (h : Dat w D A n l) (hl : l.length ≤ 65536) :
    ∃ A' c' w', (Builtin.append_ #[35, 35] ty #[.slice none 0 0, .slice A n c]).run Try.prog w = .ok (.slice A' n c') w' ∧ Dat w' (fun k => w.heap.size ≤ k ∧ U8 w' k) A' n l ∧ Below w.heap.size w w' := by
  obtain ⟨i0, hi, hz0, hz1, hz2⟩ := info_parts info_u8
  have hn := h.1
  have ht := Try.underlying35
  cases A with
  | none =>
    have hn0 : n = 0 := by
      rcases Nat.eq_zero_or_pos n with h0 | h0
      · exact h0
      · obtain ⟨ad, e, _⟩ := h.2 h0; cases e
    subst hn0
    refine ⟨none, 0, w, ?_, ⟨hn, fun h0 => absurd h0 (by omega)⟩, Below.refl _ _⟩
    simp [Builtin.append_, run_underlying ht, sizeOf, typeInfo, hi, Builtin.lenOf, Builtin.firstCells, storeCells]
  | some ad =>
    have hc : ∀ j u, (l.map byteV)[j]? = some u → w.cell? (ad.add j) = some u := by
      intro j u hu
      rw [List.getElem?_map] at hu
      cases hx : l[j]? with
      | none => rw [hx] at hu; cases hu
      | some x =>
        rw [hx] at hu
        cases hu
        have hj : j < l.length := (List.getElem?_eq_some_iff.1 hx).1
        obtain ⟨ad', e, _, hc⟩ := h.2 (by omega)
        cases e
        exact hc j x hx
    obtain ⟨v', w', hrun, h2, h3, _, _⟩ := run_append_own_at (P := Try.prog) w w.heap.size 35 ty 5 i0 _ 1 1 ht hi hz0 hz1 hz2 rfl (by decide) (.slice none 0 0) 0 [] (World.ownsRow_nil _ _ _ _) ad n c (l.map byteV) (by simp; omega) hc (by intro u hu; obtain ⟨x, _, rfl⟩ := List.mem_map.1 hu; rfl) (by unfold maxLen; omega) (by omega) (Nat.le_refl _)
    obtain ⟨A', c', rfl, hd⟩ := dat_of_own h2 hn
    exact ⟨A', c', w', hrun, hd, (Below.refl _ _).grown h3 (Nat.le_refl _) (by intro k hk; simp [Value.ownBlock] at hk)⟩

theorem step_append_bytes {ops : Array Oper} {o : Oper} {a : Act} {w : World} {K : Act → World → Prop} {Q : Exit → Act → World → Prop} {E : Prop}
    (hg : o.guard = none) (s x : Operand) (hop : o.op = Op.call { callee := Callee.builtin Builtin.append, args := #[s, x], argTypes := #[35, 35] })
    (hs : a.eval s = .slice none 0 0) (D : Nat → Prop) (A : Option Addr) (n c : Nat) (l : List UInt8) (hx : a.eval x = .slice A n c) (h : Dat w D A n l) (hl : l.length ≤ 65536)
    (hK : ∀ A' c' w', Dat w' (fun k => w.heap.size ≤ k ∧ U8 w' k) A' n l → Below w.heap.size w w' → K (a.put o.dst (.slice A' n c')) w') :
    if Region.wanted o (yielded ops a.tmps) = true then Oper.wp Try.prog o a w K Q else E := by
  have hw : Region.wanted o (yielded ops a.tmps) = true := by simp [Region.wanted, hg]
  rw [if_pos hw]
  obtain ⟨A', c', w', hrun, h1, h2⟩ := run_append_bytes w o.type D A n c l h hl
  unfold Oper.wp
  simp [execOp, hop, resolve, invoke, builtin, hs, hx, hrun, Result.andThen]
  exact hK _ _ _ h1 h2

/-- The queue; B: where the call began. -/
structure SQ (w0 W : World) (g : Nat) (D : Nat → Prop) (xs : List It) (items bound drops : Int) : Prop where
  q : Fq W D g xs items bound drops
  ok : Ok xs items bound drops
  few : Few xs
  dB : ∀ k, D k → w0.heap.size ≤ k ∧ k < W.heap.size
  bel : Below w0.heap.size w0 W
theorem SQ.below {w0 W W' : World} {g : Nat} {D : Nat → Prop} {xs : List It} {items bound drops : Int} (h : SQ w0 W g D xs items bound drops) (hb : Below W.heap.size W W') : SQ w0 W' g D xs items bound drops :=
  ⟨h.q.below hb, h.ok, h.few, fun k hD => ⟨(h.dB k hD).1, Nat.lt_of_lt_of_le (h.dB k hD).2 hb.size⟩, below_step h.bel hb⟩
/-- What D becomes, when the queue takes new memory. -/
def more (D : Nat → Prop) (W W' : World) (k : Nat) : Prop := (D k ∨ W.heap.size ≤ k) ∧ k < W'.heap.size
theorem SQ.keep {w0 W W' : World} {g : Nat} {D : Nat → Prop} {xs ys : List It} {items bound drops drops' : Int} (h : SQ w0 W g D xs items bound drops)
    (hq : Fq W' (fun k => D k ∨ W.heap.size ≤ k) g ys items bound drops') (hk : KeepD W W' D) (ho : Ok ys items bound drops') (hf : Few ys) : SQ w0 W' g (more D W W') ys items bound drops' :=
  ⟨hq.step fun k hc hD => ⟨rfl, hD, hc.lt⟩, ho, hf, fun k hD => ⟨by
    rcases hD.1 with h1 | h1
    · exact (h.dB k h1).1
    · exact Nat.le_trans h.bel.size h1, hD.2⟩, h.bel.trans (hk.below h.bel.size fun k hk' hD => by have := (h.dB k hD).1; omega)⟩
theorem SQ.touch {w0 W W' : World} {g : Nat} {D : Nat → Prop} {xs : List It} {items bound drops : Int} (h : SQ w0 W g D xs items bound drops) (hk : ∀ k, D k → W'.heap[k]? = W.heap[k]?) (hs : W.heap.size ≤ W'.heap.size)
    (hb : Below w0.heap.size w0 W') : SQ w0 W' g D xs items bound drops :=
  ⟨h.q.step fun k _ hD => ⟨hk k hD, hD⟩, h.ok, h.few, fun k hD => ⟨(h.dB k hD).1, Nat.lt_of_lt_of_le (h.dB k hD).2 hs⟩, hb⟩

/-- The reference's queue in its box, apart from the queue. -/
structure SR (w0 W : World) (D E : Nat → Prop) (rb : Nat) (A : Option Addr) (n c : Nat) (xs : List It) (items bound drops : Int) : Prop where
  r : RRow W E A n xs
  le : n ≤ c
  box : W.heap[rb]? = some (.cells #[.slice A n c, .int .i64 items, .int .i64 bound, .int .u64 drops] 32 (0, 0))
  eD : ∀ k, E k → ¬ D k ∧ k < W.heap.size
  rD : ¬ D rb
  rE : ¬ E rb
  rB : w0.heap.size ≤ rb
theorem SR.below {w0 W W' : World} {D E : Nat → Prop} {rb : Nat} {A : Option Addr} {n c : Nat} {xs : List It} {items bound drops : Int} (h : SR w0 W D E rb A n c xs items bound drops) (hb : Below W.heap.size W W') : SR w0 W' D E rb A n c xs items bound drops :=
  ⟨h.r.below hb, h.le, blk_below h.box hb, fun k hE => ⟨(h.eD k hE).1, Nat.lt_of_lt_of_le (h.eD k hE).2 hb.size⟩, h.rD, h.rE, h.rB⟩
theorem SR.keep {w0 W W' : World} {D E : Nat → Prop} {rb : Nat} {A : Option Addr} {n c : Nat} {xs : List It} {items bound drops : Int} (h : SR w0 W D E rb A n c xs items bound drops) (hk : KeepD W W' D) : SR w0 W' (more D W W') E rb A n c xs items bound drops :=
  ⟨h.r.step fun k hl hE => ⟨hk.block k hl (h.eD k hE).1, hE⟩, h.le, (hk.block rb (blk_lt h.box) h.rD).trans h.box, fun k hE => ⟨fun hm => by
    rcases hm.1 with h1 | h1
    · exact (h.eD k hE).1 h1
    · have := (h.eD k hE).2; omega, Nat.lt_of_lt_of_le (h.eD k hE).2 hk.size⟩, fun hm => by
    rcases hm.1 with h1 | h1
    · exact h.rD h1
    · have := blk_lt h.box; omega, h.rE, h.rB⟩
/-- The four words in the box are written anew. -/
def put4 (W : World) (rb : Nat) (a b c d : Value) : World := (((W.setCell ⟨rb, 0, none⟩ a).setCell ⟨rb, 1, none⟩ b).setCell ⟨rb, 2, none⟩ c).setCell ⟨rb, 3, none⟩ d
theorem put4_far {W : World} {rb k : Nat} {a b c d : Value} (h : k ≠ rb) : (put4 W rb a b c d).heap[k]? = W.heap[k]? := (heap_far h).trans ((heap_far h).trans ((heap_far h).trans (heap_far h)))
theorem put4_size {W : World} {rb : Nat} {a b c d : Value} : (put4 W rb a b c d).heap.size = W.heap.size := by simp [put4, World.setCell]
theorem put4_below {w0 W : World} {rb : Nat} {a b c d : Value} (h : Below w0.heap.size w0 W) (hr : w0.heap.size ≤ rb) : Below w0.heap.size w0 (put4 W rb a b c d) :=
  ⟨h.os, h.tape, h.output, by rw [put4_size]; exact h.size, fun k hk => (put4_far (by omega)).trans (h.block k hk)⟩
theorem SR.put4 {w0 W : World} {D E E' : Nat → Prop} {rb : Nat} {A A' : Option Addr} {n c n' c' : Nat} {xs ys : List It} {items bound drops drops' : Int} (h : SR w0 W D E rb A n c xs items bound drops)
    (hr : RRow W E' A' n' ys) (hl : n' ≤ c') (hE : ∀ k, E' k → ¬ D k ∧ k < W.heap.size) (hrb : ¬ E' rb) :
    SR w0 (put4 W rb (.slice A' n' c') (.int .i64 items) (.int .i64 bound) (.int .u64 drops')) D E' rb A' n' c' ys items bound drops' :=
  ⟨hr.step fun k _ he => ⟨put4_far (by rintro rfl; exact hrb he), he⟩, hl, set4 h.box, fun k he => ⟨(hE k he).1, by rw [put4_size]; exact (hE k he).2⟩, h.rD, hrb, h.rB⟩
theorem SR.nil_ {w0 W : World} {D E : Nat → Prop} {rb : Nat} {A : Option Addr} {n c : Nat} {xs : List It} {items bound drops : Int} (h : SR w0 W D E rb A n c xs items bound drops) :
    SR w0 (W.setCell ⟨rb, 0, none⟩ (.slice none 0 0)) D (fun _ => False) rb none 0 0 [] items bound drops :=
  ⟨⟨rfl, fun h0 => absurd h0 (by omega)⟩, Nat.le_refl _, blk_put h.box 0 _ rfl, fun k he => he.elim, h.rD, id, h.rB⟩

/-- The item, in its box; its bytes are its own. -/
structure SX (W : World) (P : Nat → Prop) (bx : Nat) (x : It) (A : Option Addr) (n c : Nat) : Prop where
  box : W.heap[bx]? = some (.cells #[.int .u64 x.no, .int .i64 x.size, .slice A n c] 37 (0, 0))
  dat : Dat W (fun k => P k ∧ U8 W k) A n x.data
theorem SX.below {W W' : World} {P : Nat → Prop} {bx : Nat} {x : It} {A : Option Addr} {n c : Nat} (h : SX W P bx x A n c) (hb : Below W.heap.size W W') : SX W' P bx x A n c :=
  ⟨blk_below h.box hb, h.dat.step fun k hk hP => ⟨hb.block k hk, hP.1, hP.2.same (hb.block k hk)⟩⟩
theorem SX.keep {W W' : World} {P D : Nat → Prop} {bx : Nat} {x : It} {A : Option Addr} {n c : Nat} (h : SX W P bx x A n c) (hk : KeepD W W' D) (hb : ¬ D bx) (hP : ∀ k, P k → ¬ D k) : SX W' P bx x A n c :=
  ⟨(hk.block bx (blk_lt h.box) hb).trans h.box, h.dat.step fun k hl hp => ⟨hk.block k hl (hP k hp.1), hp.1, hp.2.same (hk.block k hl (hP k hp.1))⟩⟩

theorem Inc.below {A : Option Addr} {n : Nat} {B : Nat} {w W W' : World} (h : Inc A n W W') (hb : Below B w W) (hA : ∀ ad : Addr, A = some ad → 0 < n → B ≤ ad.block) : Below B w W' :=
  ⟨h.os.trans hb.os, h.tape.trans hb.tape, h.output.trans hb.output, by rw [h.size]; exact hb.size, fun k hk => (h.block k fun ad e hn => by have := hA ad e hn; omega).trans (hb.block k hk)⟩
theorem SQ.inc {A : Option Addr} {n : Nat} {w0 W W' : World} {g : Nat} {D : Nat → Prop} {xs : List It} {items bound drops : Int} (h : SQ w0 W g D xs items bound drops) (hi : Inc A n W W') (hA : ∀ ad : Addr, A = some ad → 0 < n → w0.heap.size ≤ ad.block ∧ ¬ D ad.block) : SQ w0 W' g D xs items bound drops :=
  h.touch (fun k hD => hi.block k fun ad e hn hk => (hA ad e hn).2 (hk ▸ hD)) (Nat.le_of_eq hi.size.symm) (hi.below h.bel fun ad e hn => (hA ad e hn).1)
theorem SR.inc {A1 : Option Addr} {n1 : Nat} {w0 W W' : World} {D E : Nat → Prop} {rb : Nat} {A : Option Addr} {n c : Nat} {xs : List It} {items bound drops : Int} (h : SR w0 W D E rb A n c xs items bound drops) (hi : Inc A1 n1 W W')
    (hA : ∀ ad : Addr, A1 = some ad → 0 < n1 → ad.block ≠ rb ∧ ¬ E ad.block) : SR w0 W' D E rb A n c xs items bound drops :=
  ⟨h.r.step fun k _ hE => ⟨hi.block k fun ad e hn hk => (hA ad e hn).2 (hk ▸ hE), hE⟩, h.le, (hi.block rb fun ad e hn hk => (hA ad e hn).1 hk.symm).trans h.box, fun k hE => ⟨(h.eD k hE).1, by rw [hi.size]; exact (h.eD k hE).2⟩, h.rD, h.rE, h.rB⟩
end Go.Proofs.Ytdipihaefiobiaa.F
