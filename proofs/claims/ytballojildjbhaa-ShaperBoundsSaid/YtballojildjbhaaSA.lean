/- shaper.Shaper: the words for its memory; the counters' Add and Load; conditions: the cells hold the numbers. -/
import Derived.Test.YtballojildjbhaaQV
import Derived.Test.YtballojildjbhaaBB
import Derived.Laws.LoneSync
namespace Go.Proofs.Ytballojildjbhaa.S
open Go Go.RowKit Go.Proofs.YtballojildjbhaaW.PrintWords Go.Proofs.YtballojildjbhaaW.PrintLast Go.Proofs.YtballojildjbhaaW.PrintMore Go.Proofs.Ytballojildjbhaa.F
set_option linter.unusedVariables false
set_option linter.unusedSimpArgs false

theorem run_uadd (a : Addr) (v d : Int) (w : World) (hc : w.cell? a = some (.int .u64 v)) (hf : w.frozen? a = false) :
    (callFunc 53 #[.pointer (some a), .int .u64 d]).run Try.prog w = .ok (.value (.int .u64 (IntKind.u64.wrap (v + d)))) (w.setCell a (.int .u64 (IntKind.u64.wrap (v + d)))) :=
  run_call_add (P := Try.prog) Try.func53 (by kernel_rfl) (by kernel_rfl) (by kernel_rfl) .u64 (by kernel_rfl) hc hf rfl
theorem run_uload (a : Addr) (v : Int) (w : World) (hc : w.cell? a = some (.int .u64 v)) :
    (callFunc 56 #[.pointer (some a)]).run Try.prog w = .ok (.value (.int .u64 v)) w :=
  run_call_load (P := Try.prog) Try.func56 (by kernel_rfl) (by kernel_rfl) (by kernel_rfl) .u64 (by kernel_rfl) hc

set_option maxHeartbeats 400000 in
theorem uadd_any (b i : Nat) (v d : Int) (w : World) (hc : w.cell? ⟨b, i, none⟩ = some (.int .u64 v)) (hf : w.frozen? ⟨b, i, none⟩ = false) :
    Calls Try.prog 29 #[.pointer (some ⟨b, i, none⟩), .int .u64 d] w fun e w' => e = .returned (.int .u64 (IntKind.u64.wrap (v + d))) ∧ w.setCell ⟨b, i, none⟩ (.int .u64 (IntKind.u64.wrap (v + d))) = w' := by
  have h := run_uadd ⟨b, i, none⟩ v d w hc hf
  clear hc hf
  generalize IntKind.u64.wrap (v + d) = s at *
  go_enter Try.func29, Try.ntmps29
  go_wp2
  go_ret
  exact ⟨rfl, rfl⟩
set_option maxHeartbeats 400000 in
theorem uload_any (b i : Nat) (v : Int) (w : World) (hc : w.cell? ⟨b, i, none⟩ = some (.int .u64 v)) :
    Calls Try.prog 31 #[.pointer (some ⟨b, i, none⟩)] w fun e w' => e = .returned (.int .u64 v) ∧ w = w' := by
  have h := run_uload ⟨b, i, none⟩ v w hc
  clear hc
  go_enter Try.func31, Try.ntmps31
  go_wp2
  go_ret
  exact ⟨rfl, rfl⟩

theorem cell_lt0 {W : World} {a : Addr} {v : Value} (h : W.cell? a = some v) : a.block < W.heap.size := by
  obtain ⟨o, ho, _⟩ := cells_of_cell h
  exact blk_lt ho
theorem cell_below {W W' : World} {r i : Nat} {v : Value} (h : W.cell? ⟨r, i, none⟩ = some v) (hb : Below W.heap.size W W') : W'.cell? ⟨r, i, none⟩ = some v :=
  (hb.cell (p := ⟨r, i, none⟩) (cell_lt0 h)).trans h

/-- What a line holds. -/
structure Ls where
  off : Int
  drp : Int
  out : Int
  byt : Int
  rate : Int
  burst : Int
  tick : Int
  tok : Int
  xs : List It
  items : Int
  bound : Int
  drops : Int

/-- A line's block. -/
def Lb (W : World) (p : Nat) (o d u y : Int) (b q : Nat) : Prop :=
  W.heap[p]? = some (.cells #[.int .u64 o, .int .u64 d, .int .u64 u, .int .u64 y, .pointer (some ⟨b, 0, none⟩), .pointer (some ⟨q, 0, none⟩)] 85 (0, 0))

/-- A line in memory: its blocks are of D. -/
def Ln (W : World) (D : Nat → Prop) (p : Nat) (l : Ls) : Prop :=
  D p ∧ ∃ b q, Lb W p l.off l.drp l.out l.byt b q ∧ D b ∧ B.Bk W b l.rate l.burst l.tick l.tok ∧ Fq W (fun k => D k ∧ k ≠ p ∧ k ≠ b) q l.xs l.items l.bound l.drops

/-- The row of the lines' pointers. -/
def Row (W : World) (O : Nat → Nat) (A : Option Addr) (ls : List Ls) : Prop :=
  0 < ls.length → ∃ r cs, A = some ⟨r, 0, none⟩ ∧ O r = 1 ∧ W.heap[r]? = some (.cells cs 73 (0, 0)) ∧
    ∀ i l, ls[i]? = some l → ∃ p, cs[i]? = some (.pointer (some ⟨p, 0, none⟩)) ∧ Ln W (fun k => O k = i + 2) p l

/-- A shaper in memory. O: whose a block is: 0 nobody's, 1 the shaper's, i + 2 line i's. -/
structure Sh (W : World) (O : Nat → Nat) (s : Nat) (tick : Int) (ls : List Ls) : Prop where
  own : O s = 1
  box : ∃ A c, W.heap[s]? = some (.cells #[.int .u64 tick, .slice A ls.length c] 90 (0, 0)) ∧ Row W O A ls
  lt : ∀ k, O k ≠ 0 → k < W.heap.size

/-- What lives on. -/
structure LOk (l : Ls) : Prop where
  b : B.Ok l.rate l.burst l.tick l.tok
  q : Ok l.xs l.items l.bound l.drops
  few : Few l.xs
  sml : ∀ x, x ∈ l.xs → x.size ≤ 2048

theorem Lb.lt {W : World} {p : Nat} {o d u y : Int} {b q : Nat} (h : Lb W p o d u y b q) : p < W.heap.size := blk_lt h

theorem Ln.step {W W' : World} {D D' : Nat → Prop} {p : Nat} {l : Ls} (h : Ln W D p l) (hk : ∀ k, k < W.heap.size → D k → W'.heap[k]? = W.heap[k]? ∧ D' k) : Ln W' D' p l := by
  obtain ⟨hp, b, q, hb, hB, hK, hq⟩ := h
  refine ⟨(hk p hb.lt hp).2, b, q, (hk p hb.lt hp).1.trans hb, (hk b (blk_lt hK) hB).2, (hk b (blk_lt hK) hB).1.trans hK, hq.step fun k hc hD => ?_⟩
  exact ⟨(hk k hc.lt hD.1).1, (hk k hc.lt hD.1).2, hD.2⟩

theorem Sh.step {W W' : World} {O O' : Nat → Nat} {s : Nat} {tick : Int} {ls : List Ls} (h : Sh W O s tick ls) (hk : ∀ k, k < W.heap.size → O k ≠ 0 → W'.heap[k]? = W.heap[k]? ∧ O' k = O k)
    (hl : ∀ k, O' k ≠ 0 → k < W'.heap.size) : Sh W' O' s tick ls := by
  obtain ⟨ho, ⟨A, c, hb, hr⟩, hlt⟩ := h
  refine ⟨((hk s (blk_lt hb) (by omega)).2).trans ho, ⟨A, c, (hk s (blk_lt hb) (by omega)).1.trans hb, fun hn => ?_⟩, hl⟩
  obtain ⟨r, cs, e, hor, hh, hc⟩ := hr hn
  refine ⟨r, cs, e, ((hk r (blk_lt hh) (by omega)).2).trans hor, (hk r (blk_lt hh) (by omega)).1.trans hh, fun i l hi => ?_⟩
  obtain ⟨p, hp, hL⟩ := hc i l hi
  exact ⟨p, hp, hL.step fun k hlt' hD => ⟨(hk k hlt' (by omega)).1, ((hk k hlt' (by omega)).2).trans hD⟩⟩

theorem Sh.below {W W' : World} {O : Nat → Nat} {s : Nat} {tick : Int} {ls : List Ls} (h : Sh W O s tick ls) (hb : Below W.heap.size W W') : Sh W' O s tick ls :=
  h.step (fun k hk _ => ⟨hb.block k hk, rfl⟩) fun k hk => Nat.lt_of_lt_of_le (h.lt k hk) hb.size
theorem Ln.below {W W' : World} {D : Nat → Prop} {p : Nat} {l : Ls} (h : Ln W D p l) (hb : Below W.heap.size W W') : Ln W' D p l :=
  h.step fun k hk hD => ⟨hb.block k hk, hD⟩

/-- What a call on a shaper leaves: its own blocks may have turned; new ones may be its own. -/
structure Goes (W W' : World) (O O' : Nat → Nat) : Prop where
  keep : KeepD W W' fun k => O k ≠ 0
  same : ∀ k, k < W.heap.size → O' k = O k

theorem Goes.of_below {W W' : World} {O : Nat → Nat} (h : Below W.heap.size W W') : Goes W W' O O := ⟨KeepD.of_below h _, fun _ _ => rfl⟩
theorem Goes.trans {W W1 W2 : World} {O O1 O2 : Nat → Nat} (h : Goes W W1 O O1) (k : Goes W1 W2 O1 O2) : Goes W W2 O O2 :=
  ⟨h.keep.trans k.keep fun i hi hn => by rw [h.same i hi] at hn; exact hn, fun i hi => (k.same i (Nat.lt_of_lt_of_le hi h.keep.size)).trans (h.same i hi)⟩
/-- New blocks are not below B. -/
theorem Goes.from {W W' : World} {O O' : Nat → Nat} {B : Nat} (h : Goes W W' O O') (hB : B ≤ W.heap.size) (hO : ∀ k, O k ≠ 0 → B ≤ k) : ∀ k, O' k ≠ 0 → B ≤ k := by
  intro k hk
  rcases Nat.lt_or_ge k W.heap.size with h1 | h1
  · rw [h.same k h1] at hk; exact hO k hk
  · omega
theorem Goes.below {W W' : World} {O O' : Nat → Nat} {B : Nat} (h : Goes W W' O O') (hB : B ≤ W.heap.size) (hO : ∀ k, O k ≠ 0 → B ≤ k) : Below B W W' :=
  h.keep.below hB fun k hk hn => by have := hO k hn; omega

theorem Sh.line_ {W : World} {O : Nat → Nat} {s : Nat} {tick : Int} {ls : List Ls} (h : Sh W O s tick ls) {i : Nat} {l : Ls} (hi : ls[i]? = some l) :
    ∃ r c p, W.heap[s]? = some (.cells #[.int .u64 tick, .slice (some ⟨r, 0, none⟩) ls.length c] 90 (0, 0)) ∧ W.cell? ⟨r, i, none⟩ = some (.pointer (some ⟨p, 0, none⟩)) ∧ Ln W (fun k => O k = i + 2) p l := by
  obtain ⟨ho, ⟨A, c, hb, hr⟩, hlt⟩ := h
  have hil : i < ls.length := (List.getElem?_eq_some_iff.1 hi).1
  obtain ⟨r, cs, rfl, hor, hh, hc⟩ := hr (by omega)
  obtain ⟨p, hp, hL⟩ := hc i l hi
  exact ⟨r, c, p, hb, by rw [blk_cell hh]; exact hp, hL⟩

/-- The pointers' block is not the shaper's. -/
theorem Sh.row_ne {W : World} {O : Nat → Nat} {s : Nat} {tick : Int} {ls : List Ls} (h : Sh W O s tick ls) {r c : Nat} (hn : 0 < ls.length)
    (hs : W.heap[s]? = some (.cells #[.int .u64 tick, .slice (some ⟨r, 0, none⟩) ls.length c] 90 (0, 0))) : r ≠ s ∧ O r = 1 := by
  obtain ⟨ho, ⟨A, c', hb, hr⟩, hlt⟩ := h
  obtain ⟨r', cs, rfl, hor, hh, hc⟩ := hr hn
  have e0 := hb.symm.trans hs
  simp only [Option.some.injEq, Obj.cells.injEq, Array.mk.injEq, List.cons.injEq, Value.slice.injEq, Addr.mk.injEq, and_true, true_and] at e0
  obtain rfl : r' = r := by simpa using e0.1
  exact ⟨blk_ne hh hb (by decide), hor⟩

/-- One line turns. -/
theorem Sh.turn {W W' : World} {O : Nat → Nat} {s : Nat} {tick : Int} {ls : List Ls} (h : Sh W O s tick ls) {i : Nat} {l l' : Ls} {p : Nat} (hi : ls[i]? = some l)
    {r0 c0 : Nat} (hs0 : W.heap[s]? = some (.cells #[.int .u64 tick, .slice (some ⟨r0, 0, none⟩) ls.length c0] 90 (0, 0))) (hp : W.cell? ⟨r0, i, none⟩ = some (.pointer (some ⟨p, 0, none⟩)))
    (hk : KeepD W W' fun k => O k = i + 2) (hL : Ln W' (fun k => O k = i + 2 ∨ W.heap.size ≤ k) p l') :
    ∃ O', Sh W' O' s tick (ls.set i l') ∧ Goes W W' O O' := by
  obtain ⟨ho, ⟨A, c, hb, hr⟩, hlt⟩ := h
  have hil : i < ls.length := (List.getElem?_eq_some_iff.1 hi).1
  obtain ⟨r, cs, rfl, hor, hh, hc⟩ := hr (by omega)
  refine ⟨fun k => if k < W.heap.size then O k else if k < W'.heap.size then i + 2 else 0, ⟨?_, ⟨some ⟨r, 0, none⟩, c, ?_, fun _ => ⟨r, cs, rfl, ?_, ?_, ?_⟩⟩, ?_⟩, ?_, fun k hk => by rw [if_pos hk]⟩
  · rw [if_pos (blk_lt hb)]; exact ho
  · rw [List.length_set]; exact (hk.block s (blk_lt hb) (by omega)).trans hb
  · show (if r < W.heap.size then O r else if r < W'.heap.size then i + 2 else 0) = 1
    rw [if_pos (blk_lt hh)]; exact hor
  · exact (hk.block r (blk_lt hh) (by omega)).trans hh
  · intro j m hj
    by_cases hij : i = j
    · subst hij
      rw [List.getElem?_set_self hil] at hj
      cases hj
      obtain ⟨p0, hp0, _⟩ := hc i l hi
      have e0 := hb.symm.trans hs0
      simp only [Option.some.injEq, Obj.cells.injEq, Array.mk.injEq, List.cons.injEq, Value.slice.injEq, Addr.mk.injEq, and_true, true_and] at e0
      obtain rfl : r = r0 := by simpa using e0.1
      have e := (blk_cell hh i).symm.trans hp
      rw [hp0] at e
      simp only [Option.some.injEq, Value.pointer.injEq, Addr.mk.injEq, and_true] at e
      subst e
      refine ⟨p0, hp0, hL.step fun k hk' hD => ⟨rfl, ?_⟩⟩
      show (if k < W.heap.size then O k else if k < W'.heap.size then i + 2 else 0) = i + 2
      by_cases h1 : k < W.heap.size
      · rw [if_pos h1]
        rcases hD with h2 | h2
        · exact h2
        · omega
      · rw [if_neg h1, if_pos hk']
    · rw [List.getElem?_set_ne hij] at hj
      obtain ⟨p0, hp0, hL0⟩ := hc j m hj
      refine ⟨p0, hp0, hL0.step fun k hk' hD => ⟨hk.block k hk' (by omega), ?_⟩⟩
      show (if k < W.heap.size then O k else if k < W'.heap.size then i + 2 else 0) = j + 2
      rw [if_pos hk']; exact hD
  · intro k hn
    have hs := hk.size
    by_cases h1 : k < W.heap.size
    · omega
    · rw [if_neg h1] at hn
      by_cases h2 : k < W'.heap.size
      · exact h2
      · rw [if_neg h2] at hn; exact absurd rfl hn
  · exact hk.mono fun k hD => by omega
end Go.Proofs.Ytballojildjbhaa.S
