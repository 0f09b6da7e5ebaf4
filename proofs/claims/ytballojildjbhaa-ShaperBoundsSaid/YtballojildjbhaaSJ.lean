/- shaper.New: what it is told, its states between two rounds; conditions: none. -/
import Derived.Test.YtballojildjbhaaSI
import Derived.Deep.RegionLaw
import Derived.Deep.RegionHeld3
namespace Go.Proofs.Ytballojildjbhaa.S
open Go Go.RowKit Go.Proofs.YtballojildjbhaaW.PrintWords Go.Proofs.YtballojildjbhaaW.PrintLast Go.Proofs.YtballojildjbhaaW.PrintMore Go.Proofs.Ytballojildjbhaa.F
set_option linter.unusedVariables false
set_option linter.unusedSimpArgs false

/-- What a class may. -/
structure Cl where
  rate : Int
  burst : Int
  items : Int
  size : Int
/-- A class in memory, from address ad on. -/
structure ClAt (W : World) (ad : Addr) (x : Cl) : Prop where
  c0 : W.cell? ad = some (.int .u64 x.rate)
  c1 : W.cell? ⟨ad.block, ad.off + 1, none⟩ = some (.int .u64 x.burst)
  c2 : W.cell? ⟨ad.block, ad.off + 2, none⟩ = some (.int .i64 x.items)
  c3 : W.cell? ⟨ad.block, ad.off + 3, none⟩ = some (.int .i64 x.size)
/-- Classes in memory, in a block below B. -/
def Cls (W : World) (B : Nat) (A : Option Addr) (n : Nat) (cs : List Cl) : Prop :=
  n = cs.length ∧ (0 < n → ∃ ad : Addr, A = some ad ∧ ad.block < B ∧ ∀ i x, cs[i]? = some x → ClAt W (ad.add (i * 4)) x)
theorem ClAt.same {W W' : World} {ad : Addr} {x : Cl} (h : ClAt W ad x) (hk : W'.heap[ad.block]? = W.heap[ad.block]?) : ClAt W' ad x :=
  ⟨(World.cell?_of_block hk).trans h.c0, (World.cell?_of_block (a := ⟨ad.block, _, none⟩) hk).trans h.c1, (World.cell?_of_block (a := ⟨ad.block, _, none⟩) hk).trans h.c2, (World.cell?_of_block (a := ⟨ad.block, _, none⟩) hk).trans h.c3⟩
theorem Cls.below {W W' : World} {B : Nat} {A : Option Addr} {n : Nat} {cs : List Cl} (h : Cls W B A n cs) (hb : Below B W W') : Cls W' B A n cs := by
  refine ⟨h.1, fun hn => ?_⟩
  obtain ⟨ad, e, hlt, hc⟩ := h.2 hn
  exact ⟨ad, e, hlt, fun i x hx => (hc i x hx).same (hb.block _ (by rw [ad_block]; exact hlt))⟩

def clOk (x : Cl) : Bool := !newB x.items x.size && decide (2048 ≤ x.burst)
def newL (tick : Int) (x : Cl) : Ls := ⟨0, 0, 0, 0, x.rate, x.burst, tick, x.burst, [], x.items, x.size, 0⟩
/-- Whether New makes a shaper. -/
def newOk (cs : List Cl) : Bool := decide (1 ≤ cs.length) && (decide (cs.length ≤ 8) && cs.all clOk)

/-- A shaper in the making. -/
structure NB (w0 W : World) (s : Nat) (O : Nat → Nat) (tick : Int) (ls : List Ls) (ps : List Nat) (A : Option Addr) (c : Nat) : Prop where
  hs : w0.heap.size ≤ s
  box : W.heap[s]? = some (.cells #[.int .u64 tick, .slice A ls.length c] 90 (0, 0))
  row : W.ownsRow w0.heap.size 73 1 (.slice A ls.length c) ls.length (ps.map fun p => Value.pointer (some ⟨p, 0, none⟩))
  el : ∀ i l, ls[i]? = some l → ∃ p, ps[i]? = some p ∧ Ln W (fun k => O k = i + 2) p l
  lt : ∀ k, O k ≠ 0 → k < W.heap.size ∧ w0.heap.size ≤ k
  os : O s = 0
  own : ∀ k, (Value.slice A ls.length c).ownBlock = some k → O k = 0
  bel : Below w0.heap.size w0 W

theorem NB.below {w0 W W' : World} {s : Nat} {O : Nat → Nat} {tick : Int} {ls : List Ls} {ps : List Nat} {A : Option Addr} {c : Nat} (h : NB w0 W s O tick ls ps A c) (hb : Below W.heap.size W W') : NB w0 W' s O tick ls ps A c := by
  refine ⟨h.hs, blk_below h.box hb, ?_, fun i l hi => ?_, fun k hk => ⟨Nat.lt_of_lt_of_le (h.lt k hk).1 hb.size, (h.lt k hk).2⟩, h.os, h.own, below_step h.bel hb⟩
  · obtain ⟨hl, h1 | ⟨g, cap, cur, e, h2, h3, h4⟩⟩ := h.row
    · exact ⟨hl, .inl h1⟩
    · exact ⟨hl, .inr ⟨g, cap, cur, e, h2, (hb.block g (blk_lt h3)).trans h3, h4⟩⟩
  · obtain ⟨p, hp, hL⟩ := h.el i l hi
    exact ⟨p, hp, hL.below hb⟩

/-- One line more: its queue at q, its bucket at b, itself behind it. -/
theorem NB.snoc {w0 W2 W3 W5 : World} {s : Nat} {O : Nat → Nat} {tick : Int} {ls : List Ls} {ps : List Nat} {A : Option Addr} {c q g cap : Nat} {x : Cl} {o : Obj} (h : NB w0 W2 s O tick ls ps A c)
    (hf : Fq W2 (fun k => k = q) q [] x.items x.size 0) (hq : w0.heap.size ≤ q) (hqO : O q = 0) (hqs : q ≠ s) (hk : B.Bk W3 W2.heap.size x.rate x.burst tick x.burst) (hb : Below W2.heap.size W2 W3) (hl : ls.length ≤ 8)
    (hown : W5.ownsRow w0.heap.size 73 1 (.slice (some ⟨g, 0, none⟩) (ls.length + 1) cap) (ls.length + 1) ((ps.map fun p => Value.pointer (some ⟨p, 0, none⟩)) ++ [Value.pointer (some ⟨W3.heap.size, 0, none⟩)]))
    (hgrow : ((W3.alloc (.cells #[.int .u64 0, .int .u64 0, .int .u64 0, .int .u64 0, .pointer (some ⟨W2.heap.size, 0, none⟩), .pointer (some ⟨q, 0, none⟩)] 85)).alloc o).grownBy W5 (Value.slice A ls.length c).ownBlock)
    (hat : (Value.slice A ls.length c).ownBlock = some g ∨ g = ((W3.alloc (.cells #[.int .u64 0, .int .u64 0, .int .u64 0, .int .u64 0, .pointer (some ⟨W2.heap.size, 0, none⟩), .pointer (some ⟨q, 0, none⟩)] 85)).alloc o).heap.size) :
    NB w0 (W5.setCell ⟨s, 1, none⟩ (.slice (some ⟨g, 0, none⟩) (ls.length + 1) cap)) s (fun k => if k = q ∨ k = W2.heap.size ∨ k = W3.heap.size then ls.length + 2 else O k) tick (ls ++ [newL tick x]) (ps ++ [W3.heap.size]) (some ⟨g, 0, none⟩) cap := by
  have hlt0 := h.lt
  have hql : q < W2.heap.size := hf.lt
  have hsl := blk_lt h.box
  have hs23 := hb.size
  have hbl : W2.heap.size < W3.heap.size := blk_lt hk
  have hw0 := h.bel.size
  have hb4 := below_alloc (below_alloc hb (.cells #[.int .u64 0, .int .u64 0, .int .u64 0, .int .u64 0, .pointer (some ⟨W2.heap.size, 0, none⟩), .pointer (some ⟨q, 0, none⟩)] 85)) o
  have h4 := h.below hb4
  have hlb := blk_alloc (blk_new W3 (.cells #[.int .u64 0, .int .u64 0, .int .u64 0, .int .u64 0, .pointer (some ⟨W2.heap.size, 0, none⟩), .pointer (some ⟨q, 0, none⟩)] 85)) o
  have hk4 := blk_alloc (blk_alloc hk (.cells #[.int .u64 0, .int .u64 0, .int .u64 0, .int .u64 0, .pointer (some ⟨W2.heap.size, 0, none⟩), .pointer (some ⟨q, 0, none⟩)] 85)) o
  have hf4 := hf.below hb4
  have hz4 : ((W3.alloc (.cells #[.int .u64 0, .int .u64 0, .int .u64 0, .int .u64 0, .pointer (some ⟨W2.heap.size, 0, none⟩), .pointer (some ⟨q, 0, none⟩)] 85)).alloc o).heap.size = W3.heap.size + 2 := by simp
  generalize (W3.alloc (.cells #[.int .u64 0, .int .u64 0, .int .u64 0, .int .u64 0, .pointer (some ⟨W2.heap.size, 0, none⟩), .pointer (some ⟨q, 0, none⟩)] 85)).alloc o = W4 at *
  have hgz := hgrow.size
  have far : ∀ k, k < W4.heap.size → some k ≠ (Value.slice A ls.length c).ownBlock → k ≠ s → (W5.setCell ⟨s, 1, none⟩ (.slice (some ⟨g, 0, none⟩) (ls.length + 1) cap)).heap[k]? = W4.heap[k]? := fun k h1 h2 h3 => (heap_far h3).trans (hgrow.block k h1 h2)
  have hsO := h.os
  have hgO : g ≠ q ∧ g ≠ W2.heap.size ∧ g ≠ W3.heap.size ∧ O g = 0 := by
    rcases hat with e | rfl
    · have e1 : some g ≠ some q := by
        rw [← e]
        obtain ⟨_, A', len, fr, hb', _⟩ := hf
        exact (own_ne_ h.row hb' (by decide)).symm
      have e2 : g < W2.heap.size := by
        rcases h.row.2 with ⟨e', _⟩ | ⟨g', cap', cur, e', _, hh, _⟩
        · injection e' with e1'; subst e1'; simp [Value.ownBlock] at e
        · injection e' with e1'
          subst e1'
          have : g' = g := by simpa [Value.ownBlock] using e
          subst this
          exact blk_lt hh
      exact ⟨fun e => e1 (by rw [e]), by omega, by omega, h.own g e⟩
    · refine ⟨by omega, by omega, by omega, Classical.byContradiction fun hn => ?_⟩
      have := (hlt0 _ hn).1; omega
  have hgs : g ≠ s := by
    rcases hown.2 with ⟨e', _⟩ | ⟨g', cap', cur, e', _, hh, _⟩
    · cases e'
    · injection e' with e1'
      obtain rfl : g = g' := by simpa using e1'
      have hb5 := (hgrow.block s (by omega) (own_ne_ h4.row h4.box (by decide))).trans h4.box
      exact blk_ne hh hb5 (by decide)
  refine ⟨h.hs, ?_, ?_, fun i l hi => ?_, fun k hk' => ?_, ?_, fun k hk' => ?_, ?_⟩
  · rw [List.length_append, List.length_singleton]
    have hb5 := (hgrow.block s (by omega) (own_ne_ h4.row h4.box (by decide))).trans h4.box
    exact blk_put hb5 1 _ rfl
  · rw [List.length_append, List.length_singleton, List.map_append, List.map_singleton]
    obtain ⟨hl', ⟨e', _⟩ | ⟨g', cap', cur, e', h2, hh, h5⟩⟩ := hown
    · cases e'
    · obtain rfl : g = g' := by injection e' with e1'; simpa using e1'
      exact ⟨hl', .inr ⟨g, cap', cur, e', h2, (heap_far hgs).trans hh, h5⟩⟩
  · by_cases hin : i < ls.length
    · rw [List.getElem?_append_left hin] at hi
      obtain ⟨p, hp, hL⟩ := h4.el i l hi
      have hpl : i < ps.length := (List.getElem?_eq_some_iff.1 hp).1
      refine ⟨p, by rw [List.getElem?_append_left hpl]; exact hp, hL.step fun k hk1 hD => ⟨far k hk1 (fun e => ?_) ?_, ?_⟩⟩
      · have hDk : O k = i + 2 := hD
        have := h.own k e.symm; omega
      · have hDk : O k = i + 2 := hD
        rintro rfl; omega
      · have hDk : O k = i + 2 := hD
        have hk2 := (hlt0 k (by omega)).1
        show (if k = q ∨ k = W2.heap.size ∨ k = W3.heap.size then ls.length + 2 else O k) = i + 2
        rw [if_neg (by rintro (rfl | h1 | h1) <;> omega)]
        exact hDk
    · have hil := (List.getElem?_eq_some_iff.1 hi).1
      rw [List.length_append, List.length_singleton] at hil
      obtain rfl : i = ls.length := by omega
      rw [List.getElem?_append_right (by omega), Nat.sub_self] at hi
      simp only [List.getElem?_cons_zero, Option.some.injEq] at hi
      subst hi
      have hpl : ps.length = ls.length := by have := h.row.1; rw [List.length_map] at this; omega
      refine ⟨W3.heap.size, by rw [List.getElem?_append_right (by omega), hpl, Nat.sub_self]; rfl, ?_⟩
      have e1 : ∀ k, (k = q ∨ k = W2.heap.size ∨ k = W3.heap.size) → (if k = q ∨ k = W2.heap.size ∨ k = W3.heap.size then ls.length + 2 else O k) = ls.length + 2 := fun k hk => if_pos hk
      have own1 : some W3.heap.size ≠ (Value.slice A ls.length c).ownBlock := own_ne_ h4.row hlb (by decide)
      have own2 : some W2.heap.size ≠ (Value.slice A ls.length c).ownBlock := own_ne_ h4.row hk4 (by decide)
      refine ⟨e1 _ (.inr (.inr rfl)), W2.heap.size, q, (far _ (by omega) own1 (by omega)).trans hlb, e1 _ (.inr (.inl rfl)), (far _ (by omega) own2 (by omega)).trans hk4, hf4.step fun k hc hD => ?_⟩
      have hkq : k = q := hD
      subst hkq
      have own3 : some k ≠ (Value.slice A ls.length c).ownBlock := by
        obtain ⟨_, A', len, fr, hb', _⟩ := hf4
        exact own_ne_ h4.row hb' (by decide)
      exact ⟨far k hc.lt own3 hqs, e1 _ (.inl rfl), by omega, by omega⟩
  · by_cases h1 : k = q ∨ k = W2.heap.size ∨ k = W3.heap.size
    · have hz : (W5.setCell ⟨s, 1, none⟩ (.slice (some ⟨g, 0, none⟩) (ls.length + 1) cap)).heap.size = W5.heap.size := by simp [World.setCell]
      rw [hz]
      rcases h1 with rfl | rfl | rfl <;> omega
    · have hk2 : (if k = q ∨ k = W2.heap.size ∨ k = W3.heap.size then ls.length + 2 else O k) ≠ 0 := hk'
      rw [if_neg h1] at hk2
      have := hlt0 k hk2
      have hz : (W5.setCell ⟨s, 1, none⟩ (.slice (some ⟨g, 0, none⟩) (ls.length + 1) cap)).heap.size = W5.heap.size := by simp [World.setCell]
      rw [hz]
      omega
  · show (if s = q ∨ s = W2.heap.size ∨ s = W3.heap.size then ls.length + 2 else O s) = 0
    rw [if_neg (by rintro (h1 | h1 | h1) <;> omega)]
    exact hsO
  · have hk2 : g = k := by simpa [Value.ownBlock] using hk'
    subst hk2
    show (if g = q ∨ g = W2.heap.size ∨ g = W3.heap.size then ls.length + 2 else O g) = 0
    rw [if_neg (by rintro (h1 | h1 | h1) <;> omega)]
    exact hgO.2.2.2
  · have b5 := h4.bel.grown hgrow h4.bel.size fun k hk => own_base h.row hk
    exact below_set b5 h.hs

/-- A shaper is made. -/
theorem NB.done {w0 W : World} {s : Nat} {O : Nat → Nat} {tick : Int} {ls : List Ls} {ps : List Nat} {A : Option Addr} {c : Nat} (h : NB w0 W s O tick ls ps A c) :
    ∃ O', Sh W O' s tick ls ∧ (∀ k, O' k ≠ 0 → w0.heap.size ≤ k) ∧ Below w0.heap.size w0 W := by
  obtain ⟨hl, hrow⟩ := h.row
  have hsl := blk_lt h.box
  refine ⟨fun k => if k = s ∨ (Value.slice A ls.length c).ownBlock = some k then 1 else O k, ⟨?_, ⟨A, c, h.box, fun hn => ?_⟩, ?_⟩, ?_, h.bel⟩
  · exact if_pos (.inl rfl)
  · rcases hrow with ⟨e, h0⟩ | ⟨g, cap, cu, e, hb, hh, hle, hc1, hsz, ht⟩
    · omega
    · injection e with e1 e2 e3
      subst e1
      refine ⟨g, cu, rfl, if_pos (.inr rfl), hh, fun i l hi => ?_⟩
      obtain ⟨p, hp, hL⟩ := h.el i l hi
      refine ⟨p, ?_, hL.step fun k hk hD => ⟨rfl, ?_⟩⟩
      · have hil : i < ls.length := (List.getElem?_eq_some_iff.1 hi).1
        rw [← Array.getElem?_toList]
        have : (cu.toList.take (ls.length * 1))[i]? = some (.pointer (some ⟨p, 0, none⟩)) := by
          rw [ht, List.getElem?_map, hp]; rfl
        rw [List.getElem?_take] at this
        split at this
        · exact this
        · cases this
      · have hDk : O k = i + 2 := hD
        show (if k = s ∨ (Value.slice (some ⟨g, 0, none⟩) ls.length c).ownBlock = some k then 1 else O k) = i + 2
        rw [if_neg]
        · exact hDk
        · rintro (rfl | e)
          · have := h.os; omega
          · have := h.own k e; omega
  · intro k hk
    by_cases h1 : k = s ∨ (Value.slice A ls.length c).ownBlock = some k
    · rcases h1 with rfl | h1
      · exact hsl
      · rcases hrow with ⟨e, h0⟩ | ⟨g, cap, cu, e, hb, hh, _⟩
        · injection e with e1 e2 e3
          subst e1
          simp [Value.ownBlock] at h1
        · injection e with e1 e2 e3
          subst e1
          have : g = k := by simpa [Value.ownBlock] using h1
          subst this
          exact blk_lt hh
    · have hk' : (if k = s ∨ (Value.slice A ls.length c).ownBlock = some k then 1 else O k) ≠ 0 := hk
      rw [if_neg h1] at hk'
      exact (h.lt k hk').1
  · intro k hk
    by_cases h1 : k = s ∨ (Value.slice A ls.length c).ownBlock = some k
    · rcases h1 with rfl | h1
      · exact h.hs
      · exact own_base h.row h1
    · have hk' : (if k = s ∨ (Value.slice A ls.length c).ownBlock = some k then 1 else O k) ≠ 0 := hk
      rw [if_neg h1] at hk'
      exact (h.lt k hk').2
end Go.Proofs.Ytballojildjbhaa.S
