/- FifoKnown: acts in a row of the call's own; conditions: none. -/
import Derived.Test.YtdipihaefiobiaaQP
import Derived.Test.YtdipihaefiobiaaQU
import Derived.Deep.AppendLies
namespace Go.Proofs.Ytdipihaefiobiaa.F
open Go Go.RowKit Go.Proofs.YtdipihaefiobiaaW.PrintWords Go.Proofs.YtdipihaefiobiaaW.PrintLast Go.Proofs.YtdipihaefiobiaaW.PrintMore
set_option linter.unusedVariables false
set_option linter.unusedSimpArgs false

theorem info_act : (Try.prog.info? 39).map (fun i => (i.zero, i.size, i.bytes)) = some (some (.agg #[.int .i64 0, .int .u64 0, .int .i64 0, .slice none 0 0]), 4, 48) := by kernel_rfl

/-- The four cells of act i. -/
def AcC (W : World) (B : Nat) (cs : List Value) (i : Nat) : Prop :=
  ∃ d no s A m c data, cs[i * 4]? = some (.int .i64 d) ∧ cs[i * 4 + 1]? = some (.int .u64 no) ∧ cs[i * 4 + 2]? = some (.int .i64 s) ∧ cs[i * 4 + 3]? = some (.slice A m c) ∧ Dat W (fun k => B ≤ k ∧ U8 W k) A m data

/-- A row of acts that the call made. -/
structure AR (w0 W : World) (v : Value) (n : Nat) (cs : List Value) : Prop where
  row : W.ownsRow w0.heap.size 39 4 v n cs
  el : ∀ i, i < n → AcC W w0.heap.size cs i
  bel : Below w0.heap.size w0 W

theorem AcC.step {W W' : World} {B : Nat} {cs : List Value} {i : Nat} (h : AcC W B cs i) (hk : ∀ k, U8 W k → W'.heap[k]? = W.heap[k]?) : AcC W' B cs i := by
  obtain ⟨d, no, s, A, m, c, data, h0, h1, h2, h3, hd⟩ := h
  exact ⟨d, no, s, A, m, c, data, h0, h1, h2, h3, hd.step fun k hlt hD => ⟨hk k hD.2, hD.1, hD.2.same (hk k hD.2)⟩⟩

theorem AR.nil {w0 W : World} (h : Below w0.heap.size w0 W) : AR w0 W (.slice none 0 0) 0 [] :=
  ⟨World.ownsRow_nil _ _ _ _, fun i hi => absurd hi (by omega), h⟩

theorem AR.below {w0 W W' : World} {v : Value} {n : Nat} {cs : List Value} (h : AR w0 W v n cs) (hb : Below W.heap.size W W') : AR w0 W' v n cs := by
  refine ⟨?_, fun i hi => (h.el i hi).step fun k hk => hb.block k hk.lt, below_step h.bel hb⟩
  obtain ⟨hl, h1 | ⟨g, cap, cur, e, h2, h3, h4⟩⟩ := h.row
  · exact ⟨hl, .inl h1⟩
  · exact ⟨hl, .inr ⟨g, cap, cur, e, h2, (hb.block g (blk_lt h3)).trans h3, h4⟩⟩

theorem AR.snoc {w0 W W' : World} {v v' : Value} {n : Nat} {cs : List Value} (h : AR w0 W v n cs) (d no s : Int) (A : Option Addr) (m c : Nat) (data : List UInt8)
    (hr : W'.ownsRow w0.heap.size 39 4 v' (n + 1) (cs ++ [.int .i64 d, .int .u64 no, .int .i64 s, .slice A m c])) (hg : W.grownBy W' v.ownBlock)
    (hd : Dat W (fun k => w0.heap.size ≤ k ∧ U8 W k) A m data) : AR w0 W' v' (n + 1) (cs ++ [.int .i64 d, .int .u64 no, .int .i64 s, .slice A m c]) := by
  have hl : cs.length = n * 4 := h.row.1
  have far : ∀ k, U8 W k → W'.heap[k]? = W.heap[k]? := fun k hk => hg.block k hk.lt (by
    obtain ⟨cs', hc⟩ := hk
    exact own_ne_ h.row hc (by decide))
  refine ⟨hr, fun i hi => ?_, h.bel.grown hg h.bel.size fun k hk => own_base h.row hk⟩
  by_cases hin : i < n
  · obtain ⟨d', no', s', A', m', c', data', h0, h1, h2, h3, hd'⟩ := (h.el i hin).step far
    refine ⟨d', no', s', A', m', c', data', ?_, ?_, ?_, ?_, hd'⟩
    · rw [List.getElem?_append_left (by omega)]; exact h0
    · rw [List.getElem?_append_left (by omega)]; exact h1
    · rw [List.getElem?_append_left (by omega)]; exact h2
    · rw [List.getElem?_append_left (by omega)]; exact h3
  · obtain rfl : i = n := by omega
    refine ⟨d, no, s, A, m, c, data, ?_, ?_, ?_, ?_, hd.step fun k hlt hD => ⟨far k hD.2, hD.1, hD.2.same (far k hD.2)⟩⟩
    · rw [List.getElem?_append_right (by omega), hl, Nat.sub_self]; rfl
    · rw [List.getElem?_append_right (by omega), hl, show i * 4 + 1 - i * 4 = 1 by omega]; rfl
    · rw [List.getElem?_append_right (by omega), hl, show i * 4 + 2 - i * 4 = 2 by omega]; rfl
    · rw [List.getElem?_append_right (by omega), hl, show i * 4 + 3 - i * 4 = 3 by omega]; rfl

theorem list_of {α : Type} (P : Nat → α → Prop) : ∀ n : Nat, (∀ i, i < n → ∃ a, P i a) → ∃ l : List α, l.length = n ∧ ∀ i a, l[i]? = some a → P i a
  | 0, _ => ⟨[], rfl, fun i a h => by simp at h⟩
  | n + 1, h => by
    obtain ⟨l, hl, hp⟩ := list_of P n fun i hi => h i (by omega)
    obtain ⟨a, ha⟩ := h n (by omega)
    refine ⟨l ++ [a], by simp [hl], fun i b hb => ?_⟩
    by_cases hi : i < n
    · rw [List.getElem?_append_left (by omega)] at hb
      exact hp i b hb
    · have hlt : i < (l ++ [a]).length := (List.getElem?_eq_some_iff.1 hb).1
      obtain rfl : i = n := by simp [hl] at hlt; omega
      rw [List.getElem?_append_right (by omega), hl, Nat.sub_self] at hb
      cases hb
      exact ha

theorem AR.acts {w0 W : World} {v : Value} {n : Nat} {cs : List Value} (h : AR w0 W v n cs) (hn : 0 < n) : ∃ (ad : Addr) (c : Nat) (l : List Ac), v = .slice (some ad) n c ∧ n ≤ c ∧ Acts W W.heap.size (some ad) n l := by
  obtain ⟨hl, ⟨_, h0⟩ | ⟨g, cap, cu, rfl, hb, hh, hle, _, hsz, ht⟩⟩ := h.row
  · omega
  · have cell : ∀ j u, cs[j]? = some u → W.cell? ⟨g, j, none⟩ = some u := by
      intro j u hu
      rw [blk_cell hh j, ← Array.getElem?_toList]
      rw [← ht, List.getElem?_take] at hu
      split at hu
      · exact hu
      · cases hu
    obtain ⟨l, hll, hp⟩ := list_of (fun i a => AcAt W W.heap.size ((⟨g, 0, none⟩ : Addr).add (i * 4)) a) n fun i hi => by
      obtain ⟨d, no, s, A, m, c, data, h0, h1, h2, h3, hd⟩ := h.el i hi
      refine ⟨⟨d, no, s, data⟩, A, m, c, ?_⟩
      rw [add_at, Nat.zero_add]
      exact ⟨cell _ _ h0, cell _ _ h1, cell _ _ h2, cell _ _ h3, hd.step fun k hlt hD => ⟨rfl, hD.2.lt⟩⟩
    exact ⟨_, cap, l, rfl, hle, hll.symm, fun _ => ⟨_, rfl, blk_lt hh, hp⟩⟩

theorem Acts.take {W : World} {B : Nat} {ad : Addr} {n m : Nat} {l : List Ac} (h : Acts W B (some ad) n l) (hm : 0 < m) (hmn : m ≤ n) : Acts W B (some ad) m (l.take m) := by
  have hl := h.1
  obtain ⟨ad', e, hb, hc⟩ := h.2 (by omega)
  refine ⟨by rw [List.length_take]; omega, fun _ => ⟨ad', e, hb, fun i a ha => hc i a ?_⟩⟩
  rw [List.getElem?_take] at ha
  split at ha
  · exact ha
  · cases ha
theorem Acts.below {W W' : World} {A : Option Addr} {n : Nat} {l : List Ac} (h : Acts W W.heap.size A n l) (hb : Below W.heap.size W W') : Acts W' W'.heap.size A n l := by
  refine ⟨h.1, fun hn => ?_⟩
  obtain ⟨ad, e, hlt, hc⟩ := h.2 hn
  have := hb.size
  refine ⟨ad, e, by omega, fun i a ha => ?_⟩
  obtain ⟨A', m, c, h0, h1, h2, h3, hd⟩ := hc i a ha
  have key : ∀ p : Addr, p.block = ad.block → W'.cell? p = W.cell? p := fun p hp => World.cell?_of_block (by rw [hp]; exact hb.block _ hlt)
  have hbk : (ad.add (i * 4)).block = ad.block := ad_block _ _
  refine ⟨A', m, c, (key _ hbk).trans h0, (key ⟨_, _, none⟩ hbk).trans h1, (key ⟨_, _, none⟩ hbk).trans h2, (key ⟨_, _, none⟩ hbk).trans h3, hd.step fun k hk hD => ⟨hb.block k hk, by omega⟩⟩

theorem news4 (W : World) (o : Obj) (a b c d : Value) (t : TypeId) : ∀ j u, [a, b, c, d][j]? = some u → ((W.alloc o).alloc (.cells #[a, b, c, d] t)).cell? ((⟨W.heap.size + 1, 0, none⟩ : Addr).add j) = some u := by
  have h := blk_new (W.alloc o) (.cells #[a, b, c, d] t)
  rw [World.size_alloc] at h
  exact World.news_of_block h

/-- Three bytes, cut. -/
theorem dat3 (W : World) (B : Nat) (a : Int) (m : Nat) (o : Obj) (ha : 0 ≤ a ∧ a < 256) (hm : m ≤ 3) (hB : B ≤ W.heap.size) :
    ∃ data, Dat ((W.alloc (.cells #[.int .u8 a, .int .u8 2, .int .u8 3] 5)).alloc o) (fun k => B ≤ k ∧ U8 ((W.alloc (.cells #[.int .u8 a, .int .u8 2, .int .u8 3] 5)).alloc o) k) (some ⟨W.heap.size, 0, none⟩) m data := by
  have hb := blk_alloc (blk_new W (.cells #[.int .u8 a, .int .u8 2, .int .u8 3] 5)) o
  refine ⟨[UInt8.ofNat a.toNat, 2, 3].take m, by simp; omega, fun _ => ⟨_, rfl, ⟨hB, _, hb⟩, fun j x hx => ?_⟩⟩
  rw [List.getElem?_take] at hx
  split at hx
  · rw [add_at, blk_cell hb]
    have e : byteV (UInt8.ofNat a.toNat) = .int .u8 a := by
      unfold byteV
      rw [UInt8.toNat_ofNat', Nat.mod_eq_of_lt (by omega)]
      congr 1; omega
    rcases j with _ | _ | _ | j
    · cases hx; rw [e]; rfl
    · cases hx; rfl
    · cases hx; rfl
    · simp at hx
  · cases hx
end Go.Proofs.Ytdipihaefiobiaa.F
