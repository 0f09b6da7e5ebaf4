/- shaper.Shaper.Release: what goes out, as a relation; a row of outs that the call made; conditions: none. -/
import Derived.Test.YtballojildjbhaaSF
import Derived.Deep.LoopGhost
namespace Go.Proofs.Ytballojildjbhaa.S
open Go Go.RowKit Go.Proofs.YtballojildjbhaaW.PrintWords Go.Proofs.YtballojildjbhaaW.PrintLast Go.Proofs.YtballojildjbhaaW.PrintMore Go.Proofs.Ytballojildjbhaa.F
set_option linter.unusedVariables false
set_option linter.unusedSimpArgs false

/-- An item that goes out. -/
structure Ot where
  at_ : Int
  cls : Nat
  it : It

/-- What goes out up to a tick T, head for head: from a tick and lines to a tick and lines. -/
inductive Steps (T : Int) : Int → List Ls → List Ot → Int → List Ls → Prop
  | none (t : Int) (ls : List Ls) : Steps T t ls [] t ls
  | snoc {t t1 : Int} {ls ls1 : List Ls} {os : List Ot} {l : Ls} {x : It} {ys : List It} (h : Steps T t ls os t1 ls1) (hok : (nextS t1 ls1).ok = true) (hat : (nextS t1 ls1).at_ ≤ T)
      (hl : ls1[(nextS t1 ls1).cls]? = some l) (hx : l.xs = x :: ys) :
      Steps T t ls (os ++ [⟨(nextS t1 ls1).at_, (nextS t1 ls1).cls, x⟩]) (nextS t1 ls1).at_ (ls1.set (nextS t1 ls1).cls (outL l x ys (nextS t1 ls1).at_))
/-- All that goes out up to a tick. -/
def Rel (T t : Int) (ls : List Ls) (os : List Ot) (ls' : List Ls) : Prop :=
  ∃ t', Steps T t ls os t' ls' ∧ ((nextS t' ls').ok = false ∨ T < (nextS t' ls').at_)

/-- How many items there are. -/
def cnt (ls : List Ls) : Nat := (ls.map fun l => l.xs.length).sum
theorem cnt_set {ls : List Ls} {i : Nat} {l l' : Ls} (h : ls[i]? = some l) : cnt (ls.set i l') + l.xs.length = cnt ls + l'.xs.length := by
  induction ls generalizing i with
  | nil => simp at h
  | cons a r ih =>
    cases i with
    | zero =>
      simp only [List.getElem?_cons_zero, Option.some.injEq] at h
      subst h
      simp only [cnt, List.set_cons_zero, List.map_cons, List.sum_cons]; omega
    | succ j =>
      simp only [List.getElem?_cons_succ] at h
      have := ih h
      simp only [cnt, List.set_cons_succ, List.map_cons, List.sum_cons] at this ⊢; omega

theorem info_out : (Try.prog.info? 55).map (fun i => (i.zero, i.size, i.bytes)) = some (some (.agg #[.int .u64 0, .int .i64 0, .int .u64 0, .int .i64 0, .slice none 0 0]), 5, 56) := by kernel_rfl

abbrev otc (o : Ot) (A : Option Addr) (m c : Nat) : List Value := [.int .u64 o.at_, .int .i64 o.cls, .int .u64 o.it.no, .int .i64 o.it.size, .slice A m c]
/-- The five cells of out i. -/
def OtC (W : World) (B : Nat) (cs : List Value) (i : Nat) (o : Ot) : Prop :=
  ∃ A m c, cs[i * 5]? = some (.int .u64 o.at_) ∧ cs[i * 5 + 1]? = some (.int .i64 o.cls) ∧ cs[i * 5 + 2]? = some (.int .u64 o.it.no) ∧ cs[i * 5 + 3]? = some (.int .i64 o.it.size) ∧ cs[i * 5 + 4]? = some (.slice A m c) ∧
    Dat W (fun k => B ≤ k ∧ U8 W k) A m o.it.data
/-- No two have bytes in one block. -/
def ODist (cs : List Value) : Prop := ∀ (i j : Nat) (a b : Addr) (n c m d : Nat), i < j → cs[i * 5 + 4]? = some (.slice (some a) n c) → cs[j * 5 + 4]? = some (.slice (some b) m d) → 0 < n → 0 < m → a.block ≠ b.block

/-- A row of outs that the call made. -/
structure OR (w0 W : World) (v : Value) (os : List Ot) (cs : List Value) : Prop where
  row : W.ownsRow w0.heap.size 55 5 v os.length cs
  el : ∀ i o, os[i]? = some o → OtC W w0.heap.size cs i o
  dist : ODist cs

theorem OtC.step {W W' : World} {B : Nat} {cs : List Value} {i : Nat} {o : Ot} (h : OtC W B cs i o) (hk : ∀ k, U8 W k → B ≤ k → W'.heap[k]? = W.heap[k]?) : OtC W' B cs i o := by
  obtain ⟨A, m, c, h0, h1, h2, h3, h4, hd⟩ := h
  exact ⟨A, m, c, h0, h1, h2, h3, h4, hd.step fun k hlt hD => ⟨hk k hD.2 hD.1, hD.1, hD.2.same (hk k hD.2 hD.1)⟩⟩
theorem OR.nil (w0 W : World) : OR w0 W (.slice none 0 0) [] [] :=
  ⟨World.ownsRow_nil _ _ _ _, fun i o h => by simp at h, fun i j a b n c m d hij h => by simp at h⟩
/-- It stays where nothing that is not the shaper's turns. -/
theorem OR.step {w0 W W' : World} {v : Value} {os : List Ot} {cs : List Value} (h : OR w0 W v os cs) (hk : ∀ k, k < W.heap.size → w0.heap.size ≤ k → W'.heap[k]? = W.heap[k]?) : OR w0 W' v os cs := by
  refine ⟨?_, fun i o hi => (h.el i o hi).step fun k hu hB => hk k hu.lt hB, h.dist⟩
  obtain ⟨hl, h1 | ⟨g, cap, cur, e, h2, h3, h4⟩⟩ := h.row
  · exact ⟨hl, .inl h1⟩
  · exact ⟨hl, .inr ⟨g, cap, cur, e, h2, (hk g (blk_lt h3) h2).trans h3, h4⟩⟩
theorem OR.below {w0 W W' : World} {v : Value} {os : List Ot} {cs : List Value} (h : OR w0 W v os cs) (hb : Below W.heap.size W W') : OR w0 W' v os cs :=
  h.step fun k hk _ => hb.block k hk

/-- One more: W0: where its bytes were made. -/
theorem OR.snoc {w0 W0 W W' : World} {v v' : Value} {os : List Ot} {cs : List Value} (h : OR w0 W0 v os cs) (h1 : OR w0 W v os cs) (o : Ot) (A : Option Addr) (m c : Nat)
    (hr : W'.ownsRow w0.heap.size 55 5 v' (os.length + 1) (cs ++ otc o A m c)) (hg : W.grownBy W' v.ownBlock)
    (hB : w0.heap.size ≤ W0.heap.size) (hd : Dat W (fun k => W0.heap.size ≤ k ∧ U8 W k) A m o.it.data) : OR w0 W' v' (os ++ [o]) (cs ++ otc o A m c) := by
  have hl : cs.length = os.length * 5 := h1.row.1
  have far : ∀ k, U8 W k → W'.heap[k]? = W.heap[k]? := fun k hk => hg.block k hk.lt (by
    obtain ⟨cs', hc⟩ := hk
    exact own_ne_ h1.row hc (by decide))
  refine ⟨by rw [List.length_append]; exact hr, fun i o' hi => ?_, ?_⟩
  · by_cases hin : i < os.length
    · rw [List.getElem?_append_left hin] at hi
      obtain ⟨A', m', c', h0, h1, h2, h3, h4, hd'⟩ := (h1.el i o' hi).step fun k hu _ => far k hu
      refine ⟨A', m', c', ?_, ?_, ?_, ?_, ?_, hd'⟩
      all_goals rw [List.getElem?_append_left (by omega)]; assumption
    · have hlt := (List.getElem?_eq_some_iff.1 hi).1
      rw [List.length_append, List.length_singleton] at hlt
      obtain rfl : i = os.length := by omega
      rw [List.getElem?_append_right (by omega), Nat.sub_self] at hi
      cases hi
      refine ⟨A, m, c, ?_, ?_, ?_, ?_, ?_, hd.step fun k hlt hD => ⟨far k hD.2, by omega, hD.2.same (far k hD.2)⟩⟩
      · rw [List.getElem?_append_right (by omega), hl, Nat.sub_self]; rfl
      · rw [List.getElem?_append_right (by omega), hl, show os.length * 5 + 1 - os.length * 5 = 1 by omega]; rfl
      · rw [List.getElem?_append_right (by omega), hl, show os.length * 5 + 2 - os.length * 5 = 2 by omega]; rfl
      · rw [List.getElem?_append_right (by omega), hl, show os.length * 5 + 3 - os.length * 5 = 3 by omega]; rfl
      · rw [List.getElem?_append_right (by omega), hl, show os.length * 5 + 4 - os.length * 5 = 4 by omega]; rfl
  · intro i j a b n c' m' d hij hi hj hn hm
    have hjl : j * 5 + 4 < (cs ++ otc o A m c).length := (List.getElem?_eq_some_iff.1 hj).1
    rw [List.length_append, show (otc o A m c).length = 5 from rfl] at hjl
    rw [List.getElem?_append_left (by omega)] at hi
    by_cases hjn : j < os.length
    · rw [List.getElem?_append_left (by omega)] at hj
      exact h.dist i j a b n c' m' d hij hi hj hn hm
    · obtain rfl : j = os.length := by omega
      rw [List.getElem?_append_right (by omega), hl, show os.length * 5 + 4 - os.length * 5 = 4 by omega] at hj
      simp only [List.getElem?_cons_succ, List.getElem?_cons_zero, Option.some.injEq, Value.slice.injEq] at hj
      obtain ⟨rfl, rfl, rfl⟩ := hj
      obtain ⟨ad, e, hD, hc⟩ := hd.2 hm
      cases e
      obtain ⟨A', m'', c'', -, -, -, -, h4, hd'⟩ := h.el i os[i] (List.getElem?_eq_getElem hij)
      rw [h4] at hi
      cases hi
      obtain ⟨ad', e, hD', hc'⟩ := hd'.2 hn
      cases e
      have := hD'.2.lt
      omega
end Go.Proofs.Ytballojildjbhaa.S
