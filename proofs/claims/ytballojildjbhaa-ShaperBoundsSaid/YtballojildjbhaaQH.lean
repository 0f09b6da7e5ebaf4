/- fifo.Queue: what grow leaves; conditions: the queue lies in memory, its ring is full. -/
import Derived.Test.YtballojildjbhaaQG
namespace Go.Proofs.Ytballojildjbhaa.F
open Go Go.RowKit Go.Proofs.YtballojildjbhaaW.PrintWords Go.Proofs.YtballojildjbhaaW.PrintLast Go.Proofs.YtballojildjbhaaW.PrintMore
attribute [local go_sem] max2_int min2_int max_two min_two
set_option linter.unusedVariables false
set_option linter.unusedSimpArgs false

/-- copy of a row of items. -/
theorem run_copy_items (w : World) (dT ty : TypeId) (hdT : Try.prog.underlying dT = some (.slice 25)) (r dLen dCap base k : Nat) (cur : Array Value) (v : Value) (cells : List Value) (t : TypeId)
    (hg : w.heap[r]? = some (.cells cur t (0, 0))) (hown : w.ownsRow base 25 3 v k cells) (hk : k ≤ dLen) (hfit : k * 3 ≤ cur.size) (h1 : ∀ v ∈ cells, v.oneCell' = true) :
    (Builtin.copy_ #[dT, dT] ty #[.slice (some ⟨r, 0, none⟩) dLen dCap, v]).run Try.prog w = .ok (goInt k) (w.setRow r (cells ++ cur.toList.drop (k * 3)).toArray) := by
  obtain ⟨i0, hi, hz0, hz1, hz2⟩ := info_parts info_item
  obtain ⟨hl, ⟨rfl, rfl⟩ | ⟨g, cap, cu, rfl, _, hh, hle, _, hsz, ht⟩⟩ := hown
  · obtain rfl : cells = [] := List.eq_nil_of_length_eq_zero (by simpa using hl)
    have := setRow_self w r cur t (0, 0) hg
    simp [Builtin.copy_, run_underlying hdT, Builtin.lenOf, Builtin.firstCells, sizeOf, typeInfo, hi, storeCells, this]
  · have hsrc : ∀ j u, cells[j]? = some u → w.cell? ((⟨g, 0, none⟩ : Addr).add j) = some u := by
      intro j u hu
      have e : (⟨g, 0, none⟩ : Addr).add j = ⟨g, j, none⟩ := by unfold Addr.add; split <;> simp_all
      rw [e, blk_cell hh j, ← Array.getElem?_toList]
      rw [← ht, List.getElem?_take] at hu
      split at hu
      · exact hu
      · cases hu
    have hld := run_loadCells_list (P := Try.prog) w ⟨g, 0, none⟩ cells hsrc
    have hst := run_storeCells_at Try.prog r 0 t cells 0 cur w hg (by simp [hl]; omega) h1
    have hm : Nat.min k dLen = k := Nat.min_eq_left hk
    rw [hl] at hld
    simp [Builtin.copy_, run_underlying hdT, Builtin.lenOf, Builtin.firstCells, sizeOf, typeInfo, hi, hz1, hm, hld, hst, hl]

theorem wpList_copy_items {w : World} {ops : Array Oper} {rest : List Oper} {o : Oper} {a : Act} {Q : Exit → Act → World → Prop} (hgd : o.guard = none) (d s : Operand) (dT : TypeId)
    (ho : o.op = .call { callee := .builtin .copy, args := #[d, s], argTypes := #[dT, dT] }) (hdT : Try.prog.underlying dT = some (.slice 25)) (r dLen dCap base k : Nat) (cur : Array Value) (v : Value) (cells : List Value) (t : TypeId)
    (hd : a.eval d = .slice (some ⟨r, 0, none⟩) dLen dCap) (hs : a.eval s = v)
    (hg : w.heap[r]? = some (.cells cur t (0, 0))) (hown : w.ownsRow base 25 3 v k cells) (hk : k ≤ dLen) (hfit : k * 3 ≤ cur.size) (h1 : ∀ v ∈ cells, v.oneCell' = true)
    (h : wpList Try.prog ops Q rest (a.put o.dst (goInt k)) (w.setRow r (cells ++ cur.toList.drop (k * 3)).toArray)) : wpList Try.prog ops Q (o :: rest) a w := by
  refine wpList_plain hgd fun K hK => ?_
  have hrun := run_copy_items w dT o.type hdT r dLen dCap base k cur v cells t hg hown hk hfit h1
  unfold Oper.wp
  simp [execOp, ho, resolve, invoke, builtin, hd, hs, hrun, Result.andThen]
  exact hK _ _ h

/-- What make lays. -/
def mk0 (n : Nat) : Array Value := madeCells #[.int .u64 0, .int .i64 0, .slice none 0 0] (n * 3)
theorem mk0_size (n : Nat) : (mk0 n).size = n * 3 := size_madeCells _ _
theorem make_items (n : Nat) (hn : n ≤ 131072) (w : World) : (Instr.makeSlice 42 (.int .i64 (n : Int)) (.int .i64 (n : Int))).run Try.prog w = .ok (.slice (some ⟨w.heap.size, 0, none⟩) n n) (w.alloc (.cells (mk0 n) 25)) := by
  obtain ⟨i0, hi, hz0, hz1, hz2⟩ := info_parts info_item
  have := run_make (P := Try.prog) w 42 25 i0 _ Try.underlying42 hi hz0 .i64 .i64 n n (by omega) (Int.le_refl _) (by rw [hz2]; omega) (by omega)
  rw [hz1] at this
  exact this

theorem row_far {w : World} {r k : Nat} {cs : Array Value} (h : k ≠ r) : (w.setRow r cs).heap[k]? = w.heap[k]? := setRow_other w r k cs h

theorem cells_one {B : Nat} {W : World} {cells : List Value} {xs : List It} (h : Its W B cells xs) (hl : cells.length = xs.length * 3) : ∀ v ∈ cells, v.oneCell' = true := by
  intro v hv
  obtain ⟨j, hj⟩ := List.mem_iff_getElem?.1 hv
  have hjl := (List.getElem?_eq_some_iff.1 hj).1
  obtain ⟨A, n, c, h0, h1, h2, _⟩ := h (j / 3) xs[j / 3] (List.getElem?_eq_getElem (by omega))
  have : j = 3 * (j / 3) ∨ j = 3 * (j / 3) + 1 ∨ j = 3 * (j / 3) + 2 := by omega
  rcases this with e | e | e <;> rw [e] at hj
  · rw [h0] at hj; cases hj; rfl
  · rw [h1] at hj; cases hj; rfl
  · rw [h2] at hj; cases hj; rfl

theorem own_ne {W : World} {base k g : Nat} {v : Value} {cells : List Value} {cs : Array Value} {t : TypeId} (h : W.ownsRow base 25 3 v k cells) (hg : W.heap[g]? = some (.cells cs t (0, 0))) (hne : 25 ≠ t) : some g ≠ v.ownBlock := by
  rcases h.2 with ⟨rfl, _⟩ | ⟨g', cap, cur, rfl, _, hgb, _⟩
  · simp [Value.ownBlock]
  · intro e
    obtain rfl : g = g' := by simpa [Value.ownBlock] using e
    exact blk_ne hgb hg hne rfl
theorem setRow_heap_same {w : World} {r : Nat} {cs cs' : Array Value} {t : TypeId} (h : w.heap[r]? = some (.cells cs t (0, 0))) : (w.setRow r cs').heap[r]? = some (.cells cs' t (0, 0)) := setRow_heap w r cs cs' t (0, 0) h

/-- What grow has laid, and copied into it. -/
theorem grow_end {w w1 w2 w3 : World} {g nn : Nat} {xs : List It} {cells : List Value} {v : Value} {items bound drops : Int} {A : Option Addr} {len fr : Nat} (hnn : xs.length < nn) (hn : nn ≤ 131072)
    (hq : Qb w g A len fr xs.length (sz xs) items bound drops) (hb : Below w.heap.size w w1) (hits : Its w1 w.heap.size cells xs) (hcl : cells.length = xs.length * 3)
    (e2 : w2 = (((w1.setCell ⟨g, 0, none⟩ (.slice (some ⟨w1.heap.size, 0, none⟩) nn nn)).setCell ⟨g, 1, none⟩ (.int .i64 0)).alloc (.cells (mk0 nn) 25)))
    (e3 : w3 = w2.setRow w1.heap.size (cells ++ (mk0 nn).toList.drop (xs.length * 3)).toArray) :
    ∃ r' len', xs.length < len' ∧ len' ≤ 131072 ∧ w.heap.size ≤ r' ∧
      Qb w3 g (some ⟨r', 0, none⟩) len' 0 xs.length (sz xs) items bound drops ∧ Ring w3 (fun k => w.heap.size ≤ k) (some ⟨r', 0, none⟩) len' 0 xs ∧ KeepD w w3 (fun k => k = g) := by
  have hg := blk_lt hq
  have hz := hb.size
  have q1 := blk_below hq hb
  have q2 : Qb w2 g (some ⟨w1.heap.size, 0, none⟩) nn 0 xs.length (sz xs) items bound drops := by rw [e2]; exact blk_alloc (blk_put (blk_put q1 0 (.slice (some ⟨w1.heap.size, 0, none⟩) nn nn) rfl) 1 (.int .i64 0) rfl) _
  have r2 : w2.heap[w1.heap.size]? = some (.cells (mk0 nn) 25 (0, 0)) := by
    rw [e2]
    have := blk_new ((w1.setCell ⟨g, 0, none⟩ (.slice (some ⟨w1.heap.size, 0, none⟩) nn nn)).setCell ⟨g, 1, none⟩ (.int .i64 0)) (.cells (mk0 nn) 25)
    simpa [World.setCell] using this
  have q3 : Qb w3 g (some ⟨w1.heap.size, 0, none⟩) nn 0 xs.length (sz xs) items bound drops := by rw [e3]; exact (row_far (by omega)).trans q2
  have r3 : w3.heap[w1.heap.size]? = some (.cells (cells ++ (mk0 nn).toList.drop (xs.length * 3)).toArray 25 (0, 0)) := by rw [e3]; exact setRow_heap_same r2
  have k3 : ∀ k, k < w1.heap.size → k ≠ g → w3.heap[k]? = w1.heap[k]? := fun k hk hne => by
    rw [e3, row_far (by omega), e2, Below.heap_alloc _ _ _ (by simp [World.setCell]; omega), heap_far hne, heap_far hne]
  refine ⟨w1.heap.size, nn, hnn, hn, hz, q3, .inr ⟨w1.heap.size, _, rfl, hz, r3, ?_, by omega, by omega, hn, fun i x hx => ?_⟩, ?_⟩
  · have := mk0_size nn
    simp only [List.size_toArray, List.length_append, List.length_drop, Array.length_toList, hcl, this]; omega
  · have hi : i < xs.length := (List.getElem?_eq_some_iff.1 hx).1
    obtain ⟨A', n, c, h0, h1, h2, hd⟩ := hits i x hx
    rw [Nat.zero_add, Nat.mod_eq_of_lt (by omega)]
    refine ⟨A', n, c, ?_, ?_, ?_, hd.step fun k _ hD => ?_⟩
    · rw [List.getElem?_toArray, List.getElem?_append_left (by omega)]; exact h0
    · rw [List.getElem?_toArray, List.getElem?_append_left (by omega)]; exact h1
    · rw [List.getElem?_toArray, List.getElem?_append_left (by omega)]; exact h2
    · have e := k3 k hD.2.lt (hD.2.ne_ q1 (by decide))
      exact ⟨e, hD.1, hD.2.same e⟩
  · have hs : w1.heap.size ≤ w3.heap.size := by rw [e3, e2]; simp [World.setRow, World.setCell]
    refine ⟨?_, ?_, ?_, Nat.le_trans hz hs, fun k hk hne => (k3 k (by omega) hne).trans (hb.block k hk)⟩
    · rw [e3, e2]; exact hb.os
    · rw [e3, e2]; exact hb.tape
    · rw [e3, e2]; exact hb.output

set_option maxHeartbeats 1000000 in
theorem grow_any (D : Nat → Prop) (g : Nat) (A : Option Addr) (len fr : Nat) (xs : List It) (items bound drops : Int) (w : World) (hDg : D g) (hq : Qb w g A len fr xs.length (sz xs) items bound drops) (hR : Ring w D A len fr xs)
    (hl : ∀ x, x ∈ xs → x.data.length ≤ 65536) (hlen : len ≤ 65536) (hxl : xs.length ≤ len) :
    Calls Try.prog 50 #[.pointer (some ⟨g, 0, none⟩)] w fun e w' => e = .returned (.tuple #[]) ∧ ∃ r' len', xs.length < len' ∧ len' ≤ 131072 ∧ w.heap.size ≤ r' ∧
      Qb w' g (some ⟨r', 0, none⟩) len' 0 xs.length (sz xs) items bound drops ∧ Ring w' (fun k => w.heap.size ≤ k) (some ⟨r', 0, none⟩) len' 0 xs ∧ KeepD w w' (fun k => k = g) := by
  have HA := Aside0.mk (all_any D g xs items bound drops w ⟨hDg, A, len, fr, hq, hR⟩ hl (by omega))
  have HQ := Aside0.mk hq
  clear hR hl hq
  have hgw := blk_lt HQ.out
  by_cases hc : 8 < 2 * (len : Int)
  · have hmk := make_items (2 * len) (by omega)
    rw [show ((2 * len : Nat) : Int) = 2 * (len : Int) by omega] at hmk
    go_enter Try.func50, Try.ntmps50
    go_wp2_with fail
    refine HA.out.mono ?_
    rintro e w1 ⟨v, cells, rfl, hown, hits, hdist, hb⟩
    have hq1 := blk_below HQ.out hb
    have c0 := Qb.c0 hq1
    have c1 := Qb.c1 hq1
    have f0 := Qb.fz hq1 0
    have f1 := Qb.fz hq1 1
    have HOWN := Aside0.mk hown
    have HIT := Aside0.mk hits
    have HB := Aside0.mk hb
    have HQ1 := Aside0.mk hq1
    have hg1 := blk_lt hq1
    clear HA hown hits hdist hb hq1
    go_upto_region 2 with (fail)
    obtain ⟨w2, e2⟩ : ∃ w2, w2 = (((w1.setCell ⟨g, 0, none⟩ (.slice (some ⟨w1.heap.size, 0, none⟩) (2 * len) (2 * len))).setCell ⟨g, 1, none⟩ (.int .i64 0)).alloc (.cells (mk0 (2 * len)) 25)) := ⟨_, rfl⟩
    rw [← e2]
    have q2 : Qb w2 g (some ⟨w1.heap.size, 0, none⟩) (2 * len) 0 xs.length (sz xs) items bound drops := by rw [e2]; exact blk_alloc (blk_put (blk_put HQ1.out 0 (.slice (some ⟨w1.heap.size, 0, none⟩) (2 * len) (2 * len)) rfl) 1 (.int .i64 0) rfl) _
    have r2 : w2.heap[w1.heap.size]? = some (.cells (mk0 (2 * len)) 25 (0, 0)) := by
      rw [e2]
      have := blk_new ((w1.setCell ⟨g, 0, none⟩ (.slice (some ⟨w1.heap.size, 0, none⟩) (2 * len) (2 * len))).setCell ⟨g, 1, none⟩ (.int .i64 0)) (.cells (mk0 (2 * len)) 25)
      simpa [World.setCell] using this
    have o2 : w2.ownsRow w.heap.size 25 3 v xs.length cells := by
      rw [e2]
      have hne := own_ne HOWN.out HQ1.out (by decide)
      exact (own_setCell (own_setCell HOWN.out hne _) hne _).alloc _
    have E2 := Aside0.mk e2
    have R2 := Aside0.mk r2
    have O2 := Aside0.mk o2
    have k0 := Qb.c0 q2
    have hsz := mk0_size (2 * len)
    have HSZ := Aside0.mk hsz
    clear e2 r2 o2 q2 c0 c1 f0 f1 hsz
    have hcp := run_copy_items w2 42 3 Try.underlying42 w1.heap.size (2 * len) (2 * len) w.heap.size xs.length (mk0 (2 * len)) v cells 25 R2.out O2.out (by omega) (by rw [HSZ.out]; omega) (cells_one HIT.out HOWN.out.1)
    have E3 := fun w3 (e3 : w3 = w2.setRow w1.heap.size (cells ++ (mk0 (2 * len)).toList.drop (xs.length * 3)).toArray) => grow_end (nn := 2 * len) (v := v) (by omega) (by omega) HQ.out HB.out HIT.out HOWN.out.1 E2.out e3
    have HE3 := Aside0.mk E3
    clear E3
    generalize w2.setRow w1.heap.size (cells ++ (mk0 (2 * len)).toList.drop (xs.length * 3)).toArray = w3 at hcp HE3
    go_wp2
    go_end0
    exact ⟨rfl, HE3.out _ rfl⟩
  · have hmk := make_items 8 (by omega)
    rw [show ((8 : Nat) : Int) = 8 from rfl] at hmk
    go_enter Try.func50, Try.ntmps50
    go_wp2_with fail
    refine HA.out.mono ?_
    rintro e w1 ⟨v, cells, rfl, hown, hits, hdist, hb⟩
    have hq1 := blk_below HQ.out hb
    have c0 := Qb.c0 hq1
    have c1 := Qb.c1 hq1
    have f0 := Qb.fz hq1 0
    have f1 := Qb.fz hq1 1
    have HOWN := Aside0.mk hown
    have HIT := Aside0.mk hits
    have HB := Aside0.mk hb
    have HQ1 := Aside0.mk hq1
    have hg1 := blk_lt hq1
    clear HA hown hits hdist hb hq1
    go_upto_region 2 with (fail)
    obtain ⟨w2, e2⟩ : ∃ w2, w2 = (((w1.setCell ⟨g, 0, none⟩ (.slice (some ⟨w1.heap.size, 0, none⟩) (8) (8))).setCell ⟨g, 1, none⟩ (.int .i64 0)).alloc (.cells (mk0 (8)) 25)) := ⟨_, rfl⟩
    rw [← e2]
    have q2 : Qb w2 g (some ⟨w1.heap.size, 0, none⟩) (8) 0 xs.length (sz xs) items bound drops := by rw [e2]; exact blk_alloc (blk_put (blk_put HQ1.out 0 (.slice (some ⟨w1.heap.size, 0, none⟩) (8) (8)) rfl) 1 (.int .i64 0) rfl) _
    have r2 : w2.heap[w1.heap.size]? = some (.cells (mk0 (8)) 25 (0, 0)) := by
      rw [e2]
      have := blk_new ((w1.setCell ⟨g, 0, none⟩ (.slice (some ⟨w1.heap.size, 0, none⟩) (8) (8))).setCell ⟨g, 1, none⟩ (.int .i64 0)) (.cells (mk0 (8)) 25)
      simpa [World.setCell] using this
    have o2 : w2.ownsRow w.heap.size 25 3 v xs.length cells := by
      rw [e2]
      have hne := own_ne HOWN.out HQ1.out (by decide)
      exact (own_setCell (own_setCell HOWN.out hne _) hne _).alloc _
    have E2 := Aside0.mk e2
    have R2 := Aside0.mk r2
    have O2 := Aside0.mk o2
    have k0 := Qb.c0 q2
    have hsz := mk0_size (8)
    have HSZ := Aside0.mk hsz
    clear e2 r2 o2 q2 c0 c1 f0 f1 hsz
    have hcp := run_copy_items w2 42 3 Try.underlying42 w1.heap.size (8) (8) w.heap.size xs.length (mk0 (8)) v cells 25 R2.out O2.out (by omega) (by rw [HSZ.out]; omega) (cells_one HIT.out HOWN.out.1)
    have E3 := fun w3 (e3 : w3 = w2.setRow w1.heap.size (cells ++ (mk0 (8)).toList.drop (xs.length * 3)).toArray) => grow_end (nn := 8) (v := v) (by omega) (by omega) HQ.out HB.out HIT.out HOWN.out.1 E2.out e3
    have HE3 := Aside0.mk E3
    clear E3
    generalize w2.setRow w1.heap.size (cells ++ (mk0 (8)).toList.drop (xs.length * 3)).toArray = w3 at hcp HE3
    go_wp2
    go_end0
    exact ⟨rfl, HE3.out _ rfl⟩
end Go.Proofs.Ytballojildjbhaa.F
