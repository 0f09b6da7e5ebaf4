/- fifo.Queue: what Clear answers and leaves; conditions: the queue lies in memory. -/
import Derived.Test.YtballojildjbhaaQI
namespace Go.Proofs.Ytballojildjbhaa.F
open Go Go.RowKit Go.Proofs.YtballojildjbhaaW.PrintWords Go.Proofs.YtballojildjbhaaW.PrintLast Go.Proofs.YtballojildjbhaaW.PrintMore
set_option linter.unusedVariables false
set_option linter.unusedSimpArgs false

theorem mem_zeroCells {z : Array Value} {n : Nat} (hz : 0 < z.size) {v : Value} (h : v ∈ (Builtin.zeroCells z n).toList) : v ∈ z.toList := by
  simp only [Builtin.zeroCells, Array.toList_map, List.mem_map] at h
  obtain ⟨i, _, rfl⟩ := h
  have hi : i % z.size < z.size := Nat.mod_lt _ hz
  rw [getElem!_pos z _ hi]
  exact Array.getElem_mem_toList hi
theorem size_zeroCells (z : Array Value) (n : Nat) : (Builtin.zeroCells z n).size = n * z.size := by simp [Builtin.zeroCells]

theorem run_clear_items (w : World) (ty : TypeId) (r len cap : Nat) (cs : Array Value) (h0 : 0 < len) (hg : w.heap[r]? = some (.cells cs 25 (0, 0))) (hs : cs.size = len * 3) :
    (Builtin.clear_ #[42] ty #[.slice (some ⟨r, 0, none⟩) len cap]).run Try.prog w = .ok (.tuple #[]) (w.setRow r (Builtin.zeroCells #[.int .u64 0, .int .i64 0, .slice none 0 0] len)) := by
  obtain ⟨k, rfl⟩ : ∃ k, len = k + 1 := ⟨len - 1, by omega⟩
  obtain ⟨i0, hi, hz0, hz1, hz2⟩ := info_parts info_item
  have hsz : (Builtin.zeroCells #[.int .u64 0, .int .i64 0, .slice none 0 0] (k + 1)).toList.length = (k + 1) * 3 := by rw [Array.length_toList, size_zeroCells]; rfl
  have hst := run_storeCells_at Try.prog r 0 25 (Builtin.zeroCells #[.int .u64 0, .int .i64 0, .slice none 0 0] (k + 1)).toList 0 cs w hg (by rw [hsz]; omega) (by
    intro v hv
    have := mem_zeroCells (by decide) hv
    simp at this
    rcases this with rfl | rfl | rfl <;> rfl)
  have hd : cs.toList.drop (0 + 0 + (Builtin.zeroCells #[.int .u64 0, .int .i64 0, .slice none 0 0] (k + 1)).toList.length) = [] := List.drop_eq_nil_of_le (by rw [hsz, Array.length_toList]; omega)
  rw [hd] at hst
  simp only [Nat.add_zero, List.take_zero, List.nil_append, List.append_nil, Array.toArray_toList] at hst
  have hzc : (Value.agg #[.int .u64 0, .int .i64 0, .slice none 0 0]).cells = #[.int .u64 0, .int .i64 0, .slice none 0 0] := rfl
  have hu := run_underlying (w := w) (P := Try.prog) Try.underlying42
  simp [Builtin.clear_, hu, zeroValue, typeInfo, hi, hz0, hzc, hst]

set_option maxHeartbeats 1000000 in
theorem clear_some (D : Nat → Prop) (g : Nat) (x : It) (xs : List It) (items bound drops : Int) (w : World) (h : Fq w D g (x :: xs) items bound drops) :
    Calls Try.prog 33 #[.pointer (some ⟨g, 0, none⟩)] w fun e w' => e = .returned (.int .i64 (xs.length + 1)) ∧ Fq w' D g [] items bound drops ∧ KeepD w w' D := by
  have HL := Aside0.mk (len_any D g _ items bound drops _ h)
  obtain ⟨hDg, A0, len, fr, hq, h | ⟨r, cs, rfl, hr, hh, hsz, hf, hle, hlen, hit⟩⟩ := h
  · exact absurd h.2.2.2 (by simp)
  have hcl := fun ty => run_clear_items w ty r len len cs (by omega) hh hsz
  have hne : r ≠ g := blk_ne hh hq (by decide)
  have hz : (Builtin.zeroCells #[.int .u64 0, .int .i64 0, .slice none 0 0] len).size = len * 3 := size_zeroCells _ _
  have hpos : 0 < (xs.length : Int) + 1 := by omega
  generalize Builtin.zeroCells #[.int .u64 0, .int .i64 0, .slice none 0 0] len = Z at *
  have q1 : (w.setRow r Z).heap[g]? = _ := (row_far (Ne.symm hne)).trans hq
  have r1 := setRow_heap_same (cs' := Z) hh
  have hs1 : (w.setRow r Z).heap.size = w.heap.size := by simp [World.setRow]
  have hk1 : KeepD w (w.setRow r Z) (fun k => k = g ∨ k = r) := ⟨rfl, rfl, rfl, Nat.le_of_eq hs1.symm, fun k _ hn => row_far fun e => hn (.inr e)⟩
  generalize w.setRow r Z = w1 at *
  have c0 := Qb.c0 hq
  have k1 := Qb.c1 q1
  have k2 := Qb.c2 q1
  have k3 := Qb.c3 q1
  have f1 := Qb.fz q1 1
  have f2 := Qb.fz q1 2
  have f3 := Qb.fz q1 3
  have Q1 := Aside0.mk q1
  have R1 := Aside0.mk r1
  have HK := Aside0.mk hk1
  have HZ := Aside0.mk hz
  have HLE := Aside0.mk hle
  clear q1 r1 hk1 hz hh hq hit hsz hle
  go_enter Try.func33, Try.ntmps33
  go_wp2_with fail
  refine HL.out.mono ?_
  rintro e w2 ⟨rfl, rfl⟩
  clear HL
  go_wp2
  go_ret
  have q2 : Qb (((w1.setCell ⟨g, 1, none⟩ (.int .i64 0)).setCell ⟨g, 2, none⟩ (.int .i64 0)).setCell ⟨g, 3, none⟩ (.int .i64 0)) g (some ⟨r, 0, none⟩) len 0 0 0 items bound drops := blk_put (blk_put (blk_put Q1.out 1 _ rfl) 2 _ rfl) 3 _ rfl
  have r2 := blk_far (blk_far (blk_far R1.out (p := ⟨g, 1, none⟩) hne (.int .i64 0)) (p := ⟨g, 2, none⟩) hne (.int .i64 0)) (p := ⟨g, 3, none⟩) hne (.int .i64 0)
  refine ⟨rfl, ⟨hDg, _, len, 0, q2, .inr ⟨r, Z, rfl, hr, r2, HZ.out, by omega, Nat.zero_le _, hlen, fun i y hy => by simp at hy⟩⟩, ?_⟩
  exact (((HK.out.set_ (g := g) (i := 1) (v := .int .i64 0) (.inr (.inl rfl))).set_ (g := g) (i := 2) (v := .int .i64 0) (.inr (.inl rfl))).set_ (g := g) (i := 3) (v := .int .i64 0) (.inr (.inl rfl))).mono fun k hk => by rcases hk with rfl | rfl; exact hDg; exact hr
end Go.Proofs.Ytballojildjbhaa.F
