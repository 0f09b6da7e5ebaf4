/- fifo.Queue: what place, slices.Clone, Item.copied answer; conditions: the queue, the bytes lie in memory. -/
import Derived.Test.YtballojildjbhaaQA
namespace Go.Proofs.Ytballojildjbhaa.F
open Go.RowKit Go.Proofs.YtballojildjbhaaW.PrintWords Go.Proofs.YtballojildjbhaaW.PrintLast Go.Proofs.YtballojildjbhaaW.PrintMore
set_option linter.unusedVariables false
set_option linter.unusedSimpArgs false

set_option maxHeartbeats 400000 in
theorem place_qb (g r len fr i : Nat) (many size items bound drops : Int) (w : World) (h : Qb w g (some ⟨r, 0, none⟩) len fr many size items bound drops)
    (hl : len ≤ 131072) (hf : fr < len) (hi : i < len) :
    Calls Try.prog 52 #[.pointer (some ⟨g, 0, none⟩), .int .i64 i] w fun e w' => e = .returned (.pointer (some ⟨r, (fr + i) % len * 3, none⟩)) ∧ Below w.heap.size w w' := by
  have c0 := h.c0
  have c1 := h.c1
  clear h
  have hw : IntKind.i64.wrap ((fr : Int) + i) = ((fr + i : Nat) : Int) := by rw [IntWalk.i64_in _ (by omega)]; omega
  have hm : ((fr + i : Nat) : Int).tmod len = (((fr + i) % len : Nat) : Int) := by
    rw [Int.tmod_eq_emod_of_nonneg (by omega)]; exact (Int.natCast_emod _ _).symm
  have hlt : (fr + i) % len < len := Nat.mod_lt _ (by omega)
  have hpos : ¬ (len : Int) = 0 := by omega
  generalize hk : (fr + i) % len = k at *
  clear hk
  generalize hs : fr + i = s at *
  have hlt' : (k : Int) < len := by omega
  have hk0 : (0 : Int) ≤ k := by omega
  clear hf hi
  go_enter Try.func52, Try.ntmps52
  go_wp2
  go_quiet (fail)
  go_wp2
  go_ret
  exact ⟨rfl, pw_below_drewN (Below.refl _ _) _⟩

theorem info_u8 : (Try.prog.info? 5).map (fun i => (i.zero, i.size, i.bytes)) = some (some (.int .u8 0), 1, 1) := by kernel_rfl

set_option maxHeartbeats 400000 in
theorem clone_nil (n c : Nat) (w : World) :
    Calls Try.prog 65 #[.slice none n c] w fun e w' => e = .returned (.slice none 0 0) ∧ w = w' := by
  have he := Lib.run_eql_slice_nil (P := Try.prog) w 23 5 none n c 0 0 Try.underlying23
  go_enter Try.func65, Try.ntmps65
  go_wp2
  go_ret
  exact ⟨rfl, rfl⟩

theorem dat_of_own {w1 : World} {base n : Nat} {v1 : Value} {l : List UInt8} (h : w1.ownsRow base 5 1 v1 (0 + n) ([] ++ l.map byteV)) (hn : n = l.length) :
    ∃ A' c', v1 = .slice A' n c' ∧ Dat w1 (fun k => base ≤ k ∧ U8 w1 k) A' n l := by
  obtain ⟨_, h | ⟨g, cap, cur, rfl, hg, hb, hle, _, hs, ht⟩⟩ := h
  · obtain ⟨rfl, h0⟩ := h
    obtain rfl : n = 0 := by omega
    exact ⟨none, 0, rfl, hn, fun h => absurd h (by omega)⟩
  · refine ⟨some ⟨g, 0, none⟩, cap, by rw [Nat.zero_add], hn, fun _ => ⟨_, rfl, ⟨hg, cur, hb⟩, fun j x hx => ?_⟩⟩
    have hj : j < l.length := (List.getElem?_eq_some_iff.1 hx).1
    have e : (⟨g, 0, none⟩ : Addr).add j = ⟨g, j, none⟩ := by unfold Addr.add; split <;> simp_all
    rw [e, blk_cell hb j, ← Array.getElem?_toList]
    have : (cur.toList.take ((0 + n) * 1))[j]? = some (byteV x) := by rw [ht, List.nil_append, List.getElem?_map, hx]; rfl
    rw [List.getElem?_take] at this
    split at this
    · exact this
    · cases this

set_option maxHeartbeats 400000 in
theorem clone_some (D : Nat → Prop) (ad : Addr) (n c : Nat) (l : List UInt8) (w : World) (h : Dat w D (some ad) n l) (hl : l.length ≤ 65536) :
    Calls Try.prog 65 #[.slice (some ad) n c] w fun e w' => ∃ A' c', e = .returned (.slice A' n c') ∧ Dat w' (fun k => w.heap.size ≤ k ∧ U8 w' k) A' n l ∧ Below w.heap.size w w' := by
  obtain ⟨i0, hi, hz0, hz1, hz2⟩ := info_parts info_u8
  have he := Lib.run_eql_slice_nil (P := Try.prog) w 23 5 (some ad) n c 0 0 Try.underlying23
  go_enter Try.func65, Try.ntmps65
  have hc : ∀ j u, (l.map byteV)[j]? = some u → (w.alloc (Obj.cells #[] 5)).cell? (ad.add j) = some u := by
    intro j u hu
    rw [List.getElem?_map] at hu
    cases hx : l[j]? with
    | none => rw [hx] at hu; cases hu
    | some x =>
      rw [hx] at hu
      cases hu
      have hj : j < l.length := (List.getElem?_eq_some_iff.1 hx).1
      obtain ⟨ad', e, _, hc⟩ := h.2 (by have := h.1; omega)
      cases e
      have := hc j x hx
      obtain ⟨o, ho, _⟩ := cells_of_cell this
      exact (World.cell?_of_block (w := w) (Below.heap_alloc _ _ _ (blk_lt ho))).trans this
  have hown : (w.alloc (Obj.cells #[] 5)).ownsRow w.heap.size 5 1 (.slice (some ⟨w.heap.size, 0, none⟩) 0 0) 0 [] :=
    ⟨rfl, .inr ⟨w.heap.size, 0, #[], rfl, Nat.le_refl _, blk_new _ _, Nat.le_refl _, Nat.zero_le _, rfl, rfl⟩⟩
  have HN := Aside0.mk h.1
  go_wp2_with (first
    | (at_builtin
       refine wpList_append_own_at _ rfl (.tmp 5) (.tmp 6) _ rfl w.heap.size 5 i0 _ 1 1 Try.underlying23 hi hz0 hz1 hz2 rfl (by decide) (.slice (some ⟨w.heap.size, 0, none⟩) 0 0) 0 [] rfl hown ad n c (l.map byteV) rfl (by have := HN.out; simp; omega) hc (by intro u hu; obtain ⟨x, _, rfl⟩ := List.mem_map.1 hu; rfl) (by have := HN.out; unfold maxLen; omega) (by have := HN.out; omega) (by simp) ?_
       intro v1 w1 hown1 hg1 _ hat))
  go_ret
  have hb1 : Below w.heap.size w w1 := (below_alloc (Below.refl _ _) _).grown hg1 (by simp) (by intro k hk; simp [Value.ownBlock] at hk; omega)
  obtain ⟨A', c', e1, e2⟩ := dat_of_own hown1 HN.out
  exact ⟨A', c', congrArg Ending.returned e1, e2, hb1⟩

/-- slices.Clone: the same bytes, in new memory. -/
theorem clone_any (D : Nat → Prop) (A : Option Addr) (n c : Nat) (l : List UInt8) (w : World) (h : Dat w D A n l) (hl : l.length ≤ 65536) :
    Calls Try.prog 65 #[.slice A n c] w fun e w' => ∃ A' c', e = .returned (.slice A' n c') ∧ Dat w' (fun k => w.heap.size ≤ k ∧ U8 w' k) A' n l ∧ Below w.heap.size w w' := by
  cases A with
  | some ad => exact clone_some D ad n c l w h hl
  | none =>
    refine (clone_nil n c w).mono ?_
    rintro e w' ⟨rfl, rfl⟩
    have hn : n = 0 := by
      rcases Nat.eq_zero_or_pos n with h0 | h0
      · exact h0
      · obtain ⟨ad, e, _⟩ := h.2 h0; cases e
    subst hn
    exact ⟨none, 0, rfl, ⟨h.1, fun h0 => absurd h0 (by omega)⟩, Below.refl _ _⟩
end Go.Proofs.Ytballojildjbhaa.F
