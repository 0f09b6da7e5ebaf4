/- fifo.Queue: what Item.copied and Head answer; conditions: the item, the queue lie in memory. -/
import Derived.Test.YtballojildjbhaaQB
namespace Go.Proofs.Ytballojildjbhaa.F
open Go.RowKit Go.Proofs.YtballojildjbhaaW.PrintWords Go.Proofs.YtballojildjbhaaW.PrintLast Go.Proofs.YtballojildjbhaaW.PrintMore
set_option linter.unusedVariables false
set_option linter.unusedSimpArgs false

theorem Dat.new {W W2 : World} {B : Nat} {A : Option Addr} {n : Nat} {l : List UInt8} (h : Dat W (fun k => B ≤ k ∧ U8 W k) A n l) {B2 : Nat} (hB : B2 ≤ B)
    (hk : ∀ k, B ≤ k → U8 W k → W2.heap[k]? = W.heap[k]?) : Dat W2 (fun k => B2 ≤ k ∧ U8 W2 k) A n l :=
  h.step fun k _ hD => ⟨hk k hD.1 hD.2, Nat.le_trans hB hD.1, hD.2.same (hk k hD.1 hD.2)⟩
theorem Dat.newBelow {W W2 : World} {B : Nat} {A : Option Addr} {n : Nat} {l : List UInt8} (h : Dat W (fun k => B ≤ k ∧ U8 W k) A n l) (hb : Below W.heap.size W W2) : Dat W2 (fun k => B ≤ k ∧ U8 W2 k) A n l :=
  h.step fun k hk hD => ⟨hb.block k hk, hD.1, hD.2.same (hb.block k hk)⟩
theorem Dat.below {W W' : World} {D : Nat → Prop} {A : Option Addr} {n : Nat} {l : List UInt8} (h : Dat W D A n l) (hb : Below W.heap.size W W') : Dat W' D A n l :=
  h.step fun k hk hD => ⟨hb.block k hk, hD⟩
theorem Dat.more {W : World} {D D' : Nat → Prop} {A : Option Addr} {n : Nat} {l : List UInt8} (h : Dat W D A n l) (hD : ∀ k, D k → D' k) : Dat W D' A n l :=
  h.step fun k hk h => ⟨rfl, hD k h⟩

theorem cells3 {W : World} {g : Nat} {a b c : Value} {t : TypeId} (h : W.heap[g]? = some (.cells #[a, b, c] t (0, 0))) :
    W.cell? ⟨g, 0, none⟩ = some a ∧ W.cell? ⟨g, 1, none⟩ = some b ∧ W.cell? ⟨g, 2, none⟩ = some c ∧
    W.frozen? ⟨g, 0, none⟩ = false ∧ W.frozen? ⟨g, 1, none⟩ = false ∧ W.frozen? ⟨g, 2, none⟩ = false :=
  ⟨(blk_cell h 0).trans rfl, (blk_cell h 1).trans rfl, (blk_cell h 2).trans rfl, blk_frozen h 0, blk_frozen h 1, blk_frozen h 2⟩
theorem set3 {W : World} {g : Nat} {a b c a' b' c' : Value} {t : TypeId} (h : W.heap[g]? = some (.cells #[a, b, c] t (0, 0))) :
    (((W.setCell ⟨g, 0, none⟩ a').setCell ⟨g, 1, none⟩ b').setCell ⟨g, 2, none⟩ c').heap[g]? = some (.cells #[a', b', c'] t (0, 0)) :=
  blk_put (blk_put (blk_put h 0 a' rfl) 1 b' rfl) 2 c' rfl

set_option maxHeartbeats 400000 in
theorem copied_any (D : Nat → Prop) (A : Option Addr) (n c : Nat) (l : List UInt8) (no size : Int) (w : World) (h : Dat w D A n l) (hl : l.length ≤ 65536) :
    Calls Try.prog 51 #[.agg #[.int .u64 no, .int .i64 size, .slice A n c]] w fun e w' => ∃ A' c', e = .returned (.agg #[.int .u64 no, .int .i64 size, .slice A' n c']) ∧ Dat w' (fun k => w.heap.size ≤ k ∧ U8 w' k) A' n l ∧ Below w.heap.size w w' := by
  have HC := Aside0.mk (fun W (hb : Below w.heap.size w W) => clone_any D A n c l W (h.below hb) hl)
  clear h
  go_enter Try.func51, Try.ntmps51
  go_wp2_with fail
  refine (HC.out _ (below_alloc (below_alloc (Below.refl _ _) _) _)).mono ?_
  rintro e w1 ⟨A', c', rfl, hd, hb⟩
  have b1 := blk_below (blk_alloc (blk_new w (.cells #[.int .u64 no, .int .i64 size, .slice A n c] 25)) (.cells #[.int .u64 0, .int .i64 0, .slice none 0 0] 25)) hb
  have b2 := blk_below (blk_new (w.alloc (.cells #[.int .u64 no, .int .i64 size, .slice A n c] 25)) (.cells #[.int .u64 0, .int .i64 0, .slice none 0 0] 25)) hb
  rw [World.size_alloc] at b2
  obtain ⟨x0, x1, x2, y0, y1, y2⟩ := cells3 b1
  obtain ⟨u0, u1, u2, v0, v1, v2⟩ := cells3 b2
  have hz := hb.size
  rw [World.size_alloc, World.size_alloc] at hz
  have HD := Aside0.mk hd
  have HB := Aside0.mk hb
  have B1 := Aside0.mk b1
  have B2 := Aside0.mk b2
  clear hd hb b1 b2
  go_wp2
  have hk : ∀ k, k < w.heap.size → (w1.setCell ⟨w.heap.size, 2, none⟩ (.slice A' n c')).heap[k]? = w1.heap[k]? := fun k hk => Below.heap_setCell _ _ _ _ (by show k ≠ w.heap.size; omega)
  have b1 := blk_put B1.out 2 (.slice A' n c') rfl
  have b2 : (w1.setCell ⟨w.heap.size, 2, none⟩ (.slice A' n c')).heap[w.heap.size + 1]? = _ := blk_far B2.out (by show w.heap.size + 1 ≠ w.heap.size; omega) _
  have b3 := set3 (a' := .int .u64 no) (b' := .int .i64 size) (c' := .slice A' n c') b2
  refine bodyPost_ret (v := .agg #[.int .u64 no, .int .i64 size, .slice A' n c']) (results_cell_row Try.results51 _ _ (w.heap.size + 1) _ _ _ _ rfl b3 Try.underlying25 rfl (by kernel_rfl)) rfl ⟨A', c', rfl, ?_, ?_⟩
  · refine HD.out.new (by simp; omega) fun k hk _ => ?_
    simp at hk
    rw [heap_far (by omega), heap_far (by omega), heap_far (by omega), heap_far (by omega)]
  · have := below_step (below_alloc (below_alloc (Below.refl _ w) _) _) HB.out
    exact below_set (below_set (below_set (below_set this (Nat.le_refl _)) (Nat.le_succ _)) (Nat.le_succ _)) (Nat.le_succ _)

/-! ### Head -/
set_option maxHeartbeats 400000 in
theorem len_nil (w : World) : Calls Try.prog 58 #[.pointer none] w fun e w' => e = .returned (.int .i64 0) ∧ w = w' := by
  go_enter Try.func58, Try.ntmps58
  go_wp2
  go_ret
  exact ⟨rfl, rfl⟩

/-- Len answers 0: the queue isn't there, or is empty. -/
def Empty (W : World) (p : Option Addr) : Prop :=
  p = none ∨ ∃ g A len fr size items bound drops, p = some ⟨g, 0, none⟩ ∧ Qb W g A len fr 0 size items bound drops
theorem Empty.len {W : World} {p : Option Addr} (h : Empty W p) : Calls Try.prog 58 #[.pointer p] W fun e w' => e = .returned (.int .i64 0) ∧ W = w' := by
  rcases h with rfl | ⟨g, A, len, fr, size, items, bound, drops, rfl, hb⟩
  · exact len_nil W
  · exact len_qb _ _ _ _ _ _ _ _ _ _ hb
theorem Empty.below {W W' : World} {p : Option Addr} (h : Empty W p) (hb : Below W.heap.size W W') : Empty W' p := by
  rcases h with rfl | ⟨g, A, len, fr, size, items, bound, drops, rfl, hq⟩
  · exact .inl rfl
  · exact .inr ⟨g, A, len, fr, size, items, bound, drops, rfl, blk_below hq hb⟩

set_option maxHeartbeats 400000 in
theorem head_none (p : Option Addr) (w : World) (h : Empty w p) :
    Calls Try.prog 47 #[.pointer p] w fun e w' => e = .returned (.tuple #[.agg #[.int .u64 0, .int .i64 0, .slice none 0 0], .bool false]) ∧ Below w.heap.size w w' := by
  have HC := Aside0.mk (fun W (hb : Below w.heap.size w W) => (h.below hb).len)
  clear h
  go_enter Try.func47, Try.ntmps47
  go_wp2_with fail
  refine (HC.out _ (below_alloc (Below.refl _ _) _)).mono ?_
  rintro e w1 ⟨rfl, rfl⟩
  go_wp2
  exact bodyPost_ret (v := .tuple #[.agg #[.int .u64 0, .int .i64 0, .slice none 0 0], .bool false]) (by simp [results, Try.results47, go_sem]) rfl ⟨rfl, below_alloc (Below.refl _ _) _⟩

/-- place of an item that is there. -/
theorem place_any (D : Nat → Prop) (g i : Nat) (x : It) (xs : List It) (items bound drops : Int) (w : World) (h : Fq w D g xs items bound drops) (hx : xs[i]? = some x) :
    Calls Try.prog 52 #[.pointer (some ⟨g, 0, none⟩), .int .i64 i] w fun e w' => ∃ r p A n c, e = .returned (.pointer (some ⟨r, p, none⟩)) ∧ Below w.heap.size w w' ∧
      (w'.cell? ⟨r, p, none⟩ = some (.int .u64 x.no) ∧ w'.cell? ⟨r, p + 1, none⟩ = some (.int .i64 x.size) ∧ w'.cell? ⟨r, p + 2, none⟩ = some (.slice A n c)) ∧ Dat w' D A n x.data := by
  obtain ⟨hD, A0, len, fr, hb, h | ⟨r, cs, rfl, hr, hh, hsz, hf, hle, hl, hit⟩⟩ := h
  · rw [h.2.2.2] at hx; cases hx
  · obtain ⟨A, n, c, e0, e1, e2, hd⟩ := hit i x hx
    have hi : i < xs.length := (List.getElem?_eq_some_iff.1 hx).1
    refine (place_qb g r len fr i _ _ _ _ _ w hb hl hf (by omega)).mono ?_
    rintro e w' ⟨rfl, hb'⟩
    have hh' := blk_below hh hb'
    rw [Nat.mul_comm] at e0 e1 e2
    exact ⟨r, _, A, n, c, rfl, hb', ⟨(blk_cell hh' _).trans e0, (blk_cell hh' _).trans e1, (blk_cell hh' _).trans e2⟩, (hd.more fun k h => h.1).below hb'⟩

theorem place_zero (D : Nat → Prop) (g : Nat) (x : It) (xs : List It) (items bound drops : Int) (w : World) (h : Fq w D g (x :: xs) items bound drops) :
    Calls Try.prog 52 #[.pointer (some ⟨g, 0, none⟩), .int .i64 0] w fun e w' => ∃ r p A n c, e = .returned (.pointer (some ⟨r, p, none⟩)) ∧ Below w.heap.size w w' ∧
      (w'.cell? ⟨r, p, none⟩ = some (.int .u64 x.no) ∧ w'.cell? ⟨r, p + 1, none⟩ = some (.int .i64 x.size) ∧ w'.cell? ⟨r, p + 2, none⟩ = some (.slice A n c)) ∧ Dat w' D A n x.data :=
  place_any D g 0 x (x :: xs) items bound drops w h rfl

set_option maxHeartbeats 400000 in
theorem head_some (D : Nat → Prop) (g : Nat) (x : It) (xs : List It) (items bound drops : Int) (w : World) (h : Fq w D g (x :: xs) items bound drops) (hl : x.data.length ≤ 65536) :
    Calls Try.prog 47 #[.pointer (some ⟨g, 0, none⟩)] w fun e w' => ∃ A n c, e = .returned (.tuple #[.agg #[.int .u64 x.no, .int .i64 x.size, .slice A n c], .bool true]) ∧ Dat w' (fun k => w.heap.size ≤ k ∧ U8 w' k) A n x.data ∧ Below w.heap.size w w' := by
  have HQ := Aside0.mk h
  have HL := Aside0.mk hl
  have hmf : ∀ (fn : Fn) (first cap : Array Value) (w : World), (Instr.makeFunc fn first cap).run Try.prog w = .ok (.func fn first cap) w := fun _ _ _ _ => rfl
  have hne : (((xs.length : Int) + 1) == 0) = false := by rw [beq_eq_false_iff_ne]; omega
  clear h hl
  go_enter Try.func47, Try.ntmps47
  go_wp2_with fail
  refine (len_any D g _ items bound drops _ (HQ.out.below (below_alloc (Below.refl _ _) _))).mono ?_
  rintro e w1 ⟨rfl, rfl⟩
  go_wp2_with fail
  refine (place_zero D g x xs items bound drops _ (HQ.out.below (below_alloc (Below.refl _ _) _))).mono ?_
  rintro e w2 ⟨r, p, A, n, c, rfl, hb2, ⟨x0, x1, x2⟩, hd⟩
  obtain ⟨u0, u1, u2, v0, v1, v2⟩ := cells3 (blk_below (blk_new _ _) hb2)
  have HB2 := Aside0.mk hb2
  have HD := Aside0.mk hd
  clear hb2 hd
  go_wp2_with fail
  refine (copied_any D A n c x.data x.no x.size _ HD.out HL.out).mono ?_
  rintro e w3 ⟨A', c', rfl, hd3, hb3⟩
  have B3 := Aside0.mk (blk_below (blk_below (blk_new _ _) HB2.out) hb3)
  obtain ⟨u0, u1, u2, v0, v1, v2⟩ := cells3 B3.out
  have HB3 := Aside0.mk hb3
  have HD3 := Aside0.mk hd3
  clear hb3 hd3
  go_wp2
  have hz : w.heap.size + 1 ≤ w2.heap.size := by have := HB2.out.size; rwa [World.size_alloc] at this
  have b4 := set3 (a' := .int .u64 x.no) (b' := .int .i64 x.size) (c' := .slice A' n c') B3.out
  obtain ⟨u0, u1, u2, v0, v1, v2⟩ := cells3 b4
  refine bodyPost_ret (v := .tuple #[.agg #[.int .u64 x.no, .int .i64 x.size, .slice A' n c'], .bool true]) (by simp [results, Try.results47, go_sem, u0, u1, u2]) rfl ⟨A', n, c', rfl, ?_, ?_⟩
  · refine HD3.out.new (by omega) fun k hk _ => ?_
    rw [heap_far (by omega), heap_far (by omega), heap_far (by omega)]
  · have := below_step (below_step (below_alloc (Below.refl _ w) _) HB2.out) HB3.out
    exact below_set (below_set (below_set this (Nat.le_refl _)) (Nat.le_refl _)) (Nat.le_refl _)
end Go.Proofs.Ytballojildjbhaa.F
