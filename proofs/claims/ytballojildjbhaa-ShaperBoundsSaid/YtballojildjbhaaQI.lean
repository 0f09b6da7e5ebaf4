/- fifo.Queue: what New, Clear answer and leave, and Push where it drops; conditions: the queue lies in memory. -/
import Derived.Test.YtballojildjbhaaQH
namespace Go.Proofs.Ytballojildjbhaa.F
open Go Go.RowKit Go.Proofs.YtballojildjbhaaW.PrintWords Go.Proofs.YtballojildjbhaaW.PrintLast Go.Proofs.YtballojildjbhaaW.PrintMore
set_option linter.unusedVariables false
set_option linter.unusedSimpArgs false

theorem room_any (D : Nat → Prop) (g : Nat) (xs : List It) (items bound drops q : Int) (w : World) (h : Fq w D g xs items bound drops) (ho : Ok xs items bound drops) :
    Calls Try.prog 49 #[.pointer (some ⟨g, 0, none⟩), .int .i64 q] w fun e w' => e = .returned (.bool (roomB xs.length items (sz xs) bound q)) ∧ Below w.heap.size w w' := by
  obtain ⟨_, A, len, fr, hb, _⟩ := h
  exact room_qb _ _ _ _ _ _ _ _ _ _ _ hb (sz_nonneg ho.pos) ho.size ho.bound
set_option maxHeartbeats 400000 in
theorem room_nil (q : Int) (w : World) :
    Calls Try.prog 49 #[.pointer none, .int .i64 q] w fun e w' => e = .returned (.bool false) ∧ Below w.heap.size w w' := by
  go_enter Try.func49, Try.ntmps49
  go_wp2
  go_quiet (fail)
  go_wp2
  go_ret
  exact ⟨by simp, pw_below_drewN (Below.refl _ _) _⟩
theorem all_nil (w : World) : Calls Try.prog 32 #[.pointer none] w fun e w' => e = .returned (.slice none 0 0) ∧ w = w' := by
  go_enter Try.func32, Try.ntmps32
  go_wp2
  go_ret
  exact ⟨rfl, rfl⟩
theorem clear_none (p : Option Addr) (w : World) (h : Empty w p) : Calls Try.prog 33 #[.pointer p] w fun e w' => e = .returned (.int .i64 0) ∧ w = w' := by
  have HC := Aside0.mk h.len
  clear h
  go_enter Try.func33, Try.ntmps33
  go_wp2_with fail
  refine HC.out.mono ?_
  rintro e w1 ⟨rfl, rfl⟩
  go_wp2
  go_ret
  exact ⟨rfl, rfl⟩
theorem push_nil (x : Value) (no size : Int) (A : Option Addr) (n c : Nat) (w : World) : Calls Try.prog 28 #[.pointer none, .agg #[.int .u64 no, .int .i64 size, .slice A n c]] w fun e w' => e = .returned (.int .i64 1) ∧ Below w.heap.size w w' := by
  go_enter Try.func28, Try.ntmps28
  go_wp2
  go_ret
  exact ⟨rfl, below_alloc (Below.refl _ _) _⟩

def newB (items size : Int) : Bool := decide (items < 0) || (decide (size < 0) || decide (65536 < items))
set_option maxHeartbeats 400000 in
theorem new_no (items size : Int) (w : World) (h : newB items size = true) : Calls Try.prog 34 #[.int .i64 items, .int .i64 size] w fun e w' => e = .returned (.tuple #[.pointer none, .int .i64 2]) ∧ w = w' := by
  unfold newB at h
  by_cases h1 : items < 0
  · go_enter Try.func34, Try.ntmps34
    go_wp2
    go_ret2
    exact ⟨rfl, rfl⟩
  · by_cases h2 : size < 0
    · go_enter Try.func34, Try.ntmps34
      go_wp2
      go_ret2
      exact ⟨rfl, rfl⟩
    · have h3 : 65536 < items := by
        simp [h1, h2] at h
        exact h
      clear h
      go_enter Try.func34, Try.ntmps34
      go_wp2
      go_ret2
      exact ⟨rfl, rfl⟩
set_option maxHeartbeats 400000 in
theorem new_ok (items size : Int) (w : World) (h : newB items size = false) : Calls Try.prog 34 #[.int .i64 items, .int .i64 size] w fun e w' => e = .returned (.tuple #[.pointer (some ⟨w.heap.size, 0, none⟩), .int .i64 0]) ∧
    Fq w' (fun k => k = w.heap.size) w.heap.size [] items size 0 ∧ Below w.heap.size w w' := by
  unfold newB at h
  simp only [Bool.or_eq_false_iff, decide_eq_false_iff_not] at h
  obtain ⟨h1, h2, h3⟩ := h
  go_enter Try.func34, Try.ntmps34
  go_wp2
  go_ret2
  exact ⟨rfl, ⟨rfl, none, 0, 0, blk_new _ _, .inl ⟨rfl, rfl, rfl, rfl⟩⟩, below_alloc (Below.refl _ _) _⟩

set_option maxHeartbeats 400000 in
theorem push_arg (g : Nat) (no size : Int) (A : Option Addr) (n c : Nat) (w : World) (hs : size < 0) : Calls Try.prog 28 #[.pointer (some ⟨g, 0, none⟩), .agg #[.int .u64 no, .int .i64 size, .slice A n c]] w fun e w' => e = .returned (.int .i64 2) ∧ Below w.heap.size w w' := by
  go_enter Try.func28, Try.ntmps28
  go_wp2
  go_ret
  exact ⟨rfl, below_alloc (Below.refl _ _) _⟩

set_option maxHeartbeats 400000 in
theorem push_drop (D : Nat → Prop) (g : Nat) (xs : List It) (items bound drops : Int) (no size : Int) (A : Option Addr) (n c : Nat) (w : World) (h : Fq w D g xs items bound drops) (ho : Ok xs items bound drops) (hs : 0 ≤ size)
    (hr : roomB xs.length items (sz xs) bound size = false) (hd : drops < 18446744073709551615) :
    Calls Try.prog 28 #[.pointer (some ⟨g, 0, none⟩), .agg #[.int .u64 no, .int .i64 size, .slice A n c]] w fun e w' => e = .returned (.int .i64 110) ∧ Fq w' D g xs items bound (drops + 1) ∧ KeepD w w' D := by
  have HR := Aside0.mk (fun W (hb : Below w.heap.size w W) => room_any D g xs items bound drops size W (h.below hb) ho)
  rw [hr] at HR
  have HQ := Aside0.mk h
  have hdr := ho.drops.1
  clear h ho hr
  go_enter Try.func28, Try.ntmps28
  go_wp2_with fail
  refine (HR.out _ (below_alloc (Below.refl _ _) _)).mono ?_
  rintro e w1 ⟨rfl, hb⟩
  obtain ⟨hDg, A0, len, fr, hq, hring⟩ := HQ.out
  have hg := blk_lt hq
  have hq1 := blk_below (blk_alloc hq (.cells #[.int .u64 no, .int .i64 size, .slice A n c] 25)) hb
  have c6 := Qb.c6 hq1
  have f6 := Qb.fz hq1 6
  have HB := Aside0.mk hb
  have HQ1 := Aside0.mk hq1
  have HRI := Aside0.mk hring
  have HQ0 := Aside0.mk hq
  have hsz := hb.size
  rw [World.size_alloc] at hsz
  clear hb hq1 hring hq
  go_wp2
  go_ret
  have hbb := below_step (below_alloc (Below.refl _ w) (.cells #[.int .u64 no, .int .i64 size, .slice A n c] 25)) HB.out
  have hk : KeepD w (w1.setCell ⟨g, 6, none⟩ (.int .u64 (drops + 1))) (fun k => k = g) := (KeepD.of_below hbb _).set_ (.inr rfl)
  refine ⟨rfl, ⟨hDg, A0, len, fr, blk_put HQ1.out 6 _ rfl, ?_⟩, hk.mono fun k e => e ▸ hDg⟩
  rcases HRI.out with h | ⟨r, cs, h1, h2, h3, h4, h5, h6, h7, h8⟩
  · exact .inl h
  · have hne : r ≠ g := blk_ne h3 HQ0.out (by decide)
    exact .inr ⟨r, cs, h1, h2, (hk.block r (blk_lt h3) hne).trans h3, h4, h5, h6, h7, fun i x hx => (h8 i x hx).step fun k hu hD => ⟨hk.block k hu.lt (hu.ne_ HQ0.out (by decide)), hD⟩⟩
end Go.Proofs.Ytballojildjbhaa.F
