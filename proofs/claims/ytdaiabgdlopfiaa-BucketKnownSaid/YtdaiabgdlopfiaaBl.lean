/- bucket.Bucket.fill: what it computes, its store; conditions: the block holds the four numbers, the numbers are of 64 bits. -/
import Derived.Test.YtdaiabgdlopfiaaBk
import Derived.StillTailTactics
namespace Go.Proofs.Ytdaiabgdlopfiaa.B
open Go.RowKit Go.Proofs.YtdaiabgdlopfiaaW.PrintWords Go.Proofs.YtdaiabgdlopfiaaW.PrintLast Go.Proofs.YtdaiabgdlopfiaaW.PrintMore
set_option linter.unusedVariables false
set_option linter.unusedSimpArgs false

set_option maxHeartbeats 400000 in
theorem fill_no (g : Nat) (s0 s1 s2 s3 t : Int) (w : World) (hI : Bk w g s0 s1 s2 s3) (hle : decide (t ≤ s2) = true) :
    Calls Try.prog 17 #[.pointer (some ⟨g, 0, none⟩), .int .u64 t] w fun e w' => e = .returned (.tuple #[]) ∧ Below w.heap.size w w' := by
  have hlt := blk_lt hI
  have c2 := cellS47_2 hI
  have HI := Aside0.mk hI
  clear hI
  go_enter_defers Try.func17, Try.ntmps17
  go_wp2
  go_quiet (fail)
  go_wp2
  exact ⟨_, results_none rfl _ _ _, rfl, pw_below_drewN (below_alloc (below_alloc (Below.refl _ _) _) _) _⟩

set_option maxHeartbeats 400000 in
theorem fill_closure (g bt bb : Nat) (s0 s1 s2 s3 t : Int) (u : FrameMode) (w : World) (hI : Bk w g s0 s1 s2 s3) (ct : w.cell? ⟨bt, 0, none⟩ = some (.int .u64 t)) (cb : w.cell? ⟨bb, 0, none⟩ = some (.pointer (some ⟨g, 0, none⟩))) :
    CallsD Try.prog 22 #[.pointer (some ⟨bt, 0, none⟩), .pointer (some ⟨bb, 0, none⟩)] u w fun e u' w' => u' = u ∧ (e = .returned (.tuple #[]) ∧ w.setCell ⟨g, 2, none⟩ (.int .u64 t) = w') := by
  have c2 := cellS47_2 hI
  have f2 := blk_frozen hI 2
  clear hI
  go_enter_d Try.func22, Try.ntmps22
  go_wp2
  go_end0
  exact ⟨rfl, rfl⟩

theorem grown_set {w W : World} {g : Nat} (h : w.grownBy W (some g)) (o : Nat) (v : Value) : w.grownBy (W.setCell ⟨g, o, none⟩ v) (some g) :=
  ⟨h.os, h.tape, h.output, by simpa [World.setCell] using h.size, fun k hk hne => (Below.heap_setCell W ⟨g, o, none⟩ v k (fun e => hne (by rw [e]))).trans (h.block k hk hne)⟩

theorem mul_any (a b : Int) (ha : 0 ≤ a ∧ a < 18446744073709551616) (hb : 0 ≤ b ∧ b < 18446744073709551616) (w : World) :
    Calls Try.prog 24 #[.int .u64 a, .int .u64 b] w fun e w' => e = .returned (.tuple #[.int .u64 (a * b / 18446744073709551616), .int .u64 (a * b % 18446744073709551616)]) ∧ w' = w := by
  obtain ⟨x, rfl⟩ := Int.eq_ofNat_of_zero_le ha.1
  obtain ⟨y, rfl⟩ := Int.eq_ofNat_of_zero_le hb.1
  have := Try.bits_Mul64 x y (by omega) (by omega) w
  rw [Int.natCast_ediv, Int.natCast_emod, Int.natCast_mul] at this
  exact this

set_option maxHeartbeats 400000 in
theorem fill_go (g : Nat) (s0 s1 s2 s3 t : Int) (w : World) (hI : Bk w g s0 s1 s2 s3) (u0 : 0 ≤ s0 ∧ s0 < 18446744073709551616) (h1 : s1 ≤ 18446744073709551615) (h3 : 0 ≤ s3) (hle : decide (t ≤ s2) = false) :
    Calls Try.prog 17 #[.pointer (some ⟨g, 0, none⟩), .int .u64 t] w fun e w' => e = .returned (.tuple #[]) ∧ Bk w' g s0 s1 t (mn s1 (s3 + s0 * IntKind.u64.wrap (t - s2))) ∧ w.grownBy w' (some g) := by
  have hmf : ∀ (fn : Fn) (first cap : Array Value) (w : World), (Instr.makeFunc fn first cap).run Try.prog w = .ok (.func fn first cap) w := fun _ _ _ _ => rfl
  have hlt := blk_lt hI
  have c0 := cellS47_0 hI
  have c2 := cellS47_2 hI
  have HI := Aside0.mk hI
  have HM := Aside0.mk (mul_any s0 (IntKind.u64.wrap (t - s2)) u0 (by simp only [IntKind.wrap_u64]; omega))
  have U0 := Aside0.mk u0
  have H1 := Aside0.mk h1
  have H3 := Aside0.mk h3
  clear hI u0 h1 h3
  go_enter_defers Try.func17, Try.ntmps17
  go_wp2
  go_quiet (fail)
  go_wp2
  obtain ⟨W, hW⟩ : ∃ W : World, W = (((w.alloc (Obj.cells #[Value.pointer (some { block := g, off := 0 })] 26)).alloc (Obj.cells #[Value.int IntKind.u64 t] 28)).drewN nq) := ⟨_, rfl⟩
  rw [← hW]
  refine wp_region_still_tail 14 (by kernel_rfl) (by kernel_rfl) ?_
  change wpStill _ _ W.drew (fun a' => wpList _ _ _ _ a' W.drew) _ _
  simp only [List.take_succ_cons, List.take_zero, List.drop_succ_cons, List.drop_zero]
  have b0 : W.cell? ⟨w.heap.size, 0, none⟩ = some (.pointer (some ⟨g, 0, none⟩)) := by rw [hW]; go_simp
  have b1 : W.cell? ⟨w.heap.size + 1, 0, none⟩ = some (.int .u64 t) := by rw [hW]; go_simp
  have e0 : W.cell? ⟨g, 0, none⟩ = some (.int .u64 s0) := by rw [hW]; go_simp
  have e2 : W.cell? ⟨g, 2, none⟩ = some (.int .u64 s2) := by rw [hW]; go_simp
  have HW := Aside0.mk hW
  clear hW
  repeat still_step
  still_call (HM.out _)
  repeat still_step
  refine wpStill_nil ?_
  have hk : Bk W.drew g s0 s1 s2 s3 := by show W.heap[g]? = _; rw [HW.out]; exact blk_drewN (blk_alloc (blk_alloc HI.out _) _) nq
  have hg : w.grownBy W.drew (some g) := by rw [HW.out]; exact grown_of_below (below_drew (pw_below_drewN (below_alloc (below_alloc (Below.refl _ _) _) _) nq)) _
  have bb : W.drew.heap[w.heap.size]? = some (.cells #[.pointer (some ⟨g, 0, none⟩)] 26 (0, 0)) := by show W.heap[w.heap.size]? = _; rw [HW.out]; exact blk_drewN (blk_alloc (blk_new _ _) _) nq
  have bt : W.drew.heap[w.heap.size + 1]? = some (.cells #[.int .u64 t] 28 (0, 0)) := by show W.heap[w.heap.size + 1]? = _; rw [HW.out]; simpa using blk_drewN (blk_new (w.alloc (Obj.cells #[Value.pointer (some { block := g, off := 0 })] 26)) (Obj.cells #[Value.int IntKind.u64 t] 28)) nq
  clear b0 b1 e0 e2 HW c0 c2
  generalize W.drew = W2 at *
  have HK := Aside0.mk hk
  have HG := Aside0.mk hg
  have HBB := Aside0.mk bb
  have HBT := Aside0.mk bt
  have hs := hg.size
  clear hk hg bb bt
  go_wp2_with fail
  refine (put_any g s0 s1 s2 s3 _ _ W2 HK.out H1.out H3.out (by omega) ?_).mono ?_
  · exact Int.ediv_nonneg (Int.mul_nonneg U0.out.1 (by simp only [IntKind.wrap_u64]; omega)) (by decide)
  rintro e w3 ⟨rfl, rfl⟩
  go_wp2
  have K3 := blk_put HK.out 3 (.int .u64 (mn s1 (s3 + (s0 * IntKind.u64.wrap (t - s2) / 18446744073709551616 * 18446744073709551616 + s0 * IntKind.u64.wrap (t - s2) % 18446744073709551616)))) rfl
  rw [Int.ediv_mul_add_emod] at K3 ⊢
  refine leaves_cons (f := 22) (args := #[.pointer (some ⟨w.heap.size + 1, 0, none⟩), .pointer (some ⟨w.heap.size, 0, none⟩)]) (by simp) (by simp [go_sem]) ?_
  refine (fill_closure g (w.heap.size + 1) w.heap.size s0 s1 s2 _ t .returning _ K3 ?_ ?_).mono ?_
  · exact (blk_cell (blk_far HBT.out (by show _ ≠ g; omega) _) 0).trans rfl
  · exact (blk_cell (blk_far HBB.out (by show _ ≠ g; omega) _) 0).trans rfl
  rintro e u' w'' ⟨rfl, rfl, rfl⟩
  refine ⟨_, results_none rfl _ _ _, rfl, blk_put K3 2 _ rfl, ?_⟩
  exact grown_set (grown_set HG.out _ _) _ _
end Go.Proofs.Ytdaiabgdlopfiaa.B
