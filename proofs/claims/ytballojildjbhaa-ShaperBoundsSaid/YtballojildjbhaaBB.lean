/- bucket.Bucket: fill, Level, Take, When, New: what they answer and leave; conditions: the block holds the four numbers, all of 64 bits. -/
import Derived.Test.YtballojildjbhaaBA
import Derived.StillTailTactics
namespace Go.Proofs.Ytballojildjbhaa.B
open Go Go.RowKit Go.Proofs.YtballojildjbhaaW.PrintWords Go.Proofs.YtballojildjbhaaW.PrintLast Go.Proofs.YtballojildjbhaaW.PrintMore
set_option linter.unusedVariables false
set_option linter.unusedSimpArgs false


set_option maxHeartbeats 400000 in
theorem fill_no (g : Nat) (s0 s1 s2 s3 t : Int) (w : World) (hI : Bk w g s0 s1 s2 s3) (hle : decide (t ≤ s2) = true) :
    Calls Try.prog 71 #[.pointer (some ⟨g, 0, none⟩), .int .u64 t] w fun e w' => e = .returned (.tuple #[]) ∧ Below w.heap.size w w' := by
  have hlt := blk_lt hI
  have c2 := cellB_2 hI
  have HI := Aside0.mk hI
  clear hI
  go_enter_defers Try.func71, Try.ntmps71
  go_wp2
  go_quiet (fail)
  go_wp2
  exact ⟨_, results_none rfl _ _ _, rfl, pw_below_drewN (below_alloc (below_alloc (Below.refl _ _) _) _) _⟩

set_option maxHeartbeats 400000 in
theorem fill_closure (g bt bb : Nat) (s0 s1 s2 s3 t : Int) (u : FrameMode) (w : World) (hI : Bk w g s0 s1 s2 s3) (ct : w.cell? ⟨bt, 0, none⟩ = some (.int .u64 t)) (cb : w.cell? ⟨bb, 0, none⟩ = some (.pointer (some ⟨g, 0, none⟩))) :
    CallsD Try.prog 76 #[.pointer (some ⟨bt, 0, none⟩), .pointer (some ⟨bb, 0, none⟩)] u w fun e u' w' => u' = u ∧ (e = .returned (.tuple #[]) ∧ w.setCell ⟨g, 2, none⟩ (.int .u64 t) = w') := by
  have c2 := cellB_2 hI
  have f2 := blk_frozen hI 2
  clear hI
  go_enter_d Try.func76, Try.ntmps76
  go_wp2
  go_end0
  exact ⟨rfl, rfl⟩

theorem grown_set {w W : World} {g : Nat} (h : w.grownBy W (some g)) (o : Nat) (v : Value) : w.grownBy (W.setCell ⟨g, o, none⟩ v) (some g) :=
  ⟨h.os, h.tape, h.output, by simpa [World.setCell] using h.size, fun k hk hne => (Below.heap_setCell W ⟨g, o, none⟩ v k (fun e => hne (by rw [e]))).trans (h.block k hk hne)⟩

theorem mul_any (a b : Int) (ha : 0 ≤ a ∧ a < 18446744073709551616) (hb : 0 ≤ b ∧ b < 18446744073709551616) (w : World) :
    Calls Try.prog 78 #[.int .u64 a, .int .u64 b] w fun e w' => e = .returned (.tuple #[.int .u64 (a * b / 18446744073709551616), .int .u64 (a * b % 18446744073709551616)]) ∧ w' = w := by
  obtain ⟨x, rfl⟩ := Int.eq_ofNat_of_zero_le ha.1
  obtain ⟨y, rfl⟩ := Int.eq_ofNat_of_zero_le hb.1
  have := Try.bits_Mul64 x y (by omega) (by omega) w
  rw [Int.natCast_ediv, Int.natCast_emod, Int.natCast_mul] at this
  exact this

set_option maxRecDepth 100000 in
set_option maxHeartbeats 400000 in
theorem fill_go (g : Nat) (s0 s1 s2 s3 t : Int) (w : World) (hI : Bk w g s0 s1 s2 s3) (u0 : 0 ≤ s0 ∧ s0 < 18446744073709551616) (h1 : s1 ≤ 18446744073709551615) (h3 : 0 ≤ s3) (hle : decide (t ≤ s2) = false) :
    Calls Try.prog 71 #[.pointer (some ⟨g, 0, none⟩), .int .u64 t] w fun e w' => e = .returned (.tuple #[]) ∧ Bk w' g s0 s1 t (mn s1 (s3 + s0 * IntKind.u64.wrap (t - s2))) ∧ w.grownBy w' (some g) := by
  have hmf : ∀ (fn : Fn) (first cap : Array Value) (w : World), (Instr.makeFunc fn first cap).run Try.prog w = .ok (.func fn first cap) w := fun _ _ _ _ => rfl
  have hlt := blk_lt hI
  have c0 := cellB_0 hI
  have c2 := cellB_2 hI
  have HI := Aside0.mk hI
  have HM := Aside0.mk (mul_any s0 (IntKind.u64.wrap (t - s2)) u0 (by simp only [IntKind.wrap_u64]; omega))
  have U0 := Aside0.mk u0
  have H1 := Aside0.mk h1
  have H3 := Aside0.mk h3
  clear hI u0 h1 h3
  go_enter_defers Try.func71, Try.ntmps71
  go_wp2
  go_quiet (fail)
  go_wp2
  obtain ⟨W, hW⟩ : ∃ W : World, W = (((w.alloc (Obj.cells #[Value.pointer (some { block := g, off := 0 })] 82)).alloc (Obj.cells #[Value.int IntKind.u64 t] 22)).drewN nq) := ⟨_, rfl⟩
  rw [← hW]
  refine wp_region_still_tail 14 (by kernel_rfl) (by kernel_rfl) ?_
  change wpStill _ _ W.drew (fun a' => wpList _ _ _ _ a' W.drew) _ _
  simp only [List.take_succ_cons, List.take_zero, List.drop_succ_cons, List.drop_zero]
  have b0 : W.cell? ⟨w.heap.size, 0, none⟩ = some (.pointer (some ⟨g, 0, none⟩)) := by rw [hW]; go_simp
  have b1 : W.cell? ⟨w.heap.size + 1, 0, none⟩ = some (.int .u64 t) := by rw [hW]; go_simp
  have e0 : W.cell? ⟨g, 0, none⟩ = some (.int .u64 s0) := by rw [hW]; go_simp
  have e2 : W.cell? ⟨g, 2, none⟩ = some (.int .u64 s2) := by rw [hW]; go_simp
  have HW := Aside0.mk hW
  clear hW
  repeat still_step
  still_call (HM.out _)
  repeat still_step
  refine wpStill_nil ?_
  have hk : Bk W.drew g s0 s1 s2 s3 := by show W.heap[g]? = _; rw [HW.out]; exact blk_drewN (blk_alloc (blk_alloc HI.out _) _) nq
  have hg : w.grownBy W.drew (some g) := by rw [HW.out]; exact grown_of_below (below_drew (pw_below_drewN (below_alloc (below_alloc (Below.refl _ _) _) _) nq)) _
  have bb : W.drew.heap[w.heap.size]? = some (.cells #[.pointer (some ⟨g, 0, none⟩)] 82 (0, 0)) := by show W.heap[w.heap.size]? = _; rw [HW.out]; exact blk_drewN (blk_alloc (blk_new _ _) _) nq
  have bt : W.drew.heap[w.heap.size + 1]? = some (.cells #[.int .u64 t] 22 (0, 0)) := by show W.heap[w.heap.size + 1]? = _; rw [HW.out]; simpa using blk_drewN (blk_new (w.alloc (Obj.cells #[Value.pointer (some { block := g, off := 0 })] 82)) (Obj.cells #[Value.int IntKind.u64 t] 22)) nq
  clear b0 b1 e0 e2 HW c0 c2
  generalize W.drew = W2 at *
  have HK := Aside0.mk hk
  have HG := Aside0.mk hg
  have HBB := Aside0.mk bb
  have HBT := Aside0.mk bt
  have hs := hg.size
  clear hk hg bb bt
  go_wp2_with fail
  refine (put_any g s0 s1 s2 s3 _ _ W2 HK.out H1.out H3.out (by omega) ?_).mono ?_
  · exact Int.ediv_nonneg (Int.mul_nonneg U0.out.1 (by simp only [IntKind.wrap_u64]; omega)) (by decide)
  rintro e w3 ⟨rfl, rfl⟩
  go_wp2
  have K3 := blk_put HK.out 3 (.int .u64 (mn s1 (s3 + (s0 * IntKind.u64.wrap (t - s2) / 18446744073709551616 * 18446744073709551616 + s0 * IntKind.u64.wrap (t - s2) % 18446744073709551616)))) rfl
  rw [Int.ediv_mul_add_emod] at K3 ⊢
  refine leaves_cons (f := 76) (args := #[.pointer (some ⟨w.heap.size + 1, 0, none⟩), .pointer (some ⟨w.heap.size, 0, none⟩)]) (by simp) (by simp [go_sem]) ?_
  refine (fill_closure g (w.heap.size + 1) w.heap.size s0 s1 s2 _ t .returning _ K3 ?_ ?_).mono ?_
  · exact (blk_cell (blk_far HBT.out (by show _ ≠ g; omega) _) 0).trans rfl
  · exact (blk_cell (blk_far HBB.out (by show _ ≠ g; omega) _) 0).trans rfl
  rintro e u' w'' ⟨rfl, rfl, rfl⟩
  refine ⟨_, results_none rfl _ _ _, rfl, blk_put K3 2 _ rfl, ?_⟩
  exact grown_set (grown_set HG.out _ _) _ _


/-- A number of 64 bits. -/
def U64 (x : Int) : Prop := 0 ≤ x ∧ x ≤ 18446744073709551615
/-- A bucket's numbers, as they may be. -/
structure Ok (s0 s1 s2 s3 : Int) : Prop where
  r : U64 s0
  b : U64 s1
  t : U64 s2
  k : U64 s3
/-- Its tick and its tokens, filled up to a tick. -/
def tickV (s2 t : Int) : Int := if t ≤ s2 then s2 else t
def tokV (s0 s1 s2 s3 t : Int) : Int := if t ≤ s2 then s3 else mn s1 (s3 + s0 * (t - s2))

theorem Ok.fill {s0 s1 s2 s3 t : Int} (h : Ok s0 s1 s2 s3) (ht : U64 t) : Ok s0 s1 (tickV s2 t) (tokV s0 s1 s2 s3 t) := by
  obtain ⟨⟨r0, r1⟩, ⟨b0, b1⟩, ⟨t0, t1⟩, ⟨k0, k1⟩⟩ := h
  refine ⟨⟨r0, r1⟩, ⟨b0, b1⟩, ?_, ?_⟩
  · unfold tickV
    split
    · exact ⟨t0, t1⟩
    · exact ht
  · unfold tokV
    split
    · exact ⟨k0, k1⟩
    · have : 0 ≤ s0 * (t - s2) := Int.mul_nonneg r0 (by omega)
      unfold mn U64
      split <;> omega

theorem fill_any (g : Nat) (s0 s1 s2 s3 t : Int) (w : World) (hI : Bk w g s0 s1 s2 s3) (ho : Ok s0 s1 s2 s3) (ht : U64 t) :
    Calls Try.prog 71 #[.pointer (some ⟨g, 0, none⟩), .int .u64 t] w fun e w' => e = .returned (.tuple #[]) ∧ Bk w' g s0 s1 (tickV s2 t) (tokV s0 s1 s2 s3 t) ∧ w.grownBy w' (some g) := by
  obtain ⟨⟨r0, r1⟩, ⟨b0, b1⟩, ⟨t0, t1⟩, ⟨k0, k1⟩⟩ := ho
  obtain ⟨u0, u1⟩ := ht
  unfold tickV tokV
  by_cases h : t ≤ s2
  · rw [if_pos h, if_pos h]
    refine (fill_no g s0 s1 s2 s3 t w hI (decide_eq_true h)).mono ?_
    rintro e w' ⟨rfl, hb⟩
    exact ⟨rfl, blk_below hI hb, grown_of_below hb _⟩
  · rw [if_neg h, if_neg h]
    have := fill_go g s0 s1 s2 s3 t w hI ⟨r0, by omega⟩ b1 k0 (decide_eq_false h)
    rw [show IntKind.u64.wrap (t - s2) = t - s2 by simp only [IntKind.wrap_u64]; omega] at this
    exact this

set_option maxHeartbeats 400000 in
theorem level_any (g : Nat) (s0 s1 s2 s3 t : Int) (w : World) (hI : Bk w g s0 s1 s2 s3) (ho : Ok s0 s1 s2 s3) (ht : U64 t) :
    Calls Try.prog 66 #[.pointer (some ⟨g, 0, none⟩), .int .u64 t] w fun e w' => e = .returned (.int .u64 (tokV s0 s1 s2 s3 t)) ∧ Bk w' g s0 s1 (tickV s2 t) (tokV s0 s1 s2 s3 t) ∧ w.grownBy w' (some g) := by
  have HF := Aside0.mk (fill_any g s0 s1 s2 s3 t w hI ho ht)
  clear hI ho ht
  go_enter Try.func66, Try.ntmps66
  go_wp2_with fail
  refine HF.out.mono ?_
  rintro e w1 ⟨rfl, hk, hg⟩
  have c3 := cellB_3 hk
  have HK := Aside0.mk hk
  have HG := Aside0.mk hg
  clear hk hg HF
  go_wp2
  go_ret
  exact ⟨rfl, HK.out, HG.out⟩

def subV (k n : Int) : Int := if k < n then k else k - n
set_option maxHeartbeats 400000 in
theorem take_any (g : Nat) (s0 s1 s2 s3 t n : Int) (w : World) (hI : Bk w g s0 s1 s2 s3) (ho : Ok s0 s1 s2 s3) (ht : U64 t) (hn : U64 n) :
    Calls Try.prog 55 #[.pointer (some ⟨g, 0, none⟩), .int .u64 t, .int .u64 n] w fun e w' => e = .returned (.bool (decide (n ≤ tokV s0 s1 s2 s3 t))) ∧ Bk w' g s0 s1 (tickV s2 t) (subV (tokV s0 s1 s2 s3 t) n) ∧ w.grownBy w' (some g) := by
  have ok2 := ho.fill ht
  have HF := Aside0.mk (level_any g s0 s1 s2 s3 t w hI ho ht)
  clear hI ho ht
  generalize tokV s0 s1 s2 s3 t = k at *
  unfold subV
  by_cases h : k < n
  · rw [if_pos h, show decide (n ≤ k) = false from decide_eq_false (by omega)]
    have hb : decide (k < n) = true := decide_eq_true h
    clear h ok2 hn
    go_enter Try.func55, Try.ntmps55
    go_wp2_with fail
    refine HF.out.mono ?_
    rintro e w1 ⟨rfl, hk, hg⟩
    have HK := Aside0.mk hk
    have HG := Aside0.mk hg
    clear hk hg HF
    go_wp2
    go_ret
    exact ⟨rfl, HK.out, HG.out⟩
  · rw [if_neg h, show decide (n ≤ k) = true from decide_eq_true (by omega)]
    have hb : decide (k < n) = false := decide_eq_false h
    have hw : IntKind.u64.wrap (k - n) = k - n := by
      obtain ⟨-, -, -, ⟨k0, k1⟩⟩ := ok2
      obtain ⟨n0, n1⟩ := hn
      simp only [IntKind.wrap_u64]; omega
    clear h ok2 hn
    go_enter Try.func55, Try.ntmps55
    go_wp2_with fail
    refine HF.out.mono ?_
    rintro e w1 ⟨rfl, hk, hg⟩
    have c3 := cellB_3 hk
    have f3 := blk_frozen hk 3
    have HK := Aside0.mk hk
    have HG := Aside0.mk hg
    clear hk hg HF
    go_wp2
    go_ret
    exact ⟨rfl, blk_put HK.out 3 _ rfl, grown_set HG.out _ _⟩



def whenV (s0 s1 s2 s3 n : Int) : Int × Bool :=
  if n ≤ s3 then (s2, true) else if n > s1 ∨ s0 = 0 then (0, false) else
    if s2 + ((n - s3 - 1) / s0 + 1) > 18446744073709551615 then (0, false) else (s2 + ((n - s3 - 1) / s0 + 1), true)

set_option maxHeartbeats 400000 in
theorem when_has (g : Nat) (s0 s1 s2 s3 n : Int) (w : World) (hI : Bk w g s0 s1 s2 s3) (h : decide (n ≤ s3) = true) :
    Calls Try.prog 48 #[.pointer (some ⟨g, 0, none⟩), .int .u64 n] w fun e w' => e = .returned (.tuple #[.int .u64 s2, .bool true]) ∧ w = w' := by
  have c2 := cellB_2 hI
  have c3 := cellB_3 hI
  clear hI
  go_enter Try.func48, Try.ntmps48
  go_wp2
  go_ret2
  exact ⟨rfl, rfl⟩
set_option maxHeartbeats 400000 in
theorem when_over (g : Nat) (s0 s1 s2 s3 n : Int) (w : World) (hI : Bk w g s0 s1 s2 s3) (h : decide (n ≤ s3) = false) (h1 : decide (s1 < n) = true) :
    Calls Try.prog 48 #[.pointer (some ⟨g, 0, none⟩), .int .u64 n] w fun e w' => e = .returned (.tuple #[.int .u64 0, .bool false]) ∧ w = w' := by
  have c1 := cellB_1 hI
  have c3 := cellB_3 hI
  clear hI
  go_enter Try.func48, Try.ntmps48
  go_wp2
  go_ret2
  exact ⟨rfl, rfl⟩
set_option maxHeartbeats 400000 in
theorem when_zero (g : Nat) (s0 s1 s2 s3 n : Int) (w : World) (hI : Bk w g s0 s1 s2 s3) (h : decide (n ≤ s3) = false) (h1 : decide (s1 < n) = false) (h0 : (s0 == 0) = true) :
    Calls Try.prog 48 #[.pointer (some ⟨g, 0, none⟩), .int .u64 n] w fun e w' => e = .returned (.tuple #[.int .u64 0, .bool false]) ∧ w = w' := by
  have c0 := cellB_0 hI
  have c1 := cellB_1 hI
  have c3 := cellB_3 hI
  clear hI
  go_enter Try.func48, Try.ntmps48
  go_wp2
  go_ret2
  exact ⟨rfl, rfl⟩
set_option maxHeartbeats 400000 in
theorem when_on (g : Nat) (s0 s1 s2 s3 n q : Int) (b : Bool) (w : World) (hI : Bk w g s0 s1 s2 s3) (h : decide (n ≤ s3) = false) (h1 : decide (s1 < n) = false) (h0 : (s0 == 0) = false) (h00 : ¬ s0 = 0)
    (w1 : IntKind.u64.wrap (n - s3) = n - s3) (w2 : IntKind.u64.wrap (n - s3 - 1) = n - s3 - 1) (w3 : IntKind.u64.wrap ((n - s3 - 1).tdiv s0) = q) (w4 : IntKind.u64.wrap (q + 1) = q + 1) (hq : 0 ≤ q + 1) (h2 : 0 ≤ s2)
    (hb : decide (0 < (s2 + (q + 1)) / 18446744073709551616) = b) :
    Calls Try.prog 48 #[.pointer (some ⟨g, 0, none⟩), .int .u64 n] w fun e w' => e = .returned (.tuple (if b then #[.int .u64 0, .bool false] else #[.int .u64 ((s2 + (q + 1)) % 18446744073709551616), .bool true])) ∧ Below w.heap.size w w' := by
  have hadd := add64_run s2 (q + 1) h2 hq
  have c0 := cellB_0 hI
  have c1 := cellB_1 hI
  have c2 := cellB_2 hI
  have c3 := cellB_3 hI
  clear hI hq h2
  cases b
  · go_enter Try.func48, Try.ntmps48
    go_wp2
    go_quiet (fail)
    go_wp2
    go_ret2
    exact ⟨rfl, pw_below_drewN (Below.refl _ _) _⟩
  · go_enter Try.func48, Try.ntmps48
    go_wp2
    go_quiet (fail)
    go_wp2
    go_ret2
    exact ⟨rfl, pw_below_drewN (Below.refl _ _) _⟩

theorem when_any (g : Nat) (s0 s1 s2 s3 n : Int) (w : World) (hI : Bk w g s0 s1 s2 s3) (ho : Ok s0 s1 s2 s3) (hn : U64 n) :
    Calls Try.prog 48 #[.pointer (some ⟨g, 0, none⟩), .int .u64 n] w fun e w' => e = .returned (.tuple #[.int .u64 (whenV s0 s1 s2 s3 n).1, .bool (whenV s0 s1 s2 s3 n).2]) ∧ Below w.heap.size w w' := by
  obtain ⟨⟨r0, r1⟩, ⟨b0, b1⟩, ⟨t0, t1⟩, ⟨k0, k1⟩⟩ := ho
  obtain ⟨n0, n1⟩ := hn
  unfold whenV
  by_cases h : n ≤ s3
  · rw [if_pos h]
    refine (when_has g s0 s1 s2 s3 n w hI (decide_eq_true h)).mono ?_
    rintro e w' ⟨rfl, rfl⟩
    exact ⟨rfl, Below.refl _ _⟩
  · rw [if_neg h]
    by_cases h1 : n > s1
    · rw [if_pos (.inl h1)]
      refine (when_over g s0 s1 s2 s3 n w hI (decide_eq_false h) (decide_eq_true h1)).mono ?_
      rintro e w' ⟨rfl, rfl⟩
      exact ⟨rfl, Below.refl _ _⟩
    · by_cases h0 : s0 = 0
      · rw [if_pos (.inr h0)]
        refine (when_zero g s0 s1 s2 s3 n w hI (decide_eq_false h) (decide_eq_false h1) (by rw [h0]; rfl)).mono ?_
        rintro e w' ⟨rfl, rfl⟩
        exact ⟨rfl, Below.refl _ _⟩
      · rw [if_neg (by rintro (h | h) <;> contradiction)]
        have q0 : 0 ≤ (n - s3 - 1) / s0 := Int.ediv_nonneg (by omega) r0
        have q1 : (n - s3 - 1) / s0 ≤ n - s3 - 1 := Int.ediv_le_self _ (by omega)
        have e3 : IntKind.u64.wrap ((n - s3 - 1).tdiv s0) = (n - s3 - 1) / s0 := by
          rw [Int.tdiv_eq_ediv_of_nonneg (by omega)]
          generalize (n - s3 - 1) / s0 = q at *
          simp only [IntKind.wrap_u64]; omega
        generalize (n - s3 - 1) / s0 = q at *
        have := when_on g s0 s1 s2 s3 n q _ w hI (decide_eq_false h) (decide_eq_false h1) (by simpa using h0) h0 (by simp only [IntKind.wrap_u64]; omega) (by simp only [IntKind.wrap_u64]; omega) e3 (by simp only [IntKind.wrap_u64]; omega) (by omega) t0 rfl
        by_cases hc : s2 + (q + 1) > 18446744073709551615
        · rw [if_pos hc]
          rw [show decide (0 < (s2 + (q + 1)) / 18446744073709551616) = true from decide_eq_true (by omega)] at this
          exact this
        · rw [if_neg hc]
          rw [show decide (0 < (s2 + (q + 1)) / 18446744073709551616) = false from decide_eq_false (by omega), show (s2 + (q + 1)) % 18446744073709551616 = s2 + (q + 1) by omega] at this
          exact this

set_option maxHeartbeats 400000 in
theorem when_on_q (g : Nat) (s0 s1 s2 s3 n q : Int) (b : Bool) (w : World) (hI : Bk w g s0 s1 s2 s3) (h : decide (n ≤ s3) = false) (h1 : decide (s1 < n) = false) (h0 : (s0 == 0) = false) (h00 : ¬ s0 = 0)
    (w1 : IntKind.u64.wrap (n - s3) = n - s3) (w2 : IntKind.u64.wrap (n - s3 - 1) = n - s3 - 1) (w3 : IntKind.u64.wrap ((n - s3 - 1).tdiv s0) = q) (w4 : IntKind.u64.wrap (q + 1) = q + 1) (hq : 0 ≤ q + 1) (h2 : 0 ≤ s2)
    (hb : decide (0 < (s2 + (q + 1)) / 18446744073709551616) = b) :
    Calls Try.prog 48 #[.pointer (some ⟨g, 0, none⟩), .int .u64 n] w fun e w' => e = .returned (.tuple (if b then #[.int .u64 0, .bool false] else #[.int .u64 ((s2 + (q + 1)) % 18446744073709551616), .bool true])) ∧ ∃ m, w' = w.drewN m := by
  have hadd := add64_run s2 (q + 1) h2 hq
  have c0 := cellB_0 hI
  have c1 := cellB_1 hI
  have c2 := cellB_2 hI
  have c3 := cellB_3 hI
  clear hI hq h2
  cases b
  · go_enter Try.func48, Try.ntmps48
    go_wp2
    go_quiet (fail)
    go_wp2
    go_ret2
    exact ⟨rfl, _, rfl⟩
  · go_enter Try.func48, Try.ntmps48
    go_wp2
    go_quiet (fail)
    go_wp2
    go_ret2
    exact ⟨rfl, _, rfl⟩

theorem when_q (g : Nat) (s0 s1 s2 s3 n : Int) (w : World) (hI : Bk w g s0 s1 s2 s3) (ho : Ok s0 s1 s2 s3) (hn : U64 n) :
    Calls Try.prog 48 #[.pointer (some ⟨g, 0, none⟩), .int .u64 n] w fun e w' => e = .returned (.tuple #[.int .u64 (whenV s0 s1 s2 s3 n).1, .bool (whenV s0 s1 s2 s3 n).2]) ∧ ∃ m, w' = w.drewN m := by
  obtain ⟨⟨r0, r1⟩, ⟨b0, b1⟩, ⟨t0, t1⟩, ⟨k0, k1⟩⟩ := ho
  obtain ⟨n0, n1⟩ := hn
  unfold whenV
  by_cases h : n ≤ s3
  · rw [if_pos h]
    refine (when_has g s0 s1 s2 s3 n w hI (decide_eq_true h)).mono ?_
    rintro e w' ⟨rfl, rfl⟩
    exact ⟨rfl, 0, rfl⟩
  · rw [if_neg h]
    by_cases h1 : n > s1
    · rw [if_pos (.inl h1)]
      refine (when_over g s0 s1 s2 s3 n w hI (decide_eq_false h) (decide_eq_true h1)).mono ?_
      rintro e w' ⟨rfl, rfl⟩
      exact ⟨rfl, 0, rfl⟩
    · by_cases h0 : s0 = 0
      · rw [if_pos (.inr h0)]
        refine (when_zero g s0 s1 s2 s3 n w hI (decide_eq_false h) (decide_eq_false h1) (by rw [h0]; rfl)).mono ?_
        rintro e w' ⟨rfl, rfl⟩
        exact ⟨rfl, 0, rfl⟩
      · rw [if_neg (by rintro (h | h) <;> contradiction)]
        have q0 : 0 ≤ (n - s3 - 1) / s0 := Int.ediv_nonneg (by omega) r0
        have q1 : (n - s3 - 1) / s0 ≤ n - s3 - 1 := Int.ediv_le_self _ (by omega)
        have e3 : IntKind.u64.wrap ((n - s3 - 1).tdiv s0) = (n - s3 - 1) / s0 := by
          rw [Int.tdiv_eq_ediv_of_nonneg (by omega)]
          generalize (n - s3 - 1) / s0 = q at *
          simp only [IntKind.wrap_u64]; omega
        generalize (n - s3 - 1) / s0 = q at *
        have := when_on_q g s0 s1 s2 s3 n q _ w hI (decide_eq_false h) (decide_eq_false h1) (by simpa using h0) h0 (by simp only [IntKind.wrap_u64]; omega) (by simp only [IntKind.wrap_u64]; omega) e3 (by simp only [IntKind.wrap_u64]; omega) (by omega) t0 rfl
        by_cases hc : s2 + (q + 1) > 18446744073709551615
        · rw [if_pos hc]
          rw [show decide (0 < (s2 + (q + 1)) / 18446744073709551616) = true from decide_eq_true (by omega)] at this
          exact this
        · rw [if_neg hc]
          rw [show decide (0 < (s2 + (q + 1)) / 18446744073709551616) = false from decide_eq_false (by omega), show (s2 + (q + 1)) % 18446744073709551616 = s2 + (q + 1) by omega] at this
          exact this

/-! A bucket that is not there. -/
set_option maxHeartbeats 400000 in
theorem level_nil (t : Int) (w : World) : Calls Try.prog 66 #[.pointer none, .int .u64 t] w fun e w' => e = .returned (.int .u64 0) ∧ w = w' := by
  go_enter Try.func66, Try.ntmps66
  go_wp2
  go_ret
  exact ⟨rfl, rfl⟩
set_option maxHeartbeats 400000 in
theorem take_nil (t n : Int) (w : World) : Calls Try.prog 55 #[.pointer none, .int .u64 t, .int .u64 n] w fun e w' => e = .returned (.bool false) ∧ w = w' := by
  go_enter Try.func55, Try.ntmps55
  go_wp2
  go_ret
  exact ⟨rfl, rfl⟩
set_option maxHeartbeats 400000 in
theorem when_nil (n : Int) (w : World) : Calls Try.prog 48 #[.pointer none, .int .u64 n] w fun e w' => e = .returned (.tuple #[.int .u64 0, .bool false]) ∧ w = w' := by
  go_enter Try.func48, Try.ntmps48
  go_wp2
  go_ret2
  exact ⟨rfl, rfl⟩
set_option maxHeartbeats 400000 in
theorem new_any (r b t : Int) (w : World) : Calls Try.prog 35 #[.int .u64 r, .int .u64 b, .int .u64 t] w fun e w' => e = .returned (.pointer (some ⟨w.heap.size, 0, none⟩)) ∧ Bk w' w.heap.size r b t b ∧ Below w.heap.size w w' := by
  go_enter Try.func35, Try.ntmps35
  go_wp2
  go_ret
  exact ⟨rfl, blk_new _ _, below_alloc (Below.refl _ _) _⟩
theorem tick_self {a b : Int} (h : b ≤ a) : tickV a b = a := by unfold tickV; rw [if_pos h]
theorem tok_self {s0 s1 s2 s3 t : Int} (h : t ≤ s2) : tokV s0 s1 s2 s3 t = s3 := by unfold tokV; rw [if_pos h]
theorem Ok.take {s0 s1 s2 s3 t n : Int} (h : Ok s0 s1 s2 s3) (ht : U64 t) (hn : U64 n) : Ok s0 s1 (tickV s2 t) (subV (tokV s0 s1 s2 s3 t) n) := by
  obtain ⟨a, b, c, ⟨d0, d1⟩⟩ := h.fill ht
  refine ⟨a, b, c, ?_⟩
  obtain ⟨n0, n1⟩ := hn
  unfold subV U64
  split <;> omega

/-- None, ever. -/
theorem never {s0 s1 s2 s3 n : Int} (h : Ok s0 s1 s2 s3) (hn : U64 n) (hk : ¬ n ≤ s3) (hw : (whenV s0 s1 s2 s3 n).2 = false) : (whenV s0 s1 s2 s3 n).1 = 0 ∧ ¬ n ≤ tokV s0 s1 s2 s3 18446744073709551615 := by
  obtain ⟨⟨r0, r1⟩, ⟨b0, b1⟩, ⟨t0, t1⟩, ⟨k0, k1⟩⟩ := h
  obtain ⟨n0, n1⟩ := hn
  unfold whenV at hw ⊢
  rw [if_neg hk] at hw ⊢
  by_cases h1 : n > s1 ∨ s0 = 0
  · rw [if_pos h1]
    refine ⟨rfl, ?_⟩
    unfold tokV mn
    rcases h1 with h1 | rfl
    · split
      · exact hk
      · split <;> omega
    · rw [Int.zero_mul]
      split
      · exact hk
      · split <;> omega
  · rw [if_neg h1] at hw ⊢
    have hs : ¬ s0 = 0 := fun e => h1 (.inr e)
    have q1 : s0 * ((n - s3 - 1) / s0) ≤ n - s3 - 1 := Int.mul_ediv_self_le (by omega)
    by_cases h2 : s2 + ((n - s3 - 1) / s0 + 1) > 18446744073709551615
    · rw [if_pos h2]
      refine ⟨rfl, ?_⟩
      have q2 : s0 * (18446744073709551615 - s2) ≤ s0 * ((n - s3 - 1) / s0) := Int.mul_le_mul_of_nonneg_left (by omega) r0
      unfold tokV mn
      split
      · exact hk
      · split <;> omega
    · rw [if_neg h2] at hw
      simp at hw

/-- At that tick, and at none before. -/
theorem first {s0 s1 s2 s3 n : Int} (h : Ok s0 s1 s2 s3) (hn : U64 n) (hk : ¬ n ≤ s3) (hw : (whenV s0 s1 s2 s3 n).2 = true) :
    s2 < (whenV s0 s1 s2 s3 n).1 ∧ U64 (whenV s0 s1 s2 s3 n).1 ∧ ¬ n ≤ tokV s0 s1 s2 s3 ((whenV s0 s1 s2 s3 n).1 - 1) ∧ n ≤ tokV s0 s1 s2 s3 (whenV s0 s1 s2 s3 n).1 := by
  obtain ⟨⟨r0, r1⟩, ⟨b0, b1⟩, ⟨t0, t1⟩, ⟨k0, k1⟩⟩ := h
  obtain ⟨n0, n1⟩ := hn
  unfold whenV at hw ⊢
  rw [if_neg hk] at hw ⊢
  by_cases h1 : n > s1 ∨ s0 = 0
  · rw [if_pos h1] at hw; simp at hw
  · rw [if_neg h1] at hw ⊢
    have hs : ¬ s0 = 0 := fun e => h1 (.inr e)
    by_cases h2 : s2 + ((n - s3 - 1) / s0 + 1) > 18446744073709551615
    · rw [if_pos h2] at hw; simp at hw
    · rw [if_neg h2]
      have q0 : 0 ≤ (n - s3 - 1) / s0 := Int.ediv_nonneg (by omega) r0
      have q1 : s0 * ((n - s3 - 1) / s0) ≤ n - s3 - 1 := Int.mul_ediv_self_le (by omega)
      have q2 : n - s3 - 1 < s0 * ((n - s3 - 1) / s0) + s0 := Int.lt_mul_ediv_self_add (by omega)
      have q3 : s0 * ((n - s3 - 1) / s0 + 1) = s0 * ((n - s3 - 1) / s0) + s0 := by rw [Int.mul_add, Int.mul_one]
      have hb : ¬ n > s1 := fun e => h1 (.inl e)
      generalize (n - s3 - 1) / s0 = q at *
      refine ⟨by show s2 < s2 + (q + 1); omega, ⟨by show 0 ≤ s2 + (q + 1); omega, by show s2 + (q + 1) ≤ _; omega⟩, ?_, ?_⟩
      · show ¬ n ≤ tokV s0 s1 s2 s3 (s2 + (q + 1) - 1)
        unfold tokV mn
        rw [show s2 + (q + 1) - 1 - s2 = q by omega]
        split
        · exact hk
        · split <;> omega
      · show n ≤ tokV s0 s1 s2 s3 (s2 + (q + 1))
        unfold tokV mn
        rw [if_neg (by omega), show s2 + (q + 1) - s2 = q + 1 by omega, q3]
        split <;> omega
/-- A call that writes to one block of the call's own. -/
theorem below_own {w W w2 : World} {g : Nat} (h : Below w.heap.size w W) (hk : w.heap.size ≤ g) (hg : W.grownBy w2 (some g)) : Below w.heap.size w w2 :=
  h.grown hg h.size (fun k e => by cases e; exact hk)
theorem ok_num {a b c d : Int} (h : U64 a ∧ U64 b ∧ U64 c ∧ U64 d) : Ok a b c d := ⟨h.1, h.2.1, h.2.2.1, h.2.2.2⟩
instance (x : Int) : Decidable (U64 x) := inferInstanceAs (Decidable (0 ≤ x ∧ x ≤ 18446744073709551615))

end Go.Proofs.Ytballojildjbhaa.B
