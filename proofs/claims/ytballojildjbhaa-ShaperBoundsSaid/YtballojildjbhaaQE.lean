/- fifo.Queue: the iterator all and its closure: what it hands to yield; conditions: the queue lies in memory. -/
import Derived.RangeFuncNested
import Derived.RangeFuncBound
import Derived.RangeFuncCalls
import Derived.RangeFuncLeaves
import Derived.Shelf.Abstract
import Derived.Shelf.RegionOpen
import Derived.OwnWalkIn
import Derived.TacticsInMore
import Derived.LoopNIn
import Derived.LoopIn
import Derived.Test.YtballojildjbhaaQD
namespace Go.Proofs.Ytballojildjbhaa.F
open Go.RowKit Go.Proofs.YtballojildjbhaaW.PrintWords Go.Proofs.YtballojildjbhaaW.PrintLast Go.Proofs.YtballojildjbhaaW.PrintMore
set_option linter.unusedVariables false
set_option linter.unusedSimpArgs false
attribute [local go_sem] Oper.semAt_some

/-- What a round of the loop over all is told: a new copy of item k. -/
abbrev Yields (l : Nat) (xs : List It) (J : Nat → World → Prop) (m : Nat) : Prop :=
  ∀ k x A n c W0 W, J k W0 → Below W0.heap.size W0 W → xs[k]? = some x → Dat W (fun b => W0.heap.size ≤ b ∧ U8 W b) A n x.data →
    YieldAt Fence.wide m Try.prog l #[.agg #[.int .u64 x.no, .int .i64 x.size, .slice A n c]] W fun e W' => e = .returned (.bool true) ∧ J (k + 1) W'

set_option maxRecDepth 100000 in
set_option maxHeartbeats 1000000 in
theorem all1_in (n : Nat) (hn : 1 ≤ n) (l bx : Nat) (D : Nat → Prop) (g : Nat) (xs : List It) (items bound drops : Int) (J : Nat → World → Prop)
    (hl : ∀ x, x ∈ xs → x.data.length ≤ 65536) (hlen : xs.length ≤ 65536)
    (hJQ : ∀ k W, J k W → Fq W D g xs items bound drops ∧ W.cell? ⟨bx, 0, none⟩ = some (.pointer (some ⟨g, 0, none⟩)))
    (hJB : ∀ k W W', J k W → Below W.heap.size W W' → J k W')
    (hY : Yields l xs J (n - 1)) (W : World) (h0 : J 0 W) :
    CallsIn Fence.wide n Try.prog 67 #[.func (.yield l) #[] #[], .pointer (some ⟨bx, 0, none⟩)] W fun e W' => (∃ v, e = .returned v) ∧ J xs.length W' := by
  obtain ⟨hQ0, hbx0⟩ := hJQ 0 W h0
  have HY := Aside0.mk hY
  have HQ := Aside0.mk hJQ
  have HJB := Aside0.mk hJB
  have HL := Aside0.mk hl
  have H0 := Aside0.mk h0
  obtain ⟨hDg, A0, len, fr, hq, hring⟩ := hQ0
  have c2 := hq.c2
  clear hY hJQ hJB hl h0 hring hq
  refine callsIn_of_wp Try.func67 rfl trivial ?_ rfl
  simp only [Try.ntmps67, List.size_toArray, List.length_cons, List.length_nil, Nat.reduceAdd, Nat.reduceSub, Array.replicate_succ, Array.replicate_zero, List.push_toArray, List.append_toArray, List.nil_append, List.cons_append]
  gi_wp2
  gi_loopw [8] (fun i wr => ∃ k : Nat, i = .int .i64 k ∧ k ≤ xs.length ∧ Aside0 (J k wr)) (fun i _ => xs.length - (intOf i).toNat)
  case atStart => exact ⟨0, rfl, Nat.zero_le _, H0⟩
  case round =>
    obtain ⟨k, rfl, hk, HJ⟩ := hrel
    obtain ⟨hQ, hbx⟩ := HQ.out k wr HJ.out
    have HQk := Aside0.mk hQ
    clear hQ c2 hbx0
    by_cases hlt : k < xs.length
    · have hx : xs[k]? = some xs[k] := List.getElem?_eq_getElem hlt
      generalize xs[k] = x at hx
      have HX := Aside0.mk hx
      have hxm := List.mem_of_getElem? hx
      have hxl := HL.out x hxm
      have HXL := Aside0.mk hxl
      clear hx hxm hxl
      gi_wp2_with fail
      refine ⟨trivial, ?_⟩
      refine (callsIn_wide.2 (place_any D g k x xs items bound drops wr HQk.out HX.out)).mono ?_
      rintro e w1 ⟨r, p, A, n1, c, rfl, hb1, ⟨x0, x1, x2⟩, hd⟩
      have HB1 := Aside0.mk hb1
      have HD := Aside0.mk hd
      clear hb1 hd
      gi_wp2_with fail
      refine ⟨trivial, ?_⟩
      refine (callsIn_wide.2 (copied_any D A n1 c x.data x.no x.size w1 HD.out HXL.out)).mono ?_
      rintro e w2 ⟨A', c', rfl, hd2, hb2⟩
      obtain ⟨fn, tmps, assign, body, hy, hR⟩ := HY.out k x A' n1 c' wr w2 HJ.out (below_step HB1.out hb2) HX.out (hd2.new HB1.out.size fun _ _ _ => rfl)
      have HR := Aside0.mk hR
      clear hR hd2 hb2
      gi_wp2
      refine HR.out.mono ?_
      rintro e w3 ⟨rfl, hJ3⟩
      have HJ3 := Aside0.mk hJ3
      clear hJ3
      gi_wp2
      go_roundw
      case rel => exact ⟨k + 1, by go_num, by omega, HJ3⟩
      case measure => simp [intOf]; omega
    · obtain rfl : k = xs.length := by omega
      gi_wp2
      go_end0
      exact ⟨⟨_, rfl⟩, HJ.out⟩

theorem all_in (n : Nat) (g : Nat) (w : World) :
    CallsIn Fence.wide n Try.prog 57 #[.pointer (some ⟨g, 0, none⟩)] w fun e w' => e = .returned (.func (.func 67) #[] #[.pointer (some ⟨w.heap.size, 0, none⟩)]) ∧ w' = w.alloc (.cells #[.pointer (some ⟨g, 0, none⟩)] 83) := by
  refine callsIn_of_wp Try.func57 rfl trivial ?_ rfl
  simp only [Try.ntmps57, List.size_toArray, List.length_cons, List.length_nil, Nat.reduceAdd, Nat.reduceSub, Array.replicate_succ, Array.replicate_zero, List.push_toArray, List.append_toArray, List.nil_append, List.cons_append]
  gi_wp2
  go_ret
  exact ⟨rfl, rfl⟩
end Go.Proofs.Ytballojildjbhaa.F
