/- shaper.Shaper.next, Next; conditions: the shaper lies in memory. -/
import Derived.Test.YtballojildjbhaaSD
import Derived.RegionTactic
namespace Go.Proofs.Ytballojildjbhaa.S
open Go Go.RowKit Go.Proofs.YtballojildjbhaaW.PrintWords Go.Proofs.YtballojildjbhaaW.PrintLast Go.Proofs.YtballojildjbhaaW.PrintMore Go.Proofs.Ytballojildjbhaa.F
set_option linter.unusedVariables false
set_option linter.unusedSimpArgs false

/-- The best of the first k lines. -/
def nextP (tick : Int) (ls : List Ls) : Nat → Best
  | 0 => ⟨0, 0, false⟩
  | k + 1 => match ls[k]? with
    | none => nextP tick ls k
    | some l => lookL tick (nextP tick ls k) k l
def nextS (tick : Int) (ls : List Ls) : Best := nextP tick ls ls.length
theorem nextP_succ {tick : Int} {ls : List Ls} {k : Nat} {l : Ls} (h : ls[k]? = some l) : nextP tick ls (k + 1) = lookL tick (nextP tick ls k) k l := by
  rw [nextP, h]

/-- The closure, whatever the line. -/
theorem look_any (O : Nat → Nat) (D : Nat → Prop) (s p bs bo ba bc : Nat) (tick : Int) (A : Option Addr) (n cc : Nat) (c : Nat) (l : Ls) (a : Best) (w : World)
    (hs : w.heap[s]? = some (.cells #[.int .u64 tick, .slice A n cc] 90 (0, 0))) (hL : Ln w D p l) (hl : LOk l) (hc : Cap w O s bs bo ba bc a) :
    Calls Try.prog 46 #[.int .i64 c, .pointer (some ⟨p, 0, none⟩), .pointer (some ⟨bs, 0, none⟩), .pointer (some ⟨bo, 0, none⟩), .pointer (some ⟨ba, 0, none⟩), .pointer (some ⟨bc, 0, none⟩)] w fun e w' =>
      e = .returned (.tuple #[]) ∧ Cap w' O s bs bo ba bc (lookL tick a c l) ∧ KeepD w w' (fun k => k = bo ∨ k = ba ∨ k = bc) := by
  obtain ⟨b, q, hq⟩ := hL.named
  cases hx : l.xs with
  | nil =>
    refine (look_none O D s p b q bs bo ba bc c l a w hq hc hx).mono ?_
    rintro e w' ⟨rfl, hb⟩
    refine ⟨rfl, ?_, KeepD.of_below hb _⟩
    rw [show lookL tick a c l = a by unfold lookL whenL; rw [hx]]
    exact hc.below hb
  | cons x ys =>
    exact look_some O D s p b q bs bo ba bc tick A n cc c l x _ _ a w hs hq hl hc ⟨⟨ys, hx⟩, rfl, rfl⟩ (hl.q.pos x (by rw [hx]; simp)) (hl.sml x (by rw [hx]; simp))

set_option maxRecDepth 100000 in
set_option maxHeartbeats 2000000 in
theorem next_any (O : Nat → Nat) (s : Nat) (tick : Int) (ls : List Ls) (w : World) (h : Sh w O s tick ls) (hl : ∀ l, l ∈ ls → LOk l) (hn : ls.length ≤ 65536) :
    Calls Try.prog 26 #[.pointer (some ⟨s, 0, none⟩)] w fun e w' => e = .returned (.tuple #[.int .u64 (nextS tick ls).at_, .int .i64 (nextS tick ls).cls, .bool (nextS tick ls).ok]) ∧ Below w.heap.size w w' := by
  have hmf : ∀ (fn : Fn) (first cap : Array Value) (w : World), (Instr.makeFunc fn first cap).run Try.prog w = .ok (.func fn first cap) w := fun _ _ _ _ => rfl
  have hlt := h.lt
  obtain ⟨A, c, hb, hr⟩ := h.box
  have HL := Aside0.mk hl
  have HR := Aside0.mk hr
  have HS := Aside0.mk hb
  have HLT := Aside0.mk hlt
  have hsz := blk_lt hb
  have c1 : w.cell? ⟨s, 1, none⟩ = some (.slice A ls.length c) := (blk_cell hb 1).trans rfl
  have hba := below_alloc (below_alloc (below_alloc (below_alloc (Below.refl _ w) (.cells #[.pointer (some ⟨s, 0, none⟩)] 31)) (.cells #[.int .u64 0] 22)) (.cells #[.int .i64 0] 3)) (.cells #[.bool false] 4)
  have hcap : Cap ((((w.alloc (.cells #[.pointer (some ⟨s, 0, none⟩)] 31)).alloc (.cells #[.int .u64 0] 22)).alloc (.cells #[.int .i64 0] 3)).alloc (.cells #[.bool false] 4)) O s w.heap.size (w.heap.size + 3) (w.heap.size + 1) (w.heap.size + 2) (nextP tick ls 0) := by
    have e1 := blk_new w (.cells #[.pointer (some ⟨s, 0, none⟩)] 31)
    have e2 := blk_new (w.alloc (.cells #[.pointer (some ⟨s, 0, none⟩)] 31)) (.cells #[.int .u64 0] 22)
    have e3 := blk_new ((w.alloc (.cells #[.pointer (some ⟨s, 0, none⟩)] 31)).alloc (.cells #[.int .u64 0] 22)) (.cells #[.int .i64 0] 3)
    have e4 := blk_new (((w.alloc (.cells #[.pointer (some ⟨s, 0, none⟩)] 31)).alloc (.cells #[.int .u64 0] 22)).alloc (.cells #[.int .i64 0] 3)) (.cells #[.bool false] 4)
    simp only [World.size_alloc] at e2 e3 e4
    refine ⟨blk_alloc (blk_alloc (blk_alloc e1 _) _) _, e4, blk_alloc (blk_alloc e2 _) _, blk_alloc e3 _, ?_⟩
    have z : ∀ k, w.heap.size ≤ k → O k = 0 := fun k hk => Classical.byContradiction fun hn => by have := hlt k hn; omega
    exact ⟨z _ (by omega), z _ (by omega), z _ (by omega), z _ (by omega)⟩
  have HCAP := Aside0.mk hcap
  have HBA := Aside0.mk hba
  have HS4 := Aside0.mk (blk_below hb hba)
  have c4 := cell_below c1 hba
  clear h hl hb hr hlt hba hcap c1
  go_enter Try.func26, Try.ntmps26
  go_upto_region 1 with (fail)
  generalize (((w.alloc (.cells #[.pointer (some ⟨s, 0, none⟩)] 31)).alloc (.cells #[.int .u64 0] 22)).alloc (.cells #[.int .i64 0] 3)).alloc (.cells #[.bool false] 4) = w4 at *
  obtain ⟨s0, s1⟩ := one_cell HCAP.out.hs
  go_wp2_with fail
  go_loopw [14] (fun i wr => ∃ k : Nat, k ≤ ls.length ∧ i = .int .i64 k ∧ Cap wr O s w.heap.size (w.heap.size + 3) (w.heap.size + 1) (w.heap.size + 2) (nextP tick ls k) ∧ Below w.heap.size w wr) (fun i _ => ls.length - (intOf i).toNat)
  case atStart => exact ⟨0, Nat.zero_le _, rfl, HCAP.out, HBA.out⟩
  case round =>
    obtain ⟨k, hk, rfl, hcap, hb⟩ := hrel
    have HC := Aside0.mk hcap
    have HB := Aside0.mk hb
    clear hcap hb
    by_cases hlt : k < ls.length
    · obtain ⟨r, cs, rfl, hor, hh, hcs⟩ := HR.out (by omega)
      obtain ⟨p, hp, hL⟩ := hcs k ls[k] (List.getElem?_eq_getElem hlt)
      have cp : wr.cell? ⟨r, k, none⟩ = some (.pointer (some ⟨p, 0, none⟩)) := by rw [blk_cell (blk_below hh HB.out)]; exact hp
      have HLN := Aside0.mk (hL.below HB.out)
      have HSB := Aside0.mk (blk_below HS.out HB.out)
      have hk0 : (0 : Int) ≤ k := by omega
      have hk1 : (k : Int) < ls.length := by omega
      clear hcs hp hL hh hor
      go_wp2_with fail
      refine (look_any O _ s p _ _ _ _ tick _ _ _ k ls[k] (nextP tick ls k) wr HSB.out HLN.out (HL.out _ (List.getElem_mem hlt)) HC.out).mono ?_
      rintro e w5 ⟨rfl, hc5, hk5⟩
      have HC5 := Aside0.mk (nextP_succ (List.getElem?_eq_getElem hlt) ▸ hc5)
      have HB5 := Aside0.mk (HB.out.trans (hk5.below HB.out.size (fun j hj hn => by omega)))
      clear hc5 hk5 cp
      go_wp2_with fail
      go_roundw
      case rel => exact ⟨k + 1, by omega, by go_num, HC5.out, HB5.out⟩
      case measure => simp [intOf]; omega
    · obtain rfl : k = ls.length := by omega
      obtain ⟨o0, o1⟩ := one_cell HC.out.ho
      obtain ⟨a0, a1⟩ := one_cell HC.out.ha
      obtain ⟨k0, k1⟩ := one_cell HC.out.hc
      go_wp2_with fail
      have HCO := Aside0.mk HC.out.ho
      have HCA := Aside0.mk HC.out.ha
      have HCC := Aside0.mk HC.out.hc
      clear HC
      have n1 : ¬ w.heap.size + 1 = w.heap.size + 2 := by omega
      have n2 : ¬ w.heap.size + 1 = w.heap.size + 3 := by omega
      have n3 : ¬ w.heap.size + 2 = w.heap.size + 3 := by omega
      have n4 : ¬ w.heap.size + 2 = w.heap.size + 1 := by omega
      have n5 : ¬ w.heap.size + 3 = w.heap.size + 1 := by omega
      have n6 : ¬ w.heap.size + 3 = w.heap.size + 2 := by omega
      have g1 : w.heap.size ≤ w.heap.size + 1 := by omega
      have g2 : w.heap.size ≤ w.heap.size + 2 := by omega
      have g3 : w.heap.size ≤ w.heap.size + 3 := by omega
      generalize w.heap.size + 3 = bo at *
      generalize w.heap.size + 2 = bc at *
      generalize w.heap.size + 1 = ba at *
      go_region
      have e1 : ((((wr.setCell ⟨ba, 0, none⟩ (.int .u64 (nextP tick ls ls.length).at_)).setCell ⟨bc, 0, none⟩ (.int .i64 (nextP tick ls ls.length).cls)).setCell ⟨bo, 0, none⟩ (.bool (nextP tick ls ls.length).ok)).heap)[ba]? = some (.cells #[.int .u64 (nextP tick ls ls.length).at_] 22 (0, 0)) :=
        (heap_far n2).trans ((heap_far n1).trans (blk_put HCA.out 0 _ rfl))
      have e2 : ((((wr.setCell ⟨ba, 0, none⟩ (.int .u64 (nextP tick ls ls.length).at_)).setCell ⟨bc, 0, none⟩ (.int .i64 (nextP tick ls ls.length).cls)).setCell ⟨bo, 0, none⟩ (.bool (nextP tick ls ls.length).ok)).heap)[bc]? = some (.cells #[.int .i64 (nextP tick ls ls.length).cls] 3 (0, 0)) :=
        (heap_far n3).trans (blk_put (w := wr.setCell ⟨ba, 0, none⟩ (.int .u64 (nextP tick ls ls.length).at_)) ((heap_far n4).trans HCC.out) 0 _ rfl)
      have e3 : ((((wr.setCell ⟨ba, 0, none⟩ (.int .u64 (nextP tick ls ls.length).at_)).setCell ⟨bc, 0, none⟩ (.int .i64 (nextP tick ls ls.length).cls)).setCell ⟨bo, 0, none⟩ (.bool (nextP tick ls ls.length).ok)).heap)[bo]? = some (.cells #[.bool (nextP tick ls ls.length).ok] 4 (0, 0)) :=
        blk_put (w := (wr.setCell ⟨ba, 0, none⟩ (.int .u64 (nextP tick ls ls.length).at_)).setCell ⟨bc, 0, none⟩ (.int .i64 (nextP tick ls ls.length).cls)) ((heap_far n6).trans ((heap_far n5).trans HCO.out)) 0 _ rfl
      obtain ⟨o0, o1⟩ := one_cell e3
      obtain ⟨a0, a1⟩ := one_cell e1
      obtain ⟨k0, k1⟩ := one_cell e2
      go_wp2_with fail
      refine bodyPost_ret (v := .tuple #[.int .u64 (nextP tick ls ls.length).at_, .int .i64 (nextP tick ls ls.length).cls, .bool (nextP tick ls ls.length).ok]) (by simp [results, Try.results26, go_sem, a0, k0, o0]) rfl ⟨rfl, ?_⟩
      exact below_drew (below_set (below_set (below_set HB.out g1) g2) g3)

set_option maxHeartbeats 400000 in
theorem snext_nil (w : World) : Calls Try.prog 10 #[.pointer none] w fun e w' => e = .returned (.tuple #[.int .u64 0, .bool false]) ∧ w = w' := by
  go_enter Try.func10, Try.ntmps10
  go_wp2
  go_ret2
  exact ⟨rfl, rfl⟩
set_option maxHeartbeats 400000 in
theorem snext_any (O : Nat → Nat) (s : Nat) (tick : Int) (ls : List Ls) (w : World) (h : Sh w O s tick ls) (hl : ∀ l, l ∈ ls → LOk l) (hn : ls.length ≤ 65536) :
    Calls Try.prog 10 #[.pointer (some ⟨s, 0, none⟩)] w fun e w' => e = .returned (.tuple #[.int .u64 (nextS tick ls).at_, .bool (nextS tick ls).ok]) ∧ Below w.heap.size w w' := by
  have HN := Aside0.mk (next_any O s tick ls w h hl hn)
  clear h hl
  go_enter Try.func10, Try.ntmps10
  go_wp2_with fail
  refine HN.out.mono ?_
  rintro e w1 ⟨rfl, hb⟩
  have HB := Aside0.mk hb
  clear hb
  go_wp2_with fail
  go_ret2
  exact ⟨rfl, HB.out⟩
end Go.Proofs.Ytballojildjbhaa.S
