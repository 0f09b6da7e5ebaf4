/- shaper.Shaper.Clear; conditions: the shaper lies in memory. -/
import Derived.Test.YtballojildjbhaaSH
namespace Go.Proofs.Ytballojildjbhaa.S
open Go Go.RowKit Go.Proofs.YtballojildjbhaaW.PrintWords Go.Proofs.YtballojildjbhaaW.PrintLast Go.Proofs.YtballojildjbhaaW.PrintMore Go.Proofs.Ytballojildjbhaa.F
set_option linter.unusedVariables false
set_option linter.unusedSimpArgs false

def clearL (l : Ls) : Ls := { l with xs := [] }
theorem LOk.clear {l : Ls} (h : LOk l) : LOk (clearL l) := ⟨h.b, h.q.clear, Few.nil, fun x hx => by simp [clearL] at hx⟩
/-- The first k lines are clear. -/
def clr (ls : List Ls) (k : Nat) : List Ls := (ls.take k).map clearL ++ ls.drop k
theorem clr_len (ls : List Ls) (k : Nat) : (clr ls k).length = ls.length := by
  unfold clr
  rw [List.length_append, List.length_map, List.length_take, List.length_drop]; omega
theorem clr_at {ls : List Ls} {k : Nat} {l : Ls} (h : ls[k]? = some l) : (clr ls k)[k]? = some l := by
  have hk := (List.getElem?_eq_some_iff.1 h).1
  unfold clr
  rw [List.getElem?_append_right (by simp; omega), List.getElem?_drop]
  rw [List.length_map, List.length_take, show k + (k - min k ls.length) = k by omega]
  exact h
theorem clr_succ {ls : List Ls} {k : Nat} {l : Ls} (h : ls[k]? = some l) : (clr ls k).set k (clearL l) = clr ls (k + 1) := by
  have hk := (List.getElem?_eq_some_iff.1 h).1
  unfold clr
  rw [List.set_append_right _ _ (by simp; omega), List.length_map, List.length_take, show k - min k ls.length = 0 by omega]
  rw [List.drop_eq_getElem_cons hk, List.set_cons_zero, List.take_add_one, h]
  obtain ⟨h1, h2⟩ := List.getElem?_eq_some_iff.1 h
  simp
theorem clr_zero (ls : List Ls) : clr ls 0 = ls := by simp [clr]
theorem clr_all (ls : List Ls) : clr ls ls.length = ls.map clearL := by simp [clr]
theorem cnt_app (a b : List Ls) : cnt (a ++ b) = cnt a + cnt b := by simp [cnt]
theorem cnt_take {ls : List Ls} {k : Nat} {l : Ls} (h : ls[k]? = some l) : cnt (ls.take (k + 1)) = cnt (ls.take k) + l.xs.length := by
  rw [List.take_add_one, h]
  simp [cnt]
theorem cnt_take_le (ls : List Ls) (k : Nat) : cnt (ls.take k) ≤ cnt ls := by
  have h := cnt_app (ls.take k) (ls.drop k)
  rw [List.take_append_drop] at h
  omega

set_option maxHeartbeats 400000 in
theorem sclear_nil (w : World) : Calls Try.prog 16 #[.pointer none] w fun e w' => e = .returned (.int .i64 0) ∧ w = w' := by
  go_enter Try.func16, Try.ntmps16
  go_wp2
  go_ret
  exact ⟨rfl, rfl⟩

set_option maxRecDepth 100000 in
set_option maxHeartbeats 2000000 in
theorem sclear_any (O : Nat → Nat) (s : Nat) (tick : Int) (ls : List Ls) (w : World) (h : Sh w O s tick ls) (hn : ls.length ≤ 65536) (hc : cnt ls ≤ 65536) :
    Calls Try.prog 16 #[.pointer (some ⟨s, 0, none⟩)] w fun e w' => e = .returned (.int .i64 (cnt ls)) ∧ Sh w' O s tick (ls.map clearL) ∧ KeepD w w' (fun k => O k ≠ 0) := by
  obtain ⟨A, c, hb, hr⟩ := h.box
  have hown := h.own
  have HOWN := Aside0.mk hown
  have HS := Aside0.mk h
  have HB := Aside0.mk hb
  have HR := Aside0.mk hr
  have hsl := blk_lt hb
  have c1 : w.cell? ⟨s, 1, none⟩ = some (.slice A ls.length c) := (blk_cell hb 1).trans rfl
  clear h hb hr hown
  go_enter Try.func16, Try.ntmps16
  go_wp2_with fail
  go_loopw [2, 12] (fun n i wr => ∃ k : Nat, k ≤ ls.length ∧ i = .int .i64 k ∧ n = .int .i64 (cnt (ls.take k)) ∧ Sh wr O s tick (clr ls k) ∧ KeepD w wr (fun k => O k ≠ 0) ∧
    (∀ r, A = some ⟨r, 0, none⟩ → 0 < ls.length → wr.heap[s]? = some (.cells #[.int .u64 tick, .slice (some ⟨r, 0, none⟩) (clr ls k).length c] 90 (0, 0)) ∧ wr.heap[r]? = w.heap[r]?)) (fun _ i _ => ls.length - (intOf i).toNat)
  case atStart =>
    refine ⟨0, Nat.zero_le _, rfl, by simp [cnt], by rw [clr_zero]; exact HS.out, KeepD.of_below (Below.refl _ _) _, ?_⟩
    rintro r rfl _
    rw [clr_zero]
    exact ⟨HB.out, rfl⟩
  case round =>
    obtain ⟨k, hk, rfl, rfl, hs, hkp, hrr⟩ := hrel
    have HSH := Aside0.mk hs
    have HKP := Aside0.mk hkp
    have HRR := Aside0.mk hrr
    have hct := cnt_take_le ls k
    clear hs hkp hrr
    by_cases hlt : k < ls.length
    · obtain ⟨r, cs, rfl, hor, hh, hcs⟩ := HR.out (by omega)
      obtain ⟨hs2, hr2⟩ := HRR.out r rfl (by omega)
      have hlk : ls[k]? = some ls[k] := List.getElem?_eq_getElem hlt
      obtain ⟨p, hp, hL⟩ := hcs k ls[k] hlk
      have hcell : wr.cell? ⟨r, k, none⟩ = some (.pointer (some ⟨p, 0, none⟩)) := by rw [blk_cell (hr2.trans hh)]; exact hp
      obtain ⟨r', c', p', hs3, hp3, hL3⟩ := HSH.out.line_ (clr_at hlk)
      have e0 := hs2.symm.trans hs3
      simp only [Option.some.injEq, Obj.cells.injEq, Array.mk.injEq, List.cons.injEq, Value.slice.injEq, Addr.mk.injEq, and_true, true_and] at e0
      obtain ⟨rfl, rfl⟩ : r = r' ∧ c = c' := by simpa using e0
      have e1 := hcell.symm.trans hp3
      obtain rfl : p = p' := by simpa using e1
      obtain ⟨b, q, hq⟩ := hL3.named
      have c5 := Lb.c5 hq.lb
      have HQ := Aside0.mk hq
      have HT := Aside0.mk (fun W' l' hk hL' => HSH.out.turn0 (W' := W') (l' := l') (clr_at hlk) hs2 hcell hk hL')
      have HLK := Aside0.mk hlk
      have HHH := Aside0.mk hh
      have HHR := Aside0.mk hr2
      have HHS := Aside0.mk hs2
      have HOR := Aside0.mk hor
      have hk0 : (0 : Int) ≤ k := by omega
      have hk1 : (k : Int) < ls.length := by omega
      have hct2 := cnt_take_le ls (k + 1)
      rw [cnt_take hlk] at hct2
      clear hh hcs hp hL hs2 hs3 hp3 hL3 hq hlk hr2 e0 e1 hor
      go_wp2_with fail
      refine (clear_any _ q _ _ _ _ wr HQ.out.fq).mono ?_
      rintro e w3 ⟨rfl, hf3, hk3⟩
      have HQ3 := Aside0.mk (HQ.out.queue0 hf3 hk3)
      have HS3 := Aside0.mk (HT.out w3 (clearL ls[k]) (hk3.mono fun j hj => hj.1) HQ3.out.line)
      have HK3 := Aside0.mk (HKP.out.trans hk3 fun j _ hj => by have := hj.1; show O j ≠ 0; omega)
      have HR3 := Aside0.mk (show w3.heap[s]? = some (.cells #[.int .u64 tick, .slice (some ⟨r, 0, none⟩) (clr ls (k + 1)).length c] 90 (0, 0)) ∧ w3.heap[r]? = w.heap[r]? from by
        have h1 := HOWN.out
        have h2 := HOR.out
        rw [clr_len]
        have h3 := HHS.out
        rw [clr_len] at h3
        exact ⟨(hk3.block s (blk_lt h3) (fun e => by have := e.1; omega)).trans h3, (hk3.block r (blk_lt (HHR.out.trans HHH.out)) (fun e => by have := e.1; omega)).trans HHR.out⟩)
      clear hf3 hk3 c5 hcell
      go_wp2_with fail
      go_roundw
      case rel =>
        refine ⟨k + 1, by omega, by go_num, by rw [cnt_take HLK.out]; go_num, by rw [← clr_succ HLK.out]; exact HS3.out, HK3.out, ?_⟩
        rintro r' e _
        cases e
        exact HR3.out
      case measure => simp [intOf]; omega
    · obtain rfl : k = ls.length := by omega
      go_wp2_with fail
      go_ret
      have h1 := HSH.out
      rw [clr_all] at h1
      exact ⟨by show Ending.returned (.int .i64 (cnt (List.take ls.length ls) : Nat)) = _; rw [List.take_length], h1, HKP.out⟩
end Go.Proofs.Ytballojildjbhaa.S
