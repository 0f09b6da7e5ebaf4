/- octroilaw11.works answers true; no condition. -/
import Derived.Test.YtdipihaefiobiaaQL
namespace Go.Proofs.Ytdipihaefiobiaa.F
open Go Go.RowKit Go.Proofs.YtdipihaefiobiaaW.PrintWords Go.Proofs.YtdipihaefiobiaaW.PrintLast Go.Proofs.YtdipihaefiobiaaW.PrintMore
set_option linter.unusedVariables false
set_option linter.unusedSimpArgs false

/-- A push of an item of the queue's own story, told by numbers. -/
theorem push_w (B g : Nat) (xs ys : List It) (d d' s r : Int) (w : World) (h : Fb w B g xs 2 10 d) (ho : Ok xs 2 10 d) (hB : B ≤ w.heap.size) (hl : Few xs) (hd : d < 18446744073709551615) (he : pushR xs 2 10 d ⟨0, s, []⟩ = (r, ys, d')) :
    Calls Try.prog 19 #[.pointer (some ⟨g, 0, none⟩), .agg #[.int .u64 0, .int .i64 s, .slice none 0 0]] w fun e w' => e = .returned (.int .i64 r) ∧ Fb w' B g ys 2 10 d' ∧ Below B w w' := by
  have := push_b B g xs 2 10 d ⟨0, s, []⟩ none 0 0 w h ho hB hl (by simp) (dat_nil _ _) hd
  rw [he] at this
  exact this

def x6 : It := ⟨0, 6, []⟩
def x4 : It := ⟨0, 4, []⟩
theorem ok0 : Ok [] 2 10 0 := Ok.new (by decide) (by decide)
theorem e1 : pushR [] 2 10 0 ⟨0, 6, []⟩ = (0, [x6], 0) := by decide
theorem e2 : pushR [x6] 2 10 0 ⟨0, 5, []⟩ = (110, [x6], 1) := by decide
theorem e3 : pushR [x6] 2 10 1 ⟨0, 4, []⟩ = (0, [x6, x4], 1) := by decide
theorem e4 : pushR [x6, x4] 2 10 1 ⟨0, 0, []⟩ = (110, [x6, x4], 2) := by decide
theorem ok1 : Ok [x6] 2 10 0 := by have := ok0.push ⟨0, 6, []⟩ (by decide); rw [e1] at this; exact this
theorem ok2 : Ok [x6] 2 10 1 := by have := ok1.push ⟨0, 5, []⟩ (by decide); rw [e2] at this; exact this
theorem ok3 : Ok [x6, x4] 2 10 1 := by have := ok2.push ⟨0, 4, []⟩ (by decide); rw [e3] at this; exact this
theorem ok4 : Ok [x6, x4] 2 10 2 := by have := ok3.push ⟨0, 0, []⟩ (by decide); rw [e4] at this; exact this
theorem few6 : Few [x6] := fun y hy => by
  have : y = x6 := by simpa using hy
  subst this; decide
theorem few64 : Few [x6, x4] := fun y hy => by
  have : y = x6 ∨ y = x4 := by simpa using hy
  rcases this with rfl | rfl <;> decide

set_option maxHeartbeats 2000000 in
theorem works_any (w : World) : Calls Try.prog 8 #[] w fun e w' => e = .returned (.bool true) ∧ Below w.heap.size w w' := by
  go_enter Try.func8, Try.ntmps8
  go_wp2_with fail
  refine (new_ok 2 10 _ (by decide)).mono ?_
  rintro e w1 ⟨rfl, q, b⟩
  obtain ⟨g, hg⟩ : ∃ g, w.heap.size = g := ⟨_, rfl⟩
  have hq : Fb w1 w.heap.size w.heap.size [] 2 10 0 := q.step fun k _ hD => ⟨rfl, Nat.le_of_eq hD.symm⟩
  have hz := b.size
  rw [hg] at hq b hz
  have HQ1 := Aside0.mk hq
  have HB1 := Aside0.mk b
  have HZ1 := Aside0.mk hz
  rw [hg]
  have HG := Aside0.mk hg
  clear q b hg hq hz
  go_wp2_with fail
  refine (push_w g g [] [x6] 0 0 6 0 _ HQ1.out ok0 HZ1.out Few.nil (by decide) e1).mono ?_
  rintro e w2 ⟨rfl, q, b⟩
  have HQ2 := Aside0.mk q
  have HB2 := Aside0.mk (HB1.out.trans b)
  have HZ2 := Aside0.mk (Nat.le_trans HZ1.out b.size)
  clear q b HQ1 HB1 HZ1
  go_wp2_with fail
  refine (push_w g g [x6] [x6] 0 1 5 110 _ HQ2.out ok1 HZ2.out few6 (by decide) e2).mono ?_
  rintro e w3 ⟨rfl, q, b⟩
  have HQ3 := Aside0.mk q
  have HB3 := Aside0.mk (HB2.out.trans b)
  have HZ3 := Aside0.mk (Nat.le_trans HZ2.out b.size)
  clear q b HQ2 HB2 HZ2
  go_wp2_with fail
  refine (push_w g g [x6] [x6, x4] 1 1 4 0 _ HQ3.out ok2 HZ3.out few6 (by decide) e3).mono ?_
  rintro e w4 ⟨rfl, q, b⟩
  have HQ4 := Aside0.mk q
  have HB4 := Aside0.mk (HB3.out.trans b)
  have HZ4 := Aside0.mk (Nat.le_trans HZ3.out b.size)
  clear q b HQ3 HB3 HZ3
  go_wp2_with fail
  refine (push_w g g [x6, x4] [x6, x4] 1 2 0 110 _ HQ4.out ok3 HZ4.out few64 (by decide) e4).mono ?_
  rintro e w5 ⟨rfl, q, b⟩
  have HQ5 := Aside0.mk q
  have HB5 := Aside0.mk (HB4.out.trans b)
  have HZ5 := Aside0.mk (Nat.le_trans HZ4.out b.size)
  clear q b HQ4 HB4 HZ4
  go_wp2_with fail
  refine (drops_any _ g [x6, x4] 2 10 2 _ HQ5.out).mono ?_
  rintro e w6 ⟨rfl, rfl⟩
  go_wp2_with fail
  refine (size_any _ g [x6, x4] 2 10 2 _ HQ5.out).mono ?_
  rintro e w6 ⟨rfl, rfl⟩
  rw [show sz [x6, x4] = 10 from by decide]
  go_wp2_with fail
  refine (pop_b g g x6 [x4] 2 10 2 _ HQ5.out ok4 HZ5.out (by decide)).mono ?_
  rintro e w6 ⟨A, n, c, rfl, hd, q, b⟩
  have HQ6 := Aside0.mk q
  have HB6 := Aside0.mk (HB5.out.trans b)
  have HZ6 := Aside0.mk (Nat.le_trans HZ5.out b.size)
  clear q b HQ5 HB5 HZ5 hd
  rw [show x6.no = 0 from rfl, show x6.size = 6 from rfl]
  go_wp2_with fail
  have hb7 : Below w6.heap.size w6 (w6.alloc (.cells #[.int .u64 0, .int .i64 6, .slice A n c] 37)) := below_alloc (Below.refl _ _) _
  refine (len_any _ g [x4] 2 10 2 _ (HQ6.out.kept hb7)).mono ?_
  rintro e w7 ⟨rfl, rfl⟩
  go_wp2
  go_ret
  exact ⟨rfl, by rw [HG.out]; exact HB6.out.trans (hb7.mono HZ6.out)⟩
end Go.Proofs.Ytdipihaefiobiaa.F
