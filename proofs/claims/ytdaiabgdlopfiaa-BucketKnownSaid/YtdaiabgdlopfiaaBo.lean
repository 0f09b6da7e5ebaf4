/- octroilaw10.works answers true; no condition. -/
import Derived.Test.YtdaiabgdlopfiaaBn
namespace Go.Proofs.Ytdaiabgdlopfiaa.B
open Go.RowKit Go.Proofs.YtdaiabgdlopfiaaW.PrintWords Go.Proofs.YtdaiabgdlopfiaaW.PrintLast Go.Proofs.YtdaiabgdlopfiaaW.PrintMore
set_option linter.unusedVariables false
set_option linter.unusedSimpArgs false

/-- A call that writes to one block of the call's own. -/
theorem below_own {w W w2 : World} {g : Nat} (h : Below w.heap.size w W) (hk : w.heap.size ≤ g) (hg : W.grownBy w2 (some g)) : Below w.heap.size w w2 :=
  h.grown hg h.size (fun k e => by cases e; exact hk)
theorem ok_num {a b c d : Int} (h : U64 a ∧ U64 b ∧ U64 c ∧ U64 d) : Ok a b c d := ⟨h.1, h.2.1, h.2.2.1, h.2.2.2⟩
instance (x : Int) : Decidable (U64 x) := inferInstanceAs (Decidable (0 ≤ x ∧ x ≤ 18446744073709551615))

set_option maxHeartbeats 1000000 in
theorem works_any (w : World) : Calls Try.prog 8 #[] w fun e w' => e = .returned (.bool true) ∧ Below w.heap.size w w' := by
  go_enter Try.func8, Try.ntmps8
  go_wp2_with fail
  refine (new_any 3 10 5 _).mono ?_
  rintro e w1 ⟨rfl, K1, B1⟩
  obtain ⟨g, hg⟩ : ∃ g, w.heap.size = g := ⟨_, rfl⟩
  rw [hg] at K1
  have GE := Aside0.mk (Nat.le_of_eq hg)
  have HK1 := Aside0.mk K1
  have HB1 := Aside0.mk B1
  have HGN := Aside0.mk hg
  rw [hg]
  clear K1 B1 hg
  go_wp2_with fail
  refine (take_any g 3 10 5 10 5 8 _ HK1.out (ok_num (by decide)) (by decide) (by decide)).mono ?_
  rintro e w2 ⟨rfl, K2, G2⟩
  rw [show decide (8 ≤ tokV 3 10 5 10 5) = true from by decide, show tickV 5 5 = 5 from by decide, show subV (tokV 3 10 5 10 5) 8 = 2 from by decide] at *
  have HK2 := Aside0.mk K2
  have HB2 := Aside0.mk (below_own HB1.out GE.out G2)
  clear K2 G2 HK1 HB1
  go_wp2_with fail
  refine (level_any g 3 10 5 2 6 _ HK2.out (ok_num (by decide)) (by decide)).mono ?_
  rintro e w3 ⟨rfl, K3, G3⟩
  rw [show tokV 3 10 5 2 6 = 5 from by decide, show tickV 5 6 = 6 from by decide] at *
  have HK3 := Aside0.mk K3
  have HB3 := Aside0.mk (below_own HB2.out GE.out G3)
  clear K3 G3 HK2 HB2
  go_wp2_with fail
  refine (take_any g 3 10 6 5 6 6 _ HK3.out (ok_num (by decide)) (by decide) (by decide)).mono ?_
  rintro e w4 ⟨rfl, K4, G4⟩
  rw [show decide (6 ≤ tokV 3 10 6 5 6) = false from by decide, show tickV 6 6 = 6 from by decide, show subV (tokV 3 10 6 5 6) 6 = 5 from by decide] at *
  have HK4 := Aside0.mk K4
  have HB4 := Aside0.mk (below_own HB3.out GE.out G4)
  clear K4 G4 HK3 HB3
  go_wp2_with fail
  refine (when_any g 3 10 6 5 6 _ HK4.out (ok_num (by decide)) (by decide)).mono ?_
  rintro e w5 ⟨rfl, B5⟩
  rw [show (whenV 3 10 6 5 6).1 = 7 from by decide, show (whenV 3 10 6 5 6).2 = true from by decide] at *
  have HK5 := Aside0.mk (blk_below HK4.out B5)
  have HB5 := Aside0.mk (below_step HB4.out B5)
  clear B5 HK4 HB4
  go_wp2_with fail
  refine (take_any g 3 10 6 5 7 6 _ HK5.out (ok_num (by decide)) (by decide) (by decide)).mono ?_
  rintro e w6 ⟨rfl, K6, G6⟩
  rw [show decide (6 ≤ tokV 3 10 6 5 7) = true from by decide, show tickV 6 7 = 7 from by decide, show subV (tokV 3 10 6 5 7) 6 = 2 from by decide] at *
  have HK6 := Aside0.mk K6
  have HB6 := Aside0.mk (below_own HB5.out GE.out G6)
  clear K6 G6 HK5 HB5
  go_wp2_with fail
  refine (level_any g 3 10 7 2 4 _ HK6.out (ok_num (by decide)) (by decide)).mono ?_
  rintro e w7 ⟨rfl, K7, G7⟩
  rw [show tokV 3 10 7 2 4 = 2 from by decide, show tickV 7 4 = 7 from by decide] at *
  have HK7 := Aside0.mk K7
  have HB7 := Aside0.mk (below_own HB6.out GE.out G7)
  clear K7 G7 HK6 HB6
  go_wp2_with fail
  refine (level_any g 3 10 7 2 100 _ HK7.out (ok_num (by decide)) (by decide)).mono ?_
  rintro e w8 ⟨rfl, K8, G8⟩
  rw [show tokV 3 10 7 2 100 = 10 from by decide] at *
  have HB8 := Aside0.mk (below_own HB7.out GE.out G8)
  clear K8 G8 HK7 HB7
  go_wp2_with fail
  go_ret
  exact ⟨rfl, by rw [HGN.out]; first | exact HB8.out | (have := HB8.out; rwa [HGN.out] at this)⟩
end Go.Proofs.Ytdaiabgdlopfiaa.B
