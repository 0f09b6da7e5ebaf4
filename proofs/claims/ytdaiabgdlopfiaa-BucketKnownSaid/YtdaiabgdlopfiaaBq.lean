/- BucketWaits answers true; condition: its arguments are of 64 bits. -/
import Derived.Test.YtdaiabgdlopfiaaBp
namespace Go.Proofs.Ytdaiabgdlopfiaa.B
open Go.RowKit Go.Proofs.YtdaiabgdlopfiaaW.PrintWords Go.Proofs.YtdaiabgdlopfiaaW.PrintLast Go.Proofs.YtdaiabgdlopfiaaW.PrintMore
set_option linter.unusedVariables false
set_option linter.unusedSimpArgs false

theorem ne_some {a b : Nat} (h : a < b) : some a ≠ some b := fun e => by have := Option.some.inj e; omega
theorem ne_some' {a b : Nat} (h : b < a) : some a ≠ some b := fun e => by have := Option.some.inj e; omega
theorem beq_selfI (x : Int) : (x == x) = true := by simp

set_option maxHeartbeats 1000000 in
theorem waits_any (r b s t m n : Int) (w : World) (hr : U64 r) (hb : U64 b) (hs : U64 s) (ht : U64 t) (hm : U64 m) (hn : U64 n) :
    Calls Try.prog 5 #[.int .u64 r, .int .u64 b, .int .u64 s, .int .u64 t, .int .u64 m, .int .u64 n] w fun e w' => e = .returned (.bool true) ∧ Below w.heap.size w w' := by
  have ok0 : Ok r b s b := ⟨hr, hb, hs, hb⟩
  have HT := Aside0.mk (fun (g : Nat) (W : World) (h : Bk W g r b s b) => take_any g r b s b t m W h ok0 ht hm)
  have ok1 := ok0.take ht hm
  generalize tickV s t = T at *
  generalize subV (tokV r b s b t) m = K at *
  have e0 : tokV r b T K 0 = K := tok_self ok1.t.1
  have ex : tickV T 0 = T := tick_self ok1.t.1
  have HC := Aside0.mk (fun (g : Nat) (W : World) (h : Bk W g r b T K) => take_any g r b T K 0 n W h ok1 (by decide) hn)
  rw [e0, ex] at HC
  have HW := Aside0.mk (fun (g : Nat) (W : World) (h : Bk W g r b T K) => when_any g r b T K n W h ok1 hn)
  have LM : U64 18446744073709551615 := by decide
  by_cases hk : n ≤ K
  · rw [show decide (n ≤ K) = true from decide_eq_true hk] at HC
    have hv : whenV r b T K n = (T, true) := by unfold whenV; rw [if_pos hk]
    rw [hv] at HW
    clear ok0 ok1 hr hb hs ht hm hn hk hv e0 ex LM
    go_enter Try.func5, Try.ntmps5
    go_wp2_with fail
    refine (new_any r b s _).mono ?_
    rintro e w1 ⟨rfl, K1, B1⟩
    have HK := Aside0.mk K1
    have HB := Aside0.mk B1
    clear K1 B1
    go_wp2_with fail
    refine (HT.out _ _ HK.out).mono ?_
    rintro e w2 ⟨rfl, K2, G2⟩
    have HK2 := Aside0.mk K2
    have HB2 := Aside0.mk (below_own HB.out (Nat.le_refl _) G2)
    clear K2 G2 HK HB
    go_wp2_with fail
    refine (copy_any _ _ _ _ _ _ HK2.out).mono ?_
    rintro e w3 ⟨rfl, K3, B3⟩
    have HK3 := Aside0.mk K3
    have HKb := Aside0.mk (blk_below HK2.out B3)
    have HB3 := Aside0.mk (below_step HB2.out B3)
    have HLT := Aside0.mk (blk_lt HK2.out)
    clear K3 B3 HK2
    go_wp2_with fail
    refine (HC.out _ _ HK3.out).mono ?_
    rintro e w4 ⟨rfl, K4, G4⟩
    have HKc := Aside0.mk (blk_grown HKb.out G4 (ne_some HLT.out))
    have HB4 := Aside0.mk (below_own HB3.out (Nat.le_of_lt HLT.out) G4)
    clear K4 G4 HKb HB3 HB2 HK3
    go_wp2_with fail
    refine (HW.out _ _ HKc.out).mono ?_
    rintro e w5 ⟨rfl, B5⟩
    have HKd := Aside0.mk (blk_below HKc.out B5)
    have HB5 := Aside0.mk (below_step HB4.out B5)
    clear B5 HKc HB4
    go_wp2_with fail
    refine (tick_any _ _ _ _ _ _ HKd.out).mono ?_
    rintro e w6 ⟨rfl, rfl⟩
    have q := beq_selfI T
    go_wp2_with fail
    refine (works_any _).mono ?_
    rintro e w7 ⟨rfl, B7⟩
    have HB7 := Aside0.mk (below_step HB5.out B7)
    clear B7
    go_wp2_with fail
    go_ret
    exact ⟨rfl, HB7.out⟩
  · rw [show decide (n ≤ K) = false from decide_eq_false hk] at HC
    cases hv : (whenV r b T K n).2 with
    | false =>
      obtain ⟨h1, h2⟩ := never ok1 hn hk hv
      rw [hv, h1] at HW
      have HL := Aside0.mk (fun (g : Nat) (W : World) (h : Bk W g r b T K) => take_any g r b T K 18446744073709551615 n W h ok1 LM hn)
      rw [show decide (n ≤ tokV r b T K 18446744073709551615) = false from decide_eq_false h2] at HL
      clear ok0 ok1 hr hb hs ht hm hn hk hv e0 ex LM h1 h2
      go_enter Try.func5, Try.ntmps5
      go_wp2_with fail
      refine (new_any r b s _).mono ?_
      rintro e w1 ⟨rfl, K1, B1⟩
      have HK := Aside0.mk K1
      have HB := Aside0.mk B1
      clear K1 B1
      go_wp2_with fail
      refine (HT.out _ _ HK.out).mono ?_
      rintro e w2 ⟨rfl, K2, G2⟩
      have HK2 := Aside0.mk K2
      have HB2 := Aside0.mk (below_own HB.out (Nat.le_refl _) G2)
      clear K2 G2 HK HB
      go_wp2_with fail
      refine (copy_any _ _ _ _ _ _ HK2.out).mono ?_
      rintro e w3 ⟨rfl, K3, B3⟩
      have HK3 := Aside0.mk K3
      have HKb := Aside0.mk (blk_below HK2.out B3)
      have HB3 := Aside0.mk (below_step HB2.out B3)
      have HLT := Aside0.mk (blk_lt HK2.out)
      clear K3 B3 HK2
      go_wp2_with fail
      refine (HC.out _ _ HK3.out).mono ?_
      rintro e w4 ⟨rfl, K4, G4⟩
      have HKc := Aside0.mk (blk_grown HKb.out G4 (ne_some HLT.out))
      have HB4 := Aside0.mk (below_own HB3.out (Nat.le_of_lt HLT.out) G4)
      clear K4 G4 HKb HB3 HB2 HK3
      go_wp2_with fail
      refine (HW.out _ _ HKc.out).mono ?_
      rintro e w5 ⟨rfl, B5⟩
      have HKd := Aside0.mk (blk_below HKc.out B5)
      have HB5 := Aside0.mk (below_step HB4.out B5)
      clear B5 HKc HB4
      go_wp2_with fail
      refine (copy_any _ _ _ _ _ _ HKd.out).mono ?_
      rintro e w6 ⟨rfl, K6, B6⟩
      have HK6 := Aside0.mk K6
      have HB6 := Aside0.mk (below_step HB5.out B6)
      have HL6 := Aside0.mk (below_size HB5.out)
      clear K6 B6 HKd HB5
      go_wp2_with fail
      refine (HL.out _ _ HK6.out).mono ?_
      rintro e w7 ⟨rfl, K7, G7⟩
      have HB7 := Aside0.mk (below_own HB6.out HL6.out G7)
      clear K7 G7 HK6 HB6
      go_wp2_with fail
      refine (works_any _).mono ?_
      rintro e w8 ⟨rfl, B8⟩
      have HB8 := Aside0.mk (below_step HB7.out B8)
      clear B8
      go_wp2_with fail
      go_ret
      exact ⟨rfl, HB8.out⟩
    | true =>
      obtain ⟨h1, h2, h3, h4⟩ := first ok1 hn hk hv
      rw [hv] at HW
      generalize (whenV r b T K n).1 = A at *
      have u1 : U64 (A - 1) := by obtain ⟨a, b⟩ := h2; obtain ⟨c, d⟩ := ok1.t; exact ⟨by omega, by omega⟩
      have HE := Aside0.mk (fun (g : Nat) (W : World) (h : Bk W g r b T K) => take_any g r b T K (A - 1) n W h ok1 u1 hn)
      have HN := Aside0.mk (fun (g : Nat) (W : World) (h : Bk W g r b T K) => take_any g r b T K A n W h ok1 h2 hn)
      rw [show decide (n ≤ tokV r b T K (A - 1)) = false from decide_eq_false h3] at HE
      rw [show decide (n ≤ tokV r b T K A) = true from decide_eq_true h4] at HN
      have q1 : decide (A ≤ T) = false := decide_eq_false (by omega)
      have q2 : IntKind.u64.wrap (A - 1) = A - 1 := by obtain ⟨a, b⟩ := u1; simp only [IntKind.wrap_u64]; omega
      clear ok0 ok1 hr hb hs ht hm hn hk hv e0 ex LM h1 h2 h3 h4 u1
      go_enter Try.func5, Try.ntmps5
      go_wp2_with fail
      refine (new_any r b s _).mono ?_
      rintro e w1 ⟨rfl, K1, B1⟩
      have HK := Aside0.mk K1
      have HB := Aside0.mk B1
      clear K1 B1
      go_wp2_with fail
      refine (HT.out _ _ HK.out).mono ?_
      rintro e w2 ⟨rfl, K2, G2⟩
      have HK2 := Aside0.mk K2
      have HB2 := Aside0.mk (below_own HB.out (Nat.le_refl _) G2)
      clear K2 G2 HK HB
      go_wp2_with fail
      refine (copy_any _ _ _ _ _ _ HK2.out).mono ?_
      rintro e w3 ⟨rfl, K3, B3⟩
      have HK3 := Aside0.mk K3
      have HKb := Aside0.mk (blk_below HK2.out B3)
      have HB3 := Aside0.mk (below_step HB2.out B3)
      have HLT := Aside0.mk (blk_lt HK2.out)
      clear K3 B3 HK2
      go_wp2_with fail
      refine (HC.out _ _ HK3.out).mono ?_
      rintro e w4 ⟨rfl, K4, G4⟩
      have HKc := Aside0.mk (blk_grown HKb.out G4 (ne_some HLT.out))
      have HB4 := Aside0.mk (below_own HB3.out (Nat.le_of_lt HLT.out) G4)
      clear K4 G4 HKb HB3 HB2 HK3
      go_wp2_with fail
      refine (HW.out _ _ HKc.out).mono ?_
      rintro e w5 ⟨rfl, B5⟩
      have HKd := Aside0.mk (blk_below HKc.out B5)
      have HB5 := Aside0.mk (below_step HB4.out B5)
      clear B5 HKc HB4
      go_wp2_with fail
      refine (tick_any _ _ _ _ _ _ HKd.out).mono ?_
      rintro e w6 ⟨rfl, rfl⟩
      go_wp2_with fail
      refine (copy_any _ _ _ _ _ _ HKd.out).mono ?_
      rintro e w6 ⟨rfl, K6, B6⟩
      have HK6 := Aside0.mk K6
      have HKe := Aside0.mk (blk_below HKd.out B6)
      have HB6 := Aside0.mk (below_step HB5.out B6)
      have HL6 := Aside0.mk (below_size HB5.out)
      clear K6 B6 HKd HB5
      go_wp2_with fail
      refine (copy_any _ _ _ _ _ _ HKe.out).mono ?_
      rintro e w7 ⟨rfl, K7, B7⟩
      have HK7 := Aside0.mk K7
      have HKf := Aside0.mk (blk_below HK6.out B7)
      have HB7 := Aside0.mk (below_step HB6.out B7)
      have HL7 := Aside0.mk (below_size HB6.out)
      have HL67 := Aside0.mk (blk_lt HK6.out)
      clear K7 B7 HKe HB6 HK6
      go_wp2_with fail
      refine (HE.out _ _ HKf.out).mono ?_
      rintro e w8 ⟨rfl, K8, G8⟩
      have HK8 := Aside0.mk (blk_grown HK7.out G8 (ne_some' HL67.out))
      have HB8 := Aside0.mk (below_own HB7.out HL6.out G8)
      clear K8 G8 HKf HB7 HK7
      go_wp2_with fail
      refine (HN.out _ _ HK8.out).mono ?_
      rintro e w9 ⟨rfl, K9, G9⟩
      have HB9 := Aside0.mk (below_own HB8.out HL7.out G9)
      clear K9 G9 HK8 HB8
      go_wp2_with fail
      refine (works_any _).mono ?_
      rintro e w10 ⟨rfl, B10⟩
      have HB10 := Aside0.mk (below_step HB9.out B10)
      clear B10
      go_wp2_with fail
      go_ret
      exact ⟨rfl, HB10.out⟩
end Go.Proofs.Ytdaiabgdlopfiaa.B
