/- BucketPlays answers true, in plain Lean: the loop over the acts; condition: all numbers are of 64 bits. -/
import Derived.Test.YtdaiabgdlopfiaaKu
import Derived.Test.YtdaiabgdlopfiaaKx2
namespace Go.Proofs.Ytdaiabgdlopfiaa.K
open Go.RowKit Go.Proofs.YtdaiabgdlopfiaaW.PrintWords Go.Proofs.YtdaiabgdlopfiaaW.PrintLast Go.Proofs.YtdaiabgdlopfiaaW.PrintMore
open Go.Proofs.Ytdaiabgdlopfiaa.B (U64 Ok okB u64B okB_iff u64B_iff tickV tokV subV tick_self tok_self mn_def wu64 whenV beq_selfI)
set_option linter.unusedVariables false
set_option linter.unusedSimpArgs false

theorem wp64 {x : Int} (h0 : -9223372036854775808 ≤ x) (h1 : x < 9223372036854775808) : wrap64 x = x := by unfold wrap64; omega

theorem plays_loop {r b t : Int} (h0 : Ok r b t b) (l : List S40) (hl : l.length ≤ 60) (hu : ∀ x ∈ l, U64 x.f1 ∧ U64 x.f2) : ∀ (d : Nat) (i : Int) (T K : Int) (k : Nat), 0 ≤ i → i ≤ l.length → (l.length : Int) - i = d → Ok r b T K → 2 * d + 1 ≤ k →
    octroilaw10_BucketPlays.l0 k l i r b T K r b T K r b t b r b t b = some true := by
  intro d
  induction d with
  | zero =>
    intro i T K k hi0 hi1 hd ok hk
    obtain ⟨k, rfl⟩ : ∃ q, k = q + 1 := ⟨k - 1, by omega⟩
    simp only [octroilaw10_BucketPlays.l0]
    rw [if_neg (by omega)]
    unfold bucket_Bucket_Tick.f octroilaw10_works.f
    rw [Option.bind_some, if_pos rfl, level_ok h0 u0, Option.bind_some, if_pos (tok_self h0.t.1)]
    rfl
  | succ d ih =>
    intro i T K k hi0 hi1 hd ok hk
    obtain ⟨k, rfl⟩ : ∃ q, k = q + 1 + 1 + 1 := ⟨k - 3, by omega⟩
    have hx : rd_T40 l i ∈ l := by
      unfold rd_T40
      rw [List.getD_eq_getElem?_getD, List.getElem?_eq_getElem (show i.toNat < l.length by omega)]
      exact List.getElem_mem _
    obtain ⟨u1, u2⟩ := hu _ hx
    obtain ⟨T', K', ok', e⟩ := does_ok ok (rd_T40 l i).f0 (rd_T40 l i).f1 (rd_T40 l i).f2 u1 u2
    have IH := ih (i + 1) T' K' (k + 1) (by omega) (by omega) (by omega) ok' (by omega)
    rw [octroilaw10_BucketPlays.l0, if_pos (by omega), if_pos hi0, e, Option.bind_some]
    unfold bucket_Bucket_Copy.f bucket_Bucket_Tick.f
    dsimp only
    rw [Option.bind_some, if_pos rfl, Option.bind_some]
    dsimp only
    rw [if_pos rfl, Option.bind_some]
    dsimp only
    rw [if_pos rfl, level_ok ok' u0, Option.bind_some]
    dsimp only
    have e1 : tokV r b T' K' 0 = K' := tok_self ok'.t.1
    have e2 : tickV T' 0 = T' := tick_self ok'.t.1
    rw [e1, e2, octroilaw10_BucketPlays.j1, if_neg (by simp), takeB_ok ok' u0 ok'.k, Option.bind_some]
    dsimp only
    have okz : Ok r b T' 0 := ⟨ok'.r, ok'.b, ok'.t, u0⟩
    have e3 : subV K' K' = 0 := by unfold subV; rw [if_neg (by omega)]; omega
    have e4 : tokV r b T' 0 0 = 0 := tok_self ok'.t.1
    rw [e1, e2, e3, if_pos (decide_eq_true (Int.le_refl _)), level_ok okz u0, Option.bind_some]
    dsimp only
    rw [e4, if_pos rfl, level_ok ok' u0, Option.bind_some]
    dsimp only
    rw [e1, e2, if_pos rfl, wp64 (by omega) (by omega)]
    exact IH

theorem plays_law {r b t : Int} (hr : U64 r) (hb : U64 b) (ht : U64 t) (l : List S40) (hu : ∀ x ∈ l, U64 x.f1 ∧ U64 x.f2) (k : Nat) (hk : 121 ≤ k) : octroilaw10_BucketPlays.f k r b t l = some true := by
  unfold octroilaw10_BucketPlays.f
  by_cases h : (l.length : Int) > 60
  · rw [if_pos h]; rfl
  · rw [if_neg h]
    unfold bucket_New.f octroiref10_New.f bucket_Bucket_Copy.f
    simp only [Option.bind_some]
    exact plays_loop ⟨hr, hb, ht, hb⟩ l (by omega) hu l.length 0 t b k (by omega) (by omega) (by omega) ⟨hr, hb, ht, hb⟩ (by omega)
end Go.Proofs.Ytdaiabgdlopfiaa.K
