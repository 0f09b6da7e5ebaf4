/- apart answers true of entries that lie one behind the other, in plain Lean; condition: the ring is right. -/
import Derived.Test.YtbbjedpbmofmkaaPlainC
namespace Go.Proofs.Ytbbjedpbmofmkaa.E
open Go.RowKit Go.Proofs.YtbbjedpbmofmkaaW.PrintWords Go.Proofs.YtbbjedpbmofmkaaW.PrintLast Go.Proofs.YtbbjedpbmofmkaaW.PrintMore
set_option linter.unusedVariables false
set_option linter.unusedSimpArgs false

/-- A little further on in one segment. -/
theorem seg_step {a b c s n k : Int} (h : RightP a b c) (hn : atP b c s + n ≤ c) (k0 : 0 ≤ k) (k1 : k < n) :
    (s + k) % (b * c) = s % (b * c) + k ∧ (s + k) % (b * c) / c = s % (b * c) / c := by
  obtain ⟨m0, m1⟩ := mul_bd h.b0 h.b1 h.c0 h.c1
  have c0 := h.c0
  have r0 := Int.emod_nonneg s (show b * c ≠ 0 by omega)
  have r1 := Int.emod_lt_of_pos s (show 0 < b * c by omega)
  have q0 := Int.emod_nonneg (s % (b * c)) (show c ≠ 0 by omega)
  have q1 := Int.emod_lt_of_pos (s % (b * c)) (show 0 < c by omega)
  have e := Int.mul_ediv_add_emod (s % (b * c)) c
  have hm : s % (b * c) / c < b := Int.ediv_lt_of_lt_mul (by omega) r1
  have hmul : c * (s % (b * c) / c + 1) ≤ c * b := Int.mul_le_mul_of_nonneg_left (by omega) (by omega)
  have hexp : c * (s % (b * c) / c + 1) = c * (s % (b * c) / c) + c := by rw [Int.mul_add, Int.mul_one]
  have hcb : c * b = b * c := Int.mul_comm c b
  unfold atP at hn
  have hlt : s % (b * c) + k < b * c := by omega
  have e1 : (s + k) % (b * c) = s % (b * c) + k := by
    rw [← Int.emod_add_emod]
    exact Int.emod_eq_of_lt (by omega) hlt
  refine ⟨e1, ?_⟩
  rw [e1]
  have := (Int.ediv_emod_unique (show 0 < c by omega) (a := s % (b * c) + k) (q := s % (b * c) / c) (r := s % (b * c) % c + k)).2 ⟨by omega, by omega, by omega⟩
  exact this.1

/-- Two positions, no further apart than the ring is long, stand on two blocks. -/
theorem pos_ne {B p q : Int} (h0 : q < p) (h1 : p < q + B) : q % B ≠ p % B := by
  intro e
  have h2 := (Int.emod_eq_emod_iff_emod_sub_eq_zero (m := p) (n := B) (k := q)).1 e.symm
  rw [Int.emod_eq_of_lt (by omega) (by omega)] at h2
  omega

/-- What is taken was taken by a position from head on. -/
def Tinv (a B head P : Int) (T : List Bool) : Prop := T.length = 1025 ∧ ∀ x : Nat, T.getD x false = true → ∃ q, head ≤ q ∧ q < P ∧ (x : Int) = a + q % B
theorem Tinv.le {a B head P P' : Int} {T : List Bool} (h : Tinv a B head P T) (hp : P ≤ P') : Tinv a B head P' T :=
  ⟨h.1, fun x hx => let ⟨q, h1, h2, h3⟩ := h.2 x hx; ⟨q, h1, by omega, h3⟩⟩
theorem Tinv.put {a B head P : Int} {T : List Bool} (h : Tinv a B head P T) (hp : head ≤ P) (x : Nat) (hx : (x : Int) = a + P % B) : Tinv a B head (P + 1) (T.set x true) := by
  refine ⟨by simpa using h.1, fun y hy => ?_⟩
  by_cases e : x = y
  · subst e; exact ⟨P, hp, by omega, hx⟩
  · rw [List.getD_eq_getElem?_getD, List.getElem?_set_ne e, ← List.getD_eq_getElem?_getD] at hy
    obtain ⟨q, h1, h2, h3⟩ := h.2 y hy
    exact ⟨q, h1, by omega, h3⟩

/-- Entries, one behind the other, between two positions. -/
structure Inv (b c : Int) (S N : List Int) (head tail : Int) : Prop where
  len : S.length = N.length
  ll : S.length ≤ 100
  pos : ∀ i : Nat, i < S.length → 1 ≤ N.getD i 0 ∧ atP b c (S.getD i 0) + N.getD i 0 ≤ c ∧ head ≤ S.getD i 0 ∧ S.getD i 0 + N.getD i 0 ≤ tail
  ord : ∀ i : Nat, i + 1 < S.length → S.getD i 0 + N.getD i 0 ≤ S.getD (i + 1) 0
  h0 : 0 ≤ head
  ht : head ≤ tail
  sp : tail - head ≤ b * c
  tb : tail < 4611686018427387904

theorem mayB_of {a b c p : Int} (h : RightP a b c) (hp : p < 4611686018427387904) : mayB a b c p = true := by
  unfold mayB; rw [rightB_true h, decide_eq_true hp]; rfl

theorem rd_nat (xs : List Int) (i : Nat) : rd xs (i : Int) = xs.getD i 0 := rfl

theorem apart_l1 {a b c : Int} {S N : List Int} {head tail : Int} (hr : RightP a b c) (hI : Inv b c S N head tail) (i : Nat) (hi : i < S.length)
    (next : ∀ (fuel : Nat) (T : List Bool), Tinv a (b * c) head (S.getD i 0 + N.getD i 0) T → tail - (S.getD i 0 + N.getD i 0) + 2 * (S.length - (i + 1) : Nat) + 5 ≤ fuel → octroilaw16_apart.l0 fuel S N T ((i + 1 : Nat) : Int) a b c = some true)
    (d : Nat) : ∀ (fuel : Nat) (T : List Bool) (k : Int), 0 ≤ k → k + d = N.getD i 0 → Tinv a (b * c) head (S.getD i 0 + k) T → tail - (S.getD i 0 + k) + 2 * (S.length - i : Nat) + 4 ≤ fuel →
      octroilaw16_apart.l1 fuel S N T (i : Int) (S.getD i 0 % (b * c) / c) k a b c = some true := by
  obtain ⟨n1, nat_, nh, nt⟩ := hI.pos i hi
  obtain ⟨m0, m1⟩ := mul_bd hr.b0 hr.b1 hr.c0 hr.c1
  have hb := hI.tb
  have hh := hI.h0
  have hlen := hI.len
  have hll := hI.ll
  have hsp := hI.sp
  have c1 := hr.c1
  have cat : 0 ≤ atP b c (S.getD i 0) := (at_bd hr).1
  have a0 := hr.a0
  have rs := hr.s
  induction d with
  | zero =>
    intro fuel T k k0 kd hT hf
    have hf0 : 1 ≤ fuel := by omega
    obtain ⟨f, rfl⟩ : ∃ m, fuel = m + 1 := ⟨fuel - 1, by omega⟩
    rw [octroilaw16_apart.l1, show rd N (i : Int) = N.getD i 0 from rfl, show rd S (i : Int) = S.getD i 0 from rfl]
    rw [if_pos (by omega), if_pos (by omega), if_neg (by omega), show wrap64 ((i : Int) + 1) = ((i + 1 : Nat) : Int) from by rw [w64 (by omega) (by omega)]; rfl]
    obtain rfl : k = N.getD i 0 := by omega
    exact next f T hT (by omega)
  | succ d ih =>
    intro fuel T k k0 kd hT hf
    have hf0 : 6 ≤ fuel := by omega
    obtain ⟨f, rfl⟩ : ∃ m, fuel = (m + 3) + 1 := ⟨fuel - 4, by omega⟩
    obtain ⟨e1, e2⟩ := seg_step hr nat_ k0 (show k < N.getD i 0 by omega)
    have r0 := Int.emod_nonneg (S.getD i 0 + k) (show b * c ≠ 0 by omega)
    have r1 := Int.emod_lt_of_pos (S.getD i 0 + k) (show 0 < b * c by omega)
    have hm : mayB a b c (S.getD i 0 + k) = true := mayB_of hr (by omega)
    have hk : k ≤ 1024 := by omega
    rw [octroilaw16_apart.l1, show rd N (i : Int) = N.getD i 0 from rfl, show rd S (i : Int) = S.getD i 0 from rfl]
    rw [if_pos (by omega), if_pos (by omega), if_pos (by omega), if_pos (by omega), wu64 (x := k) (by omega) (by omega), wu64 (x := S.getD i 0 + k) (by omega) (by omega),
      segment_eq, segment_ref a b c _ hm (by omega), place_eq, place_ref a b c _ hm (by omega), Option.bind_some, Option.bind_some]
    simp only []
    rw [e2, if_pos rfl, if_neg (by omega), w64 (x := b * c) (by omega) (by omega), w64 (x := a + b * c) (by omega) (by omega), if_neg (by omega), if_neg (by omega), if_pos (by omega), if_pos (by have := hT.1; omega)]
    have hx : ((a + (S.getD i 0 + k) % (b * c)).toNat : Int) = a + (S.getD i 0 + k) % (b * c) := by omega
    have hnot : ¬ (rdOf false T (a + (S.getD i 0 + k) % (b * c)) = true) := by
      intro ht
      obtain ⟨q, q1, q2, q3⟩ := hT.2 _ ht
      have := pos_ne (B := b * c) q2 (by omega)
      omega
    rw [if_neg hnot, w64 (x := k + 1) (by omega) (by omega)]
    refine ih (f + 3) _ (k + 1) (by omega) (by omega) ?_ (by omega)
    have := hT.put (by omega) _ hx
    rw [show S.getD i 0 + k + 1 = S.getD i 0 + (k + 1) by omega] at this
    exact this

theorem apart_l0 {a b c : Int} {S N : List Int} {head tail : Int} (hr : RightP a b c) (hI : Inv b c S N head tail) (e : Nat) : ∀ (i fuel : Nat) (T : List Bool) (Q : Int), i + e = S.length → Q ≤ tail → (i < S.length → Q ≤ S.getD i 0) →
    Tinv a (b * c) head Q T → tail - Q + 2 * e + 5 ≤ fuel → octroilaw16_apart.l0 fuel S N T (i : Int) a b c = some true := by
  have hb := hI.tb
  have hh := hI.h0
  have hlen := hI.len
  have hll := hI.ll
  induction e with
  | zero =>
    intro i fuel T Q hi hQ _ hT hf
    have hf0 : 5 ≤ fuel := by omega
    obtain ⟨f, rfl⟩ : ∃ m, fuel = m + 1 := ⟨fuel - 1, by omega⟩
    simp only [octroilaw16_apart.l0]
    rw [if_neg (by omega)]
  | succ e ih =>
    intro i fuel T Q hi hQ hQS hT hf
    have hlt : i < S.length := by omega
    obtain ⟨n1, nat_, nh, nt⟩ := hI.pos i hlt
    have hf0 : 7 ≤ fuel := by omega
    obtain ⟨f, rfl⟩ : ∃ m, fuel = (m + 3) + 1 := ⟨fuel - 4, by omega⟩
    have hq := hQS hlt
    rw [octroilaw16_apart.l0, show rd S (i : Int) = S.getD i 0 from rfl]
    rw [if_pos (by omega), if_pos (by omega), segment_eq, segment_ref a b c _ (mayB_of hr (by omega)) (by omega), Option.bind_some]
    refine apart_l1 hr hI i hlt ?_ (N.getD i 0).toNat (f + 3) T 0 (by omega) (by omega) ?_ (by omega)
    · intro fuel T hT hf
      refine ih (i + 1) fuel T (S.getD i 0 + N.getD i 0) (by omega) (by omega) (fun h => hI.ord i h) hT (by omega)
    · exact hT.le (by omega)

theorem rep_false (n x : Nat) : (List.replicate n false).getD x false = false := by
  rw [List.getD_eq_getElem?_getD, List.getElem?_replicate]
  split <;> rfl

theorem apart_law {a b c : Int} {S N : List Int} {head tail : Int} (hr : RightP a b c) (hI : Inv b c S N head tail) (fuel : Nat) (hf : 65536 + 2 * S.length + 5 ≤ fuel) : octroilaw16_apart.f fuel a b c S N = some true := by
  obtain ⟨m0, m1⟩ := mul_bd hr.b0 hr.b1 hr.c0 hr.c1
  unfold octroilaw16_apart.f
  rw [if_pos (by decide)]
  have hsp := hI.sp
  refine apart_l0 hr hI S.length 0 fuel _ head (by omega) hI.ht (fun h => (hI.pos 0 h).2.2.1) ⟨List.length_replicate, fun x hx => ?_⟩ (by omega)
  exfalso
  rw [rep_false] at hx
  exact Bool.noConfusion hx
end Go.Proofs.Ytbbjedpbmofmkaa.E
