/- BucketBounds answers true, whatever it is given; conditions: rate, burst and numbers are of 16 bits, steps of 64. -/
import Derived.Test.YtdaiabgdlopfiaaHx1
import Derived.OpenShut
namespace Go.Proofs.Ytdaiabgdlopfiaa.H
open Go.RowKit Go.Proofs.YtdaiabgdlopfiaaW.PrintWords Go.Proofs.YtdaiabgdlopfiaaW.PrintLast
open Go.Proofs.Ytdaiabgdlopfiaa.B (U64 Ok okB u64B okB_iff u64B_iff tickV tokV subV tick_self tok_self mn_def wu64)
set_option linter.unusedVariables false
set_option linter.unusedSimpArgs false

theorem w64_ {x : Int} (h0 : -9223372036854775808 ≤ x) (h1 : x < 9223372036854775808) : wrap64 x = x := by unfold wrap64; omega

/-- What is taken from the place j on, and the tokens, are within the burst and the rate for each tick since. -/
structure Inv (r b : Int) (A N : List Int) (T K : Int) : Prop where
  len : A.length = N.length
  k0 : 0 ≤ K
  kb : K ≤ b
  t0 : 0 ≤ T
  at_ : ∀ j, j < A.length → 0 ≤ A.getD j 0 ∧ A.getD j 0 ≤ T
  n_ : ∀ j, j < N.length → 0 ≤ N.getD j 0 ∧ N.getD j 0 ≤ 65535
  sum : ∀ j, j < A.length → (N.drop j).sum + K ≤ b + r * (T - A.getD j 0)

theorem drop_sum {N : List Int} {j : Nat} (h : j < N.length) : (N.drop j).sum = N.getD j 0 + (N.drop (j + 1)).sum := by
  rw [List.drop_eq_getElem_cons h, List.sum_cons, List.getD_eq_getElem?_getD, List.getElem?_eq_getElem h]
  rfl
theorem sum_app (l : List Int) (n : Int) : (l ++ [n]).sum = l.sum + n := by simp
theorem getD_app {l : List Int} {x : Int} {j : Nat} (h : j < l.length) : (l ++ [x]).getD j 0 = l.getD j 0 := by
  simp [List.getD_eq_getElem?_getD, List.getElem?_append_left h]
theorem getD_end (l : List Int) (x : Int) : (l ++ [x]).getD l.length 0 = x := by simp [List.getD_eq_getElem?_getD]

/-- One call of Take, at a tick that doesn't go back. -/
theorem Inv.step {r b T K : Int} {A N : List Int} (h : Inv r b A N T K) (hr : 0 ≤ r) (t n : Int) (ht : T ≤ t) (hn : 0 ≤ n) (hn2 : n ≤ 65535) (hk : n ≤ tokV r b T K t) :
    Inv r b (A ++ [t]) (N ++ [n]) (tickV T t) (tokV r b T K t - n) := by
  have hT : tickV T t = t := by unfold tickV; split <;> omega
  have hm : 0 ≤ r * (t - T) := Int.mul_nonneg hr (by omega)
  have hK : tokV r b T K t ≤ b ∧ tokV r b T K t ≤ K + r * (t - T) := by
    unfold tokV
    split
    · exact ⟨h.kb, by omega⟩
    · rw [mn_def]; split <;> omega
  have hl := h.len
  refine ⟨by simp [h.len], by omega, by omega, by rw [hT]; have := h.t0; omega, ?_, ?_, ?_⟩
  · intro j hj
    rw [hT]
    rw [List.length_append, List.length_singleton] at hj
    by_cases he : j = A.length
    · subst he; rw [getD_end]; have := h.t0; omega
    · rw [getD_app (by omega)]; have := h.at_ j (by omega); omega
  · intro j hj
    rw [List.length_append, List.length_singleton] at hj
    by_cases he : j = N.length
    · subst he; rw [getD_end]; omega
    · rw [getD_app (by omega)]; exact h.n_ j (by omega)
  · intro j hj
    rw [hT]
    rw [List.length_append, List.length_singleton] at hj
    by_cases he : j = A.length
    · subst he
      rw [getD_end, hl, List.drop_left]
      have : r * (t - t) = 0 := by rw [Int.sub_self, Int.mul_zero]
      rw [this]
      simp only [List.sum_cons, List.sum_nil]
      omega
    · rw [getD_app (by omega), List.drop_append_of_le_length (by omega), sum_app]
      have s := h.sum j (by omega)
      have e : r * (t - A.getD j 0) = r * (t - T) + r * (T - A.getD j 0) := by rw [← Int.mul_add]; congr 1; omega
      omega

theorem sum_le (N : List Int) (h : ∀ x ∈ N, 0 ≤ x ∧ x ≤ 65535) : 0 ≤ N.sum ∧ N.sum ≤ 65535 * N.length := by
  induction N with
  | nil => simp
  | cons a l ih =>
    have := ih (fun x hx => h x (List.mem_cons_of_mem _ hx))
    have := h a List.mem_cons_self
    simp only [List.sum_cons, List.length_cons]
    omega
theorem mem_getD {N : List Int} {p : Int → Prop} (h : ∀ j, j < N.length → p (N.getD j 0)) : ∀ x ∈ N, p x := by
  intro x hx
  obtain ⟨j, hj, rfl⟩ := List.getElem_of_mem hx
  have := h j hj
  rwa [List.getD_eq_getElem?_getD, List.getElem?_eq_getElem hj] at this

/-- The inner loop: each sum is within its bound. -/
theorem inner {r b T K : Int} {A N : List Int} (h : Inv r b A N T K) (hr : 0 ≤ r) (hr2 : r ≤ 65535) (hb : 0 ≤ b) (hb2 : b ≤ 65535) (hl : A.length ≤ 60) (hT : T ≤ 70000000000000) (x2 x3 : List Int) (x13 y0 y1 y2 y3 : Int) :
    ∀ (m : Nat) (k : Nat) (s : Int), m ≤ A.length → s = (N.drop m).sum → octroilaw10_BucketBounds.l0 k r b x2 x3 A N T (wrap64 (x13 + 1)) y0 y1 y2 y3 = some true →
      octroilaw10_BucketBounds.l1 (k + m + 1) r b x2 x3 A N T x13 s ((m : Int) - 1) y0 y1 y2 y3 = some true := by
  intro m
  induction m with
  | zero =>
    intro k s _ _ H
    simp only [octroilaw10_BucketBounds.l1]
    rw [if_neg (by omega)]
    exact H
  | succ m ih =>
    intro k s hm hs H
    have hlen := h.len
    obtain ⟨a0, a1⟩ := h.at_ m (by omega)
    obtain ⟨n0, n1⟩ := h.n_ m (by omega)
    have hsum := h.sum m (by omega)
    have hds := drop_sum (N := N) (j := m) (by omega)
    have hall : 0 ≤ (N.drop m).sum ∧ (N.drop m).sum ≤ 65535 * (N.drop m).length := sum_le _ (fun x hx => mem_getD (p := fun x => 0 ≤ x ∧ x ≤ 65535) h.n_ x (List.mem_of_mem_drop hx))
    rw [List.length_drop] at hall
    have hk0 := h.k0
    have IH := ih k ((N.drop (m + 1)).sum + N.getD m 0) (by omega) (by omega) H
    rw [show k + (m + 1) + 1 = (k + m + 1) + 1 by omega]
    generalize k + m + 1 = q at *
    simp only [octroilaw10_BucketBounds.l1]
    rw [show (((m + 1 : Nat) : Int) - 1) = (m : Int) by omega, if_pos (by omega), if_pos (by omega), if_pos (by omega), if_pos (by omega)]
    unfold rd
    rw [Int.toNat_natCast, hs]
    have hmul0 : 0 ≤ r * (T - A.getD m 0) := Int.mul_nonneg hr (by omega)
    have hmul1 : r * (T - A.getD m 0) ≤ 65535 * 70000000000000 := Int.le_trans (Int.mul_le_mul_of_nonneg_right hr2 (by omega)) (Int.mul_le_mul_of_nonneg_left (by omega) (by omega))
    rw [wu64 (x := (N.drop (m + 1)).sum + N.getD m 0) (by omega) (by omega), wu64 (x := b) (by omega) (by omega), wu64 (x := r) (by omega) (by omega), wu64 (x := T - A.getD m 0) (by omega) (by omega),
      wu64 (x := r * (T - A.getD m 0)) (by omega) (by omega), wu64 (x := b + r * (T - A.getD m 0)) (by omega) (by omega), if_neg (by omega), w64_ (x := (m : Int) - 1) (by omega) (by omega)]
    exact IH

theorem u16 {x : Int} (h : (Lit.int .u16 x).wf = true) : 0 ≤ x ∧ x ≤ 65535 := by
  have e0 : IntKind.u16.min = 0 := by decide
  have e1 : IntKind.u16.max = 65535 := by decide
  simp [Lit.wf, e0, e1] at h
  omega

theorem outer {r b : Int} (hr : 0 ≤ r) (hr2 : r ≤ 65535) (hb : 0 ≤ b) (hb2 : b ≤ 65535) (x2 x3 : List Int) (hl2 : x2.length ≤ 60) (h2 : ∀ x ∈ x2, 0 ≤ x) (h3 : ∀ x ∈ x3, 0 ≤ x ∧ x ≤ 65535) :
    ∀ (d : Nat) (A N : List Int) (T K : Int) (k : Nat), Inv r b A N T K → A.length ≤ x2.length → x2.length - A.length = d → T ≤ 1099511627776 * A.length → 70 * (d + 1) ≤ k →
      octroilaw10_BucketBounds.l0 k r b x2 x3 A N T (A.length : Int) r b T K = some true := by
  intro d
  induction d with
  | zero =>
    intro A N T K k h hle hd hT hk
    obtain ⟨k, rfl⟩ : ∃ q, k = q + 2 := ⟨k - 2, by omega⟩
    simp only [octroilaw10_BucketBounds.l0]
    rw [if_neg (by omega)]
    simp only [octroilaw10_BucketBounds.j2]
    rw [if_neg (by simp)]
    rfl
  | succ d ih =>
    intro A N T K k h hle hd hT hk
    have hlen := h.len
    have hk0 := h.k0
    have hkb := h.kb
    have ht0 := h.t0
    by_cases hx3 : (A.length : Int) < (x3.length : Int)
    · obtain ⟨k, rfl⟩ : ∃ q, k = q + (A.length + 1) + 1 + 3 := ⟨k - (A.length + 5), by omega⟩
      simp only [octroilaw10_BucketBounds.l0]
      rw [if_pos (by omega)]
      simp only [octroilaw10_BucketBounds.j2]
      rw [if_pos (decide_eq_true hx3), if_pos (by omega), if_pos (by omega), if_pos hx3]
      unfold rd
      rw [Int.toNat_natCast]
      have e2 : 0 ≤ x2.getD A.length 0 := by
        rw [List.getD_eq_getElem?_getD, List.getElem?_eq_getElem (show A.length < x2.length by omega)]
        exact h2 _ (List.getElem_mem _)
      obtain ⟨e3, e4⟩ : 0 ≤ x3.getD A.length 0 ∧ x3.getD A.length 0 ≤ 65535 := by
        rw [List.getD_eq_getElem?_getD, List.getElem?_eq_getElem (show A.length < x3.length by omega)]
        exact h3 _ (List.getElem_mem _)
      have em : 0 ≤ Int.tmod (x2.getD A.length 0) 1099511627776 ∧ Int.tmod (x2.getD A.length 0) 1099511627776 < 1099511627776 := by
        rw [Int.tmod_eq_emod_of_nonneg e2]; omega
      generalize Int.tmod (x2.getD A.length 0) 1099511627776 = st at *
      generalize x3.getD A.length 0 = n at *
      rw [wu64 (x := T + st) (by omega) (by omega), wu64 (x := n) (by omega) (by omega)]
      have ok : Ok r b T K := ⟨⟨hr, by omega⟩, ⟨hb, by omega⟩, ⟨ht0, by omega⟩, ⟨hk0, by omega⟩⟩
      have ut : U64 (T + st) := ⟨by omega, by omega⟩
      have un : U64 n := ⟨e3, by omega⟩
      have ok1 := ok.fill ut
      unfold bucket_Bucket_Take.f
      rw [if_pos ⟨okB_iff.2 ok, u64B_iff.2 ut, u64B_iff.2 un⟩, Option.bind_some]
      dsimp only
      have hTick : tickV T (T + st) = T + st := by unfold tickV; split <;> omega
      have main : ∀ n', 0 ≤ n' → n' ≤ 65535 → n' ≤ tokV r b T K (T + st) → octroilaw10_BucketBounds.j3 (k + (A.length + 1) + 1 + 1) r b x2 x3 A N (T + st) (A.length : Int) n' r b (tickV T (T + st)) (tokV r b T K (T + st) - n') = some true := by
        intro n' f0 f1 f2
        have hI := h.step hr (T + st) n' (by omega) f0 f1 f2
        rw [hTick] at hI ⊢
        have okk : Ok r b (T + st) (tokV r b T K (T + st) - n') := ⟨⟨hr, by omega⟩, ⟨hb, by omega⟩, ut, ⟨hI.k0, by have := hI.kb; omega⟩⟩
        simp only [octroilaw10_BucketBounds.j3]
        unfold bucket_Bucket_Level.f
        rw [if_pos ⟨okB_iff.2 okk, u64B_iff.2 ut⟩, Option.bind_some]
        dsimp only
        rw [tok_self (Int.le_refl _), tick_self (Int.le_refl _), wu64 (x := b) (by omega) (by omega), if_neg (by have := hI.kb; omega), if_pos (by omega), if_pos (by omega)]
        have hn := ih (A ++ [T + st]) (N ++ [n']) (T + st) (tokV r b T K (T + st) - n') (k + 0) hI (by simp; omega) (by simp; omega) (by simp; omega) (by omega)
        have := inner hI hr hr2 hb hb2 (by simp; omega) (by omega) x2 x3 (A.length : Int) r b (T + st) (tokV r b T K (T + st) - n') (A.length + 1) k 0 (by simp) (by rw [List.drop_eq_nil_of_le (by simp; omega)]; rfl)
          (by rw [w64_ (by omega) (by omega)]; simpa using hn)
        simpa using this
      by_cases hc : n ≤ tokV r b T K (T + st)
      · rw [if_pos (decide_eq_true hc)]
        have : subV (tokV r b T K (T + st)) n = tokV r b T K (T + st) - n := by unfold subV; rw [if_neg (by omega)]
        rw [this]
        exact main n e3 e4 hc
      · rw [if_neg (by simpa using hc)]
        have : subV (tokV r b T K (T + st)) n = tokV r b T K (T + st) - 0 := by unfold subV; rw [if_pos (by omega)]; omega
        rw [this]
        exact main 0 (by omega) (by omega) ok1.k.1
    · obtain ⟨k, rfl⟩ : ∃ q, k = q + 2 := ⟨k - 2, by omega⟩
      simp only [octroilaw10_BucketBounds.l0]
      rw [if_pos (by omega)]
      simp only [octroilaw10_BucketBounds.j2]
      rw [if_neg (by simpa using hx3)]
      rfl

theorem bounds_pure : octroilaw10_BucketBounds.Pure := by
  intro r b l2 l3 hr hb hm2 hs2 hw2 hm3 hs3 hw3
  obtain ⟨r0, r1⟩ := u16 hr
  obtain ⟨b0, b1⟩ := u16 hb
  refine ⟨70 * (61 + 1) + 1, ?_⟩
  unfold octroilaw10_BucketBounds.f
  by_cases h2 : (l2.length : Int) > 60
  · rw [if_pos h2]
    simp only [octroilaw10_BucketBounds.j0]
    rw [if_pos trivial]
    rfl
  · rw [if_neg h2]
    simp only [octroilaw10_BucketBounds.j0]
    by_cases h3 : (l3.length : Int) > 60
    · rw [if_pos (decide_eq_true h3)]
      rfl
    · rw [if_neg (by simpa using h3)]
      unfold bucket_New.f
      rw [Option.bind_some, wu64 (x := r) (by omega) (by omega), wu64 (x := b) (by omega) (by omega)]
      exact outer r0 r1 b0 b1 l2 l3 (by omega) (fun x hx => (bounds_u64 (hw2 x hx)).1) (fun x hx => u16 (hw3 x hx)) (l2.length - 0) [] [] 0 b _
        ⟨rfl, b0, Int.le_refl _, Int.le_refl _, fun j hj => absurd hj (by simp), fun j hj => absurd hj (by simp), fun j hj => absurd hj (by simp)⟩ (by simp) rfl (by simp) (by omega)

end Go.Proofs.Ytdaiabgdlopfiaa.H
