/- SegmentRing answers true, in plain Lean; condition: the position is not negative. -/
import Derived.Test.YtbbjedpbmofmkaaPlainD
namespace Go.Proofs.Ytbbjedpbmofmkaa.E
open Go.RowKit Go.Proofs.YtbbjedpbmofmkaaW.PrintWords Go.Proofs.YtbbjedpbmofmkaaW.PrintLast Go.Proofs.YtbbjedpbmofmkaaW.PrintMore
set_option linter.unusedVariables false
set_option linter.unusedSimpArgs false

theorem at_next {a b c t : Int} (h : RightP a b c) : atP b c (t + (c - atP b c t)) = 0 := by
  have c0 := h.c0
  unfold atP
  rw [Int.emod_emod_of_dvd _ (Int.dvd_mul_left b c), Int.emod_emod_of_dvd _ (Int.dvd_mul_left b c)]
  have e := Int.mul_ediv_add_emod t c
  rw [show t + (c - t % c) = c * (t / c + 1) by rw [Int.mul_add, Int.mul_one]; omega]
  exact Int.mul_emod_right _ _

def headOf (S : List Int) (tail : Int) : Int := if S = [] then tail else S.getD 0 0

theorem Inv.drop {b c : Int} {S N : List Int} {tail : Int} (h : Inv b c S N (headOf S tail) tail) : Inv b c (S.drop 1) (N.drop 1) (headOf (S.drop 1) tail) tail := by
  have hl := h.len
  have hll := h.ll
  have gS : ∀ i, (S.drop 1).getD i 0 = S.getD (i + 1) 0 := fun i => by simp [List.getD_eq_getElem?_getD, Nat.add_comm]
  have gN : ∀ i, (N.drop 1).getD i 0 = N.getD (i + 1) 0 := fun i => by simp [List.getD_eq_getElem?_getD, Nat.add_comm]
  have hd : headOf S tail ≤ headOf (S.drop 1) tail ∧ headOf (S.drop 1) tail ≤ tail ∧ (∀ i, i < (S.drop 1).length → headOf (S.drop 1) tail ≤ (S.drop 1).getD i 0) := by
    by_cases e : S.drop 1 = []
    · refine ⟨by rw [show headOf (S.drop 1) tail = tail by unfold headOf; rw [if_pos e]]; exact h.ht, by unfold headOf; rw [if_pos e]; exact Int.le_refl _, fun i hi => ?_⟩
      rw [e] at hi; simp at hi
    · have hlen : 0 < (S.drop 1).length := List.length_pos_iff.2 e
      have hl1 : 1 < S.length := by simp at hlen; omega
      have e1 : headOf (S.drop 1) tail = S.getD 1 0 := by unfold headOf; rw [if_neg e, gS]
      have mono : ∀ i, i + 1 < S.length → S.getD 1 0 ≤ S.getD (i + 1) 0 := by
        intro i
        induction i with
        | zero => intro _; exact Int.le_refl _
        | succ i ih =>
          intro hi
          have p := h.pos (i + 1) (by omega)
          have o := h.ord (i + 1) hi
          have := ih (by omega)
          omega
      have p1 := h.pos 1 hl1
      refine ⟨by rw [e1]; exact p1.2.2.1, by rw [e1]; omega, fun i hi => ?_⟩
      rw [e1, gS]; exact mono i (by simp at hi; omega)
  refine ⟨by simp [hl], by simp; omega, ?_, ?_, by have := h.h0; omega, hd.2.1, by have := h.sp; omega, h.tb⟩
  · intro i hi
    have := h.pos (i + 1) (by simp at hi; omega)
    refine ⟨by rw [gN]; exact this.1, by rw [gS, gN]; exact this.2.1, hd.2.2 i hi, by rw [gS, gN]; exact this.2.2.2⟩
  · intro i hi
    have := h.ord (i + 1) (by simp at hi; omega)
    rw [gS, gN, gS]; exact this

theorem getD_snoc_lt {S : List Int} {p : Int} {i : Nat} (h : i < S.length) : (S ++ [p]).getD i 0 = S.getD i 0 := by
  simp [List.getD_eq_getElem?_getD, List.getElem?_append_left h]
theorem getD_snoc_eq {S : List Int} {p : Int} {i : Nat} (h : i = S.length) : (S ++ [p]).getD i 0 = p := by
  subst h; simp [List.getD_eq_getElem?_getD]

theorem Inv.push {b c : Int} {S N : List Int} {tail p n : Int} (h : Inv b c S N (headOf S tail) tail) (hl : S.length < 100) (hp : tail ≤ p) (hn : 1 ≤ n) (ha : atP b c p + n ≤ c)
    (hs : p + n - headOf S tail ≤ b * c) (hb : p + n < 4611686018427387904) : Inv b c (S ++ [p]) (N ++ [n]) (headOf (S ++ [p]) (p + n)) (p + n) := by
  have e := h.len
  have hd : headOf S tail ≤ headOf (S ++ [p]) (p + n) ∧ headOf (S ++ [p]) (p + n) ≤ p ∧ (S ≠ [] → headOf (S ++ [p]) (p + n) = headOf S tail) := by
    cases S with
    | nil => simp [headOf]; exact hp
    | cons x S =>
      have : headOf (x :: S ++ [p]) (p + n) = headOf (x :: S) tail := by simp [headOf]
      rw [this]
      exact ⟨Int.le_refl _, by have := h.ht; omega, fun _ => rfl⟩
  have hh := h.h0
  refine ⟨by simp [e], by simp; omega, ?_, ?_, by omega, by omega, by omega, hb⟩
  · intro i hi
    by_cases hlt : i < S.length
    · have q := h.pos i hlt
      have ne : S ≠ [] := by intro e0; rw [e0] at hlt; simp at hlt
      rw [getD_snoc_lt hlt, getD_snoc_lt (by omega), hd.2.2 ne]
      exact ⟨q.1, q.2.1, q.2.2.1, by omega⟩
    · have hi2 : i = S.length := by simp at hi; omega
      rw [getD_snoc_eq hi2, getD_snoc_eq (by omega)]
      exact ⟨hn, ha, hd.2.1, Int.le_refl _⟩
  · intro i hi
    have hlt : i < S.length := by simp at hi; omega
    have q := h.pos i hlt
    rw [getD_snoc_lt hlt, getD_snoc_lt (by omega)]
    by_cases hlt2 : i + 1 < S.length
    · rw [getD_snoc_lt hlt2]; exact h.ord i hlt2
    · rw [getD_snoc_eq (by omega)]; omega

theorem room_bd {a b c h t : Int} (hr : RightP a b c) (ht : t < 4611686018427387904) (hh : h ≤ t) (hs : t - h ≤ b * c) : roomV a b c h t = b * c - (t - h) := by
  unfold roomV
  rw [if_pos ⟨mayB_of hr (by omega), mayB_of hr ht⟩, if_neg (by omega), if_neg (by omega)]

theorem ring_j6 {a b c : Int} (hr : RightP a b c) (x2 : List S52) (S N : List Int) (i n p tail : Int) (k : Nat) (hI : Inv b c S N (headOf S tail) tail) (hl : S.length < 100) (hp : tail ≤ p) (hn : 1 ≤ n) (ha : atP b c p + n ≤ c)
    (hs : p + n - headOf S tail ≤ b * c) (hb : p + n < 4611686018427387904) (h0 : 0 ≤ tail) (hk : 66000 ≤ k) (hi : 0 ≤ i ∧ i ≤ 100)
    (next : octroilaw16_SegmentRing.l0 k x2 (p + n) (S ++ [p]) (N ++ [n]) (i + 1) a b c = some true) :
    octroilaw16_SegmentRing.j6 (k + 1) x2 S N i n p false a b c = some true := by
  have hI' := hI.push hl hp hn ha hs hb
  have hlen := hI.len
  have c1 := hr.c1
  have cat : 0 ≤ atP b c p := (at_bd hr).1
  rw [octroilaw16_SegmentRing.j6, if_neg (by decide), if_pos (by omega), Option.bind_some, if_pos (by omega), Option.bind_some, apart_law hr hI' k (by simp; omega), Option.bind_some, if_pos rfl,
    wu64 (x := n) (by omega) (by omega), wu64 (x := p + n) (by omega) (by omega), w64 (x := i + 1) (by omega) (by omega)]
  exact next

theorem ring_round {a b c : Int} (hr : RightP a b c) (x2 : List S52) (S N : List Int) (i n tail : Int) (k : Nat) (hI : Inv b c S N (headOf S tail) tail) (hl : S.length < 100) (h0 : 0 ≤ tail) (ht : tail ≤ 4611686018427380000) (hk : 66010 ≤ k) (hi : 0 ≤ i ∧ i ≤ 100)
    (next : ∀ (f : Nat) (tail' : Int) (S' N' : List Int), k ≤ f + 4 → tail ≤ tail' → tail' ≤ tail + 2048 → S'.length ≤ S.length + 1 → Inv b c S' N' (headOf S' tail') tail' → octroilaw16_SegmentRing.l0 f x2 tail' S' N' (i + 1) a b c = some true) :
    octroilaw16_SegmentRing.j4 (k + 1) x2 tail S N i n (headOf S tail) a b c = some true := by
  have hh := hI.h0
  have hht := hI.ht
  have hsp := hI.sp
  have c1 := hr.c1
  have c0 := hr.c0
  obtain ⟨k, rfl⟩ : ∃ m, k = m + 4 := ⟨k - 4, by omega⟩
  obtain ⟨d0, d1⟩ := at_bd (p := tail) hr
  rw [octroilaw16_SegmentRing.j4, fits_seg k a b c (headOf S tail) tail n hh h0, Option.bind_some]
  have hR := room_bd hr (t := tail) (h := headOf S tail) (by omega) hht hsp
  by_cases hn : n ≤ 0
  · have hf : fitsV a b c (headOf S tail) tail n = (0, false) := by
      unfold fitsV
      rw [if_neg]
      rintro ⟨h, _⟩
      rcases start_bd h0 h with h | h <;> omega
    rw [if_pos hn, hf]
    simp only []
    rw [octroilaw16_SegmentRing.j5, if_pos rfl, if_neg (by decide), if_neg (by omega), w64 (by omega) (by omega)]
    exact next _ tail S N (by omega) (by omega) (by omega) (by omega) hI
  · rw [if_neg hn]
    by_cases hf : (startV a b c tail n).2 = true ∧ (startV a b c tail n).1 - tail + n ≤ roomV a b c (headOf S tail) tail
    · have ef : fitsV a b c (headOf S tail) tail n = ((startV a b c tail n).1, true) := by unfold fitsV; rw [if_pos hf]
      rw [ef]
      simp only []
      rw [hR] at hf
      have hm : mayB a b c tail = true := mayB_of hr (by omega)
      rw [show (!true) = false from rfl, octroilaw16_SegmentRing.j5, if_neg (by decide), starts_seg k a b c tail h0, Option.bind_some]
      generalize hp : (startV a b c tail n).1 = p at *
      rcases start_bd h0 hf.1 with ⟨_, n1, nc, _, _, hat, ep⟩ | ⟨_, n1, nc, _, _, hat, ep⟩
      · rw [hp] at ep
        subst ep
        have hj : octroilaw16_SegmentRing.j6 (k + 3) x2 S N i n p (decide (p < p)) a b c = some true := by
          rw [show decide (p < p) = false from decide_eq_false (by omega)]
          exact ring_j6 hr x2 S N i n p p (k + 2) hI hl (Int.le_refl _) n1 hat (by omega) (by omega) h0 (by omega) hi (next _ _ _ _ (by omega) (by omega) (by omega) (by simp) (hI.push hl (Int.le_refl _) n1 hat (by omega) (by omega)))
        unfold startsV
        rw [if_pos hm]
        by_cases hz : atP b c p = 0
        · rw [if_pos hz, if_neg (by simp), if_pos (by simp), if_pos (by rfl)]; exact hj
        · rw [if_neg hz, if_neg (by simp), if_pos (by simp), if_pos (by rfl)]; exact hj
      · rw [hp] at ep
        have hat0 : atP b c p = 0 := by rw [ep]; exact at_next hr
        have hj : octroilaw16_SegmentRing.j6 (k + 3) x2 S N i n p (decide (p < tail)) a b c = some true := by
          rw [show decide (p < tail) = false from decide_eq_false (by omega)]
          exact ring_j6 hr x2 S N i n p tail (k + 2) hI hl (by omega) n1 (by omega) (by omega) (by omega) h0 (by omega) hi (next _ _ _ _ (by omega) (by omega) (by omega) (by simp) (hI.push hl (by omega) n1 (by omega) (by omega) (by omega)))
        have es : startsV a b c tail = [tail, p] := by unfold startsV; rw [if_pos hm, if_neg (by omega), ep]
        rw [es, show (([tail, p] : List Int).length : Int) = 2 from rfl, if_neg (by decide), if_pos (by decide), show rd [tail, p] 0 = tail from rfl, if_neg (by omega), show wrap64 (2 - 1) = 1 from w64 (by decide) (by decide), if_pos (by decide), if_pos (by decide), show rd [tail, p] 1 = p from rfl, if_pos rfl]
        exact hj
    · have ef : fitsV a b c (headOf S tail) tail n = (0, false) := by unfold fitsV; rw [if_neg hf]
      rw [ef]
      simp only []
      rw [show (!false) = true from rfl, octroilaw16_SegmentRing.j5, if_pos rfl, if_neg (by decide), if_pos (by omega), w64 (by omega) (by omega)]
      by_cases hc : n ≤ c
      · rw [if_pos hc, room_seg (k) a b c _ tail hh h0, Option.bind_some, hR, wu64 (x := c) (by omega) (by omega), wu64 (x := 2 * c) (by omega) (by omega), if_neg]
        · exact next _ tail S N (by omega) (by omega) (by omega) (by omega) hI
        · intro hge
          apply hf
          have hm : mayB a b c tail = true := mayB_of hr (by omega)
          rw [hR]
          unfold startV
          rw [if_pos ⟨hm, by omega, hc⟩]
          refine ⟨rfl, ?_⟩
          by_cases h3 : atP b c tail + n ≤ c
          · rw [if_pos h3]; show tail - tail + n ≤ _; omega
          · rw [if_neg h3]; show tail + (c - atP b c tail) - tail + n ≤ _; omega
      · rw [if_neg hc]
        exact next _ tail S N (by omega) (by omega) (by omega) (by omega) hI

theorem ring_l0 {a b c : Int} (hr : RightP a b c) (x2 : List S52) (hx : x2.length ≤ 60) (d : Nat) : ∀ (k : Nat) (tail : Int) (S N : List Int) (i : Int), 0 ≤ i → i + d = x2.length → Inv b c S N (headOf S tail) tail → (S.length : Int) ≤ i →
    0 ≤ tail → tail + 2048 * d ≤ 4611686018427380000 → 66020 + 10 * d ≤ k → octroilaw16_SegmentRing.l0 k x2 tail S N i a b c = some true := by
  induction d with
  | zero =>
    intro k tail S N i h0 hd hI hl t0 tb hk
    obtain ⟨k, rfl⟩ : ∃ m, k = m + 1 := ⟨k - 1, by omega⟩
    rw [octroilaw16_SegmentRing.l0, if_neg (by omega)]
    rfl
  | succ d ih =>
    intro k tail S N i h0 hd hI hl t0 tb hk
    obtain ⟨k, rfl⟩ : ∃ m, k = m + 1 + 1 + 1 + 1 := ⟨k - 4, by omega⟩
    have round : ∀ (S N : List Int), Inv b c S N (headOf S tail) tail → (S.length : Int) ≤ i → octroilaw16_SegmentRing.j3 (k + 1 + 1) x2 tail S N i ((rd_T52 x2 i).f0) a b c = some true := by
      intro S N hI hl
      have hj4 : octroilaw16_SegmentRing.j4 (k + 1) x2 tail S N i ((rd_T52 x2 i).f0) (headOf S tail) a b c = some true := by
        refine ring_round hr x2 S N i _ tail k hI (by omega) t0 (by omega) (by omega) ⟨h0, by omega⟩ ?_
        intro f tail' S' N' hf h1 h2 h3 hI'
        exact ih f tail' S' N' (i + 1) (by omega) (by omega) hI' (by omega) (by omega) (by omega) (by omega)
      rw [octroilaw16_SegmentRing.j3]
      by_cases e : S = []
      · have : headOf S tail = tail := by unfold headOf; rw [if_pos e]
        rw [this] at hj4
        rw [if_neg (by rw [e]; simp)]; exact hj4
      · have : headOf S tail = rd S 0 := by unfold headOf; rw [if_neg e]; rfl
        rw [this] at hj4
        have hpos : 0 < S.length := List.length_pos_iff.2 e
        rw [if_pos (by omega), if_pos (by omega)]; exact hj4
    rw [octroilaw16_SegmentRing.l0, if_pos (by omega), if_pos h0]
    by_cases hn : (rd_T52 x2 i).f0 ≤ 0
    · rw [if_pos hn, octroilaw16_SegmentRing.j2]
      by_cases e : S = []
      · rw [if_neg (by rw [e]; simp)]; exact round S N hI hl
      · have hpos : 0 < S.length := List.length_pos_iff.2 e
        have hlen := hI.len
        rw [if_pos (by simp; omega), if_pos (by omega), if_pos (by omega)]
        exact round _ _ hI.drop (by simp; omega)
    · rw [if_neg hn, octroilaw16_SegmentRing.j2, if_neg (by decide)]
      exact round S N hI hl

theorem ring_law (k : Nat) (a b c p : Int) (l : List S52) (h0 : 0 ≤ p) : octroilaw16_SegmentRing.f (k + 67000) a b c p l = some true := by
  unfold octroilaw16_SegmentRing.f octroilaw16_ref.f
  by_cases hl : (l.length : Int) > 60
  · rw [if_pos hl, octroilaw16_SegmentRing.j0, if_pos rfl]; rfl
  · rw [if_neg hl]
    simp only [Option.bind_some]
    rw [right_ref, Option.bind_some, octroilaw16_SegmentRing.j0]
    by_cases hr : RightP a b c
    · rw [rightB_true hr, if_neg (by decide), Int.tmod_eq_emod_of_nonneg h0]
      obtain ⟨m0, m1⟩ := mul_bd hr.b0 hr.b1 hr.c0 hr.c1
      refine ring_l0 hr l (by omega) l.length _ (p % 1152921504606846976) [] [] 0 (by omega) (by omega) ?_ (by simp) (by omega) (by omega) (by omega)
      exact ⟨rfl, by simp, fun i hi => by simp at hi, fun i hi => by simp at hi, by simp [headOf]; omega, by simp [headOf], by simp [headOf]; omega, by omega⟩
    · rw [rightB_false hr, if_pos (by decide)]; rfl
end Go.Proofs.Ytbbjedpbmofmkaa.E
