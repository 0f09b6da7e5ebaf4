/- segment.Ring and the reference: Start, Room, Fits, Starts: the same answers, in plain Lean; conditions: positions are not negative. -/
import Derived.Test.YtbbjedpbmofmkaaPlain
namespace Go.Proofs.Ytbbjedpbmofmkaa.E
open Go.RowKit Go.Proofs.YtbbjedpbmofmkaaW.PrintWords Go.Proofs.YtbbjedpbmofmkaaW.PrintLast Go.Proofs.YtbbjedpbmofmkaaW.PrintMore
set_option linter.unusedVariables false
set_option linter.unusedSimpArgs false

/-- A position's place in its segment. -/
def atP (b c p : Int) : Int := p % (b * c) % c
theorem at_bd {a b c p : Int} (h : RightP a b c) : 0 ≤ atP b c p ∧ atP b c p < c := by
  have hc := h.c0
  exact ⟨Int.emod_nonneg _ (by omega), Int.emod_lt_of_pos _ (by omega)⟩
/-- Where the next segment begins; a position that begins one: there. -/
def nextP (b c p : Int) : Int := if atP b c p > 0 then p + (c - atP b c p) else p

theorem next_seg (k : Nat) (a b c p : Int) (h : mayB a b c p = true) (h0 : 0 ≤ p) : segment_Ring_next.f (k + 3) a b c p = some (nextP b c p) := by
  obtain ⟨hr, hp⟩ := may_right h
  obtain ⟨d0, d1⟩ := at_bd (p := p) hr
  have c1 := hr.c1
  unfold segment_Ring_next.f nextP
  rw [segment_eq, segment_ref a b c p h h0, Option.bind_some]
  show (if atP b c p > 0 then some (IntKind.u64.wrap (p + IntKind.u64.wrap (wrap64 (c - atP b c p)))) else some p) = _
  by_cases ha : atP b c p > 0
  · rw [if_pos ha, if_pos ha, w64 (by omega) (by omega), wu64 (x := c - atP b c p) (by omega) (by omega), wu64 (by omega) (by omega)]
  · rw [if_neg ha, if_neg ha]

def startV (a b c p n : Int) : Int × Bool :=
  if mayB a b c p = true ∧ 1 ≤ n ∧ n ≤ c then (if atP b c p + n ≤ c then p else p + (c - atP b c p), true) else (0, false)

theorem start_ref (k : Nat) (a b c p n : Int) (h0 : 0 ≤ p) : octroiref16_Start.f (k + 1) a b c p n = some (startV a b c p n) := by
  unfold octroiref16_Start.f startV
  rw [may_ref, Option.bind_some]
  simp only [octroiref16_Start.j0]
  cases hm : mayB a b c p with
  | false => simp
  | true =>
    rw [if_pos rfl]
    by_cases h1 : n < 1
    · rw [if_pos h1, if_neg (show ¬ (true = true ∧ 1 ≤ n ∧ n ≤ c) from fun h => by omega)]; simp
    · rw [if_neg h1]
      by_cases h2 : n ≤ c
      · obtain ⟨hr, hp⟩ := may_right hm
        obtain ⟨d0, d1⟩ := at_bd (p := p) hr
        have c1 := hr.c1
        rw [if_neg (by simp; omega), if_pos ⟨rfl, by omega, h2⟩, segment_ref a b c p hm h0, Option.bind_some]
        show (if wrap64 (atP b c p + n) ≤ c then some (p, true) else some (IntKind.u64.wrap (p + IntKind.u64.wrap (wrap64 (c - atP b c p))), true)) = _
        rw [w64 (x := atP b c p + n) (by omega) (by omega)]
        by_cases h3 : atP b c p + n ≤ c
        · rw [if_pos h3, if_pos h3]
        · rw [if_neg h3, if_neg h3, w64 (by omega) (by omega), wu64 (x := c - atP b c p) (by omega) (by omega), wu64 (by omega) (by omega)]
      · rw [if_pos (by simp; omega), if_neg (by omega)]

theorem start_seg (k : Nat) (a b c p n : Int) (h0 : 0 ≤ p) : segment_Ring_Start.f (k + 4) a b c p n = some (startV a b c p n) := by
  unfold segment_Ring_Start.f startV
  rw [may1 (k + 1), Option.bind_some]
  simp only [segment_Ring_Start.j0]
  cases hm : mayB a b c p with
  | false => simp
  | true =>
    rw [if_pos rfl]
    by_cases h1 : n < 1
    · rw [if_pos h1, if_neg (show ¬ (true = true ∧ 1 ≤ n ∧ n ≤ c) from fun h => by omega)]; simp
    · rw [if_neg h1]
      by_cases h2 : n ≤ c
      · obtain ⟨hr, hp⟩ := may_right hm
        obtain ⟨d0, d1⟩ := at_bd (p := p) hr
        have c1 := hr.c1
        rw [if_neg (by simp; omega), if_pos ⟨rfl, by omega, h2⟩, segment_eq, segment_ref a b c p hm h0, Option.bind_some, next_seg k a b c p hm h0]
        show (if wrap64 (atP b c p + n) > c then (some (nextP b c p)).bind (fun t => some (t, true)) else some (p, true)) = _
        rw [w64 (x := atP b c p + n) (by omega) (by omega)]
        by_cases h3 : atP b c p + n ≤ c
        · rw [if_neg (by omega), if_pos h3]
        · rw [if_pos (by omega), if_neg h3, Option.bind_some, nextP, if_pos (by omega)]
      · rw [if_pos (by simp; omega), if_neg (by omega)]

theorem start_bd {a b c p n : Int} (h0 : 0 ≤ p) (h : (startV a b c p n).2 = true) :
    mayB a b c p = true ∧ 1 ≤ n ∧ n ≤ c ∧ p ≤ (startV a b c p n).1 ∧ (startV a b c p n).1 ≤ p + c ∧ atP b c p + n ≤ c ∧ (startV a b c p n).1 = p ∨
    mayB a b c p = true ∧ 1 ≤ n ∧ n ≤ c ∧ p ≤ (startV a b c p n).1 ∧ (startV a b c p n).1 ≤ p + c ∧ atP b c p + n > c ∧ (startV a b c p n).1 = p + (c - atP b c p) := by
  unfold startV at h ⊢
  by_cases hc : mayB a b c p = true ∧ 1 ≤ n ∧ n ≤ c
  · rw [if_pos hc] at h ⊢
    obtain ⟨hm, h1, h2⟩ := hc
    obtain ⟨hr, hp⟩ := may_right hm
    obtain ⟨d0, d1⟩ := at_bd (p := p) hr
    by_cases h3 : atP b c p + n ≤ c
    · rw [if_pos h3]; exact .inl ⟨hm, h1, h2, Int.le_refl _, by show p ≤ _; omega, h3, rfl⟩
    · rw [if_neg h3]; exact .inr ⟨hm, h1, h2, by show p ≤ p + (c - atP b c p); omega, by show p + (c - atP b c p) ≤ _; omega, by omega, rfl⟩
  · rw [if_neg hc] at h
    exact absurd h (by decide)

def roomV (a b c h t : Int) : Int := if mayB a b c h = true ∧ mayB a b c t = true then (if t < h then 0 else if t - h > b * c then 0 else b * c - (t - h)) else 0

theorem room_ref (a b c h t : Int) (h0 : 0 ≤ h) (t0 : 0 ≤ t) : octroiref16_Room.f a b c h t = some (roomV a b c h t) := by
  unfold octroiref16_Room.f roomV
  rw [may_ref, may_ref, Option.bind_some]
  cases hm : mayB a b c h with
  | false => simp
  | true =>
    rw [if_pos (rfl : true = true), Option.bind_some]
    cases hn : mayB a b c t with
    | false => simp
    | true =>
      rw [if_pos (show true = true ∧ true = true from ⟨rfl, rfl⟩), if_pos (rfl : true = true)]
      obtain ⟨hr, hp⟩ := may_right hm
      obtain ⟨_, tp⟩ := may_right hn
      obtain ⟨m0, m1⟩ := mul_bd hr.b0 hr.b1 hr.c0 hr.c1
      by_cases hl : t < h
      · rw [if_pos hl, if_pos hl]
      · rw [if_neg hl, if_neg hl, blocks_ref a b c hr, Option.bind_some, wu64 (x := t - h) (by omega) (by omega)]
        by_cases hg : t - h > b * c
        · rw [if_pos hg, if_pos hg]
        · rw [if_neg hg, if_neg hg, Option.bind_some, wu64 (by omega) (by omega)]

theorem room_seg (k : Nat) (a b c h t : Int) (h0 : 0 ≤ h) (t0 : 0 ≤ t) : segment_Ring_Room.f (k + 3) a b c h t = some (roomV a b c h t) := by
  unfold segment_Ring_Room.f segment_Ring_Room.g roomV
  rw [may2, Option.bind_some]
  cases hm : mayB a b c h with
  | false => simp
  | true =>
    cases hn : mayB a b c t with
    | false => simp
    | true =>
      rw [if_pos (by rfl), if_pos ⟨rfl, rfl⟩]
      obtain ⟨hr, hp⟩ := may_right hm
      obtain ⟨_, tp⟩ := may_right hn
      obtain ⟨m0, m1⟩ := mul_bd hr.b0 hr.b1 hr.c0 hr.c1
      rw [blocks_seg k a b c hr, Option.bind_some]
      by_cases hl : t < h
      · rw [if_pos hl, if_pos hl]
      · rw [if_neg hl, if_neg hl, wu64 (x := t - h) (by omega) (by omega)]
        by_cases hg : t - h > b * c
        · rw [if_pos hg, if_pos hg]
        · rw [if_neg hg, if_neg hg, wu64 (by omega) (by omega)]

def fitsV (a b c h t n : Int) : Int × Bool :=
  if (startV a b c t n).2 = true ∧ (startV a b c t n).1 - t + n ≤ roomV a b c h t then ((startV a b c t n).1, true) else (0, false)

theorem fits_ref (k : Nat) (a b c h t n : Int) (h0 : 0 ≤ h) (t0 : 0 ≤ t) : octroiref16_Fits.f (k + 1) a b c h t n = some (fitsV a b c h t n) := by
  unfold octroiref16_Fits.f fitsV
  rw [start_ref k a b c t n t0, Option.bind_some]
  cases hs : (startV a b c t n).2 with
  | false => simp [hs]
  | true =>
    rw [if_pos rfl, room_ref a b c h t h0 t0, Option.bind_some]
    obtain ⟨hm, h1, h2, h3, h4⟩ : mayB a b c t = true ∧ 1 ≤ n ∧ n ≤ c ∧ t ≤ (startV a b c t n).1 ∧ (startV a b c t n).1 ≤ t + c := by rcases start_bd t0 hs with h | h <;> exact ⟨h.1, h.2.1, h.2.2.1, h.2.2.2.1, h.2.2.2.2.1⟩
    obtain ⟨hr, hp⟩ := may_right hm
    have c1 := hr.c1
    rw [wu64 (x := n) (by omega) (by omega), wu64 (x := (startV a b c t n).1 + n) (by omega) (by omega), wu64 (by omega) (by omega)]
    by_cases hf : (startV a b c t n).1 - t + n ≤ roomV a b c h t
    · rw [if_neg (by omega), if_pos ⟨rfl, hf⟩]
    · rw [if_pos (by omega), if_neg (by rintro ⟨_, h⟩; exact hf h)]

theorem fits_seg (k : Nat) (a b c h t n : Int) (h0 : 0 ≤ h) (t0 : 0 ≤ t) : segment_Ring_Fits.f (k + 4) a b c h t n = some (fitsV a b c h t n) := by
  unfold segment_Ring_Fits.f fitsV
  rw [start_seg k a b c t n t0, Option.bind_some]
  cases hs : (startV a b c t n).2 with
  | false => simp [hs]
  | true =>
    rw [if_pos rfl, room_seg (k + 1) a b c h t h0 t0, Option.bind_some]
    obtain ⟨hm, h1, h2, h3, h4⟩ : mayB a b c t = true ∧ 1 ≤ n ∧ n ≤ c ∧ t ≤ (startV a b c t n).1 ∧ (startV a b c t n).1 ≤ t + c := by rcases start_bd t0 hs with h | h <;> exact ⟨h.1, h.2.1, h.2.2.1, h.2.2.2.1, h.2.2.2.2.1⟩
    obtain ⟨hr, hp⟩ := may_right hm
    have c1 := hr.c1
    rw [wu64 (x := n) (by omega) (by omega), wu64 (x := (startV a b c t n).1 - t) (by omega) (by omega), wu64 (by omega) (by omega)]
    by_cases hf : (startV a b c t n).1 - t + n ≤ roomV a b c h t
    · rw [if_neg (by omega), if_pos ⟨rfl, hf⟩]
    · rw [if_pos (by omega), if_neg (by rintro ⟨_, h⟩; exact hf h)]

def startsV (a b c p : Int) : List Int := if mayB a b c p = true then (if atP b c p = 0 then [p] else [p, p + (c - atP b c p)]) else []

theorem starts_ref (a b c p : Int) (h0 : 0 ≤ p) : octroiref16_Starts.f a b c p = some (startsV a b c p) := by
  unfold octroiref16_Starts.f startsV
  rw [may_ref, Option.bind_some]
  cases hm : mayB a b c p with
  | false => simp
  | true =>
    obtain ⟨hr, hp⟩ := may_right hm
    obtain ⟨d0, d1⟩ := at_bd (p := p) hr
    have c1 := hr.c1
    rw [if_pos rfl, if_pos rfl, segment_ref a b c p hm h0, Option.bind_some]
    show (if atP b c p = 0 then some [p] else some [p, IntKind.u64.wrap (p + IntKind.u64.wrap (wrap64 (c - atP b c p)))]) = _
    by_cases h3 : atP b c p = 0
    · rw [if_pos h3, if_pos h3]
    · rw [if_neg h3, if_neg h3, w64 (by omega) (by omega), wu64 (x := c - atP b c p) (by omega) (by omega), wu64 (by omega) (by omega)]

theorem starts_seg (k : Nat) (a b c p : Int) (h0 : 0 ≤ p) : segment_Ring_Starts.f (k + 3) a b c p = some (startsV a b c p) := by
  unfold segment_Ring_Starts.f startsV
  rw [may1, Option.bind_some]
  cases hm : mayB a b c p with
  | false => simp
  | true =>
    obtain ⟨hr, hp⟩ := may_right hm
    obtain ⟨d0, d1⟩ := at_bd (p := p) hr
    rw [if_pos rfl, if_pos rfl, next_seg k a b c p hm h0, Option.bind_some]
    by_cases h3 : atP b c p = 0
    · rw [if_pos h3, if_pos (by rw [nextP, if_neg (by omega)])]
    · have hx : nextP b c p = p + (c - atP b c p) := by unfold nextP; rw [if_pos (by omega)]
      rw [if_neg h3, hx, if_neg (by omega), Option.bind_some]

theorem starts_len (a b c p : Int) : (startsV a b c p).length ≤ 2 := by
  unfold startsV
  split
  · split <;> simp
  · simp

theorem same_l (l : List Int) (hl : l.length ≤ 1000000) (d : Nat) : ∀ (k : Nat) (i : Int), 0 ≤ i → i ≤ l.length → (l.length : Int) - i = d → d < k → octroilaw16_same.l0 k l l i = some true := by
  induction d with
  | zero =>
    intro k i h0 h1 hd hk
    obtain ⟨k, rfl⟩ : ∃ m, k = m + 1 := ⟨k - 1, by omega⟩
    simp only [octroilaw16_same.l0]; rw [if_neg (by omega)]
  | succ d ih =>
    intro k i h0 h1 hd hk
    obtain ⟨k, rfl⟩ : ∃ m, k = m + 1 := ⟨k - 1, by omega⟩
    simp only [octroilaw16_same.l0]; rw [if_pos (by omega), if_pos h0, if_pos (by omega), if_pos trivial, w64 (by omega) (by omega)]
    exact ih k (i + 1) (by omega) (by omega) (by omega) (by omega)
theorem same_eq (k : Nat) (l : List Int) (hl : l.length ≤ 2) : octroilaw16_same.f (k + 3) l l = some true := by
  unfold octroilaw16_same.f
  rw [if_pos rfl]
  exact same_l l (by omega) l.length (k + 3) 0 (by omega) (by omega) (by omega) (by omega)
end Go.Proofs.Ytbbjedpbmofmkaa.E
