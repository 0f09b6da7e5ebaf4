/- What goes out, tick by tick and at once: plain facts of relS; no condition but what stands in each. -/
import Derived.Test.YtballojildjbhaaSL
namespace Go.Proofs.Ytballojildjbhaa.S
open Go Go.RowKit Go.Proofs.YtballojildjbhaaW.PrintWords Go.Proofs.YtballojildjbhaaW.PrintLast Go.Proofs.YtballojildjbhaaW.PrintMore Go.Proofs.Ytballojildjbhaa.F
set_option linter.unusedVariables false
set_option linter.unusedSimpArgs false

/-- What the best of the first k lines is. -/
structure Least (t : Int) (ls : List Ls) (k : Nat) (b : Best) : Prop where
  none : b.ok = false → ∀ j l, j < k → ls[j]? = some l → whenL t l = none
  some : b.ok = true → (b.cls < k ∧ ∃ l, ls[b.cls]? = some l ∧ whenL t l = some b.at_) ∧ (∀ j l u, j < k → ls[j]? = some l → whenL t l = some u → b.at_ ≤ u ∧ (j < b.cls → b.at_ < u))

theorem nextP_least (t : Int) (ls : List Ls) : ∀ k, Least t ls k (nextP t ls k)
  | 0 => ⟨fun _ j l h => absurd h (by omega), fun h => by simp [nextP] at h⟩
  | k + 1 => by
    have ih := nextP_least t ls k
    rw [nextP]
    cases hk : ls[k]? with
    | none =>
      refine ⟨fun h j l hj hl => ?_, fun h => ?_⟩
      · by_cases hjk : j < k
        · exact ih.none h j l hjk hl
        · obtain rfl : j = k := by omega
          rw [hk] at hl; cases hl
      · obtain ⟨⟨h1, h2⟩, h3⟩ := ih.some h
        refine ⟨⟨Nat.lt_succ_of_lt h1, h2⟩, fun j l u hj hl hw => ?_⟩
        by_cases hjk : j < k
        · exact h3 j l u hjk hl hw
        · obtain rfl : j = k := by omega
          rw [hk] at hl; cases hl
    | some m =>
      simp only
      unfold lookL
      cases hw : whenL t m with
      | none =>
        simp only
        refine ⟨fun h j l hj hl => ?_, fun h => ?_⟩
        · by_cases hjk : j < k
          · exact ih.none h j l hjk hl
          · obtain rfl : j = k := by omega
            rw [hk] at hl; cases hl; exact hw
        · obtain ⟨⟨h1, h2⟩, h3⟩ := ih.some h
          refine ⟨⟨Nat.lt_succ_of_lt h1, h2⟩, fun j l u hj hl hu => ?_⟩
          by_cases hjk : j < k
          · exact h3 j l u hjk hl hu
          · obtain rfl : j = k := by omega
            rw [hk] at hl; cases hl
            rw [hw] at hu; cases hu
      | some v =>
        simp only
        by_cases hc : (nextP t ls k).ok = false ∨ v < (nextP t ls k).at_
        · rw [if_pos hc]
          refine ⟨(fun h => by cases h), fun _ => ⟨⟨Nat.lt_succ_self k, m, hk, hw⟩, fun j l u hj hl hu => ?_⟩⟩
          by_cases hjk : j < k
          · rcases hc with hc | hc
            · rw [ih.none hc j l hjk hl] at hu; cases hu
            · cases hok : (nextP t ls k).ok
              · rw [ih.none hok j l hjk hl] at hu; cases hu
              · have := (ih.some hok).2 j l u hjk hl hu
                exact ⟨by show v ≤ u; omega, fun _ => by show v < u; omega⟩
          · obtain rfl : j = k := by omega
            rw [hk] at hl; cases hl
            rw [hw] at hu; cases hu
            exact ⟨Int.le_refl _, fun h => absurd h (Nat.lt_irrefl _)⟩
        · rw [if_neg hc]
          have hok : (nextP t ls k).ok = true := by
            cases h : (nextP t ls k).ok
            · exact absurd (.inl h) hc
            · rfl
          have hv : (nextP t ls k).at_ ≤ v := Int.not_lt.1 fun h => hc (.inr h)
          refine ⟨(fun h => by rw [hok] at h; cases h), fun _ => ?_⟩
          obtain ⟨⟨h1, h2⟩, h3⟩ := ih.some hok
          refine ⟨⟨Nat.lt_succ_of_lt h1, h2⟩, fun j l u hj hl hu => ?_⟩
          by_cases hjk : j < k
          · exact h3 j l u hjk hl hu
          · obtain rfl : j = k := by omega
            rw [hk] at hl; cases hl
            rw [hw] at hu; cases hu
            exact ⟨hv, fun h => by omega⟩
theorem nextS_least (t : Int) (ls : List Ls) : Least t ls ls.length (nextS t ls) := nextP_least t ls ls.length

/-- A head that is not covered before T is covered at the same tick, seen from T. -/
theorem whenL_later {t T : Int} {l : Ls} (htT : t ≤ T) (h : ∀ u, whenL t l = some u → T ≤ u) : whenL T l = whenL t l := by
  unfold whenL at h ⊢
  cases hx : l.xs with
  | nil => rfl
  | cons x ys =>
    rw [hx] at h
    simp only at h ⊢
    by_cases hev : (B.whenV l.rate l.burst l.tick l.tok x.size).2 = true
    · rw [if_pos hev] at h
      rw [if_pos hev, if_pos hev]
      have := h _ rfl
      generalize (B.whenV l.rate l.burst l.tick l.tok x.size).1 = W at *
      congr 1
      by_cases h1 : W < T
      · by_cases h2 : W < t
        · rw [if_pos h2] at this; rw [if_pos h1, if_pos h2]; omega
        · rw [if_neg h2] at this; omega
      · rw [if_neg h1, if_neg (by omega)]
    · rw [if_neg hev, if_neg hev]
theorem nextP_later {t T : Int} {ls : List Ls} (h : ∀ l, l ∈ ls → whenL T l = whenL t l) : ∀ k, nextP T ls k = nextP t ls k
  | 0 => rfl
  | k + 1 => by
    rw [nextP, nextP, nextP_later h k]
    cases hk : ls[k]? with
    | none => rfl
    | some l =>
      show lookL T (nextP t ls k) k l = lookL t (nextP t ls k) k l
      unfold lookL
      rw [h l (List.mem_of_getElem? hk)]
theorem nextS_later {t T : Int} {ls : List Ls} (htT : t ≤ T) (h : (nextS t ls).ok = false ∨ T ≤ (nextS t ls).at_) : nextS T ls = nextS t ls := by
  refine nextP_later (fun l hl => whenL_later htT fun u hu => ?_) _
  obtain ⟨j, hj⟩ := List.mem_iff_getElem?.1 hl
  have hjl := (List.getElem?_eq_some_iff.1 hj).1
  have L := nextS_least t ls
  cases hok : (nextS t ls).ok
  · rw [L.none hok j l hjl hj] at hu; cases hu
  · rcases h with h | h
    · rw [hok] at h; cases h
    · have := ((L.some hok).2 j l u hjl hj hu).1; omega

/-- It ends. -/
theorem rel_ends (T : Int) : ∀ (n : Nat) (t : Int) (ls : List Ls), cnt ls ≤ n → ∃ os ls', Rel T t ls os ls' := by
  intro n
  -- from any state that Steps has come to
  have key : ∀ (n : Nat) (t0 : Int) (ls0 : List Ls) (os : List Ot) (t : Int) (ls : List Ls), cnt ls ≤ n → Steps T t0 ls0 os t ls → ∃ os' ls', Rel T t0 ls0 os' ls' := by
    intro n
    induction n with
    | zero =>
      intro t0 ls0 os t ls hc hs
      refine ⟨os, ls, t, hs, ?_⟩
      cases hok : (nextS t ls).ok
      · exact .inl rfl
      · obtain ⟨_, _, l, x, ys, hl, hx⟩ := nextS_ok hok
        have := cnt_set (l' := outL l x ys 0) hl
        rw [hx, show (outL l x ys 0).xs.length = ys.length from rfl, List.length_cons] at this
        omega
    | succ n ih =>
      intro t0 ls0 os t ls hc hs
      by_cases hst : (nextS t ls).ok = false ∨ T < (nextS t ls).at_
      · exact ⟨os, ls, t, hs, hst⟩
      · have hok : (nextS t ls).ok = true := by
          cases h : (nextS t ls).ok
          · exact absurd (.inl h) hst
          · rfl
        have hat : (nextS t ls).at_ ≤ T := Int.not_lt.1 fun h => hst (.inr h)
        obtain ⟨_, _, l, x, ys, hl, hx⟩ := nextS_ok hok
        refine ih t0 ls0 _ _ _ ?_ (hs.snoc hok hat hl hx)
        have := cnt_set (l' := outL l x ys (nextS t ls).at_) hl
        rw [hx, show (outL l x ys (nextS t ls).at_).xs.length = ys.length from rfl, List.length_cons] at this
        omega
  intro t ls hc
  exact key n t ls [] t ls hc (.none t ls)
theorem relS_rel (T t : Int) (ls : List Ls) : Rel T t ls (relS T t ls).1 (relS T t ls).2 := by
  obtain ⟨os, ls', h⟩ := rel_ends T (cnt ls) t ls (Nat.le_refl _)
  rw [h.fn]
  exact h

theorem Steps.mono {T T2 t t' : Int} {ls ls' : List Ls} {os : List Ot} (h : Steps T t ls os t' ls') (hT : T ≤ T2) : Steps T2 t ls os t' ls' := by
  induction h with
  | none ls => exact .none _ ls
  | snoc h hok hat hl hx ih => exact ih.snoc hok (by omega) hl hx
theorem Steps.tick_le {T t t' : Int} {ls ls' : List Ls} {os : List Ot} (h : Steps T t ls os t' ls') (ht : t ≤ T) : t ≤ t' ∧ t' ≤ T ∧ ∀ o, o ∈ os → t ≤ o.at_ ∧ o.at_ ≤ T := by
  induction h with
  | none ls => exact ⟨Int.le_refl _, ht, fun o ho => by simp at ho⟩
  | @snoc t1 ls ls1 os l x ys h hok hat hl hx ih =>
    obtain ⟨h1, h2, h3⟩ := ih
    have hge := (nextS_ok hok).2.1
    refine ⟨by omega, hat, fun o ho => ?_⟩
    rcases List.mem_append.1 ho with ho | ho
    · exact h3 o ho
    · have : o = ⟨(nextS t1 ls1).at_, (nextS t1 ls1).cls, x⟩ := by simpa using ho
      subst this
      exact ⟨by show t ≤ (nextS t1 ls1).at_; omega, hat⟩

theorem relF_same {T t t' : Int} {ls : List Ls} (h : nextS t' ls = nextS t ls) : ∀ f, relF T f t' ls = relF T f t ls
  | 0 => rfl
  | f + 1 => by rw [relF, relF, h]
/-- Up to T1, then up to T2: the same as up to T2 at once. -/
theorem relS_two {T1 T2 t : Int} {ls : List Ls} (ht : t ≤ T1) (h12 : T1 ≤ T2) : relS T2 t ls = ((relS T1 t ls).1 ++ (relS T2 T1 (relS T1 t ls).2).1, (relS T2 T1 (relS T1 t ls).2).2) := by
  obtain ⟨t1, h1, hst⟩ := relS_rel T1 t ls
  have hc := h1.cnt
  have hf := (h1.mono h12).fn (cnt (relS T1 t ls).2)
  rw [hc] at hf
  have hn : nextS T1 (relS T1 t ls).2 = nextS t1 (relS T1 t ls).2 := nextS_later (h1.tick_le ht).2.1 (by rcases hst with h | h; exact .inl h; exact .inr (by omega))
  rw [show relS T2 t ls = relF T2 (cnt ls) t ls from rfl, hf]
  rw [show relS T2 T1 (relS T1 t ls).2 = relF T2 (cnt (relS T1 t ls).2) T1 (relS T1 t ls).2 from rfl, relF_same hn]
/-- Seen from T, where nothing is covered before T. -/
theorem relS_from {T t : Int} {ls : List Ls} (ht : t ≤ T) (h : (nextS t ls).ok = false ∨ T ≤ (nextS t ls).at_) : relS T t ls = relS T T ls := by
  unfold relS
  exact (relF_same (nextS_later ht h) _).symm
/-- Behind a release nothing is covered at its tick. -/
theorem relS_stop {T t : Int} {ls : List Ls} (ht : t ≤ T) : (nextS T (relS T t ls).2).ok = false ∨ T < (nextS T (relS T t ls).2).at_ := by
  obtain ⟨t1, h1, hst⟩ := relS_rel T t ls
  have hn : nextS T (relS T t ls).2 = nextS t1 (relS T t ls).2 := nextS_later (h1.tick_le ht).2.1 (by rcases hst with h | h; exact .inl h; exact .inr (by omega))
  rw [hn]; exact hst

/-- Rising classes. -/
def Rise (os : List Ot) : Prop := ∀ i a b, os[i]? = some a → os[i + 1]? = some b → a.cls ≤ b.cls
theorem Steps.rise {T t' : Int} {ls ls' : List Ls} {os : List Ot} {t : Int} (h : Steps T t ls os t' ls') (ht : t = T) : Rise os ∧ t' = T ∧ (∀ c, os.getLast? = some c → ∀ j l, j < c.cls → ls'[j]? = some l → whenL T l ≠ some T) := by
  induction h with
  | none ls => exact ⟨fun i a b h => by simp at h, ht, fun c h => by simp at h⟩
  | @snoc t1 ls ls1 os l x ys h hok hat hl hx ih =>
    obtain ⟨h1, rfl, h3⟩ := ih
    have hge := (nextS_ok hok).2.1
    have hT : (nextS t1 ls1).at_ = t1 := by omega
    have L := (nextS_least t1 ls1).some hok
    have hlow : ∀ j m, j < (nextS t1 ls1).cls → ls1[j]? = some m → whenL t1 m ≠ some t1 := by
      intro j m hj hm e
      have := (L.2 j m t1 (by have := (nextS_ok hok).1; omega) hm e).2 hj
      omega
    refine ⟨?_, hT, ?_⟩
    · intro i a b ha hb
      have hbl := (List.getElem?_eq_some_iff.1 hb).1
      rw [List.length_append, List.length_singleton] at hbl
      by_cases hi : i + 1 < os.length
      · rw [List.getElem?_append_left (by omega)] at ha
        rw [List.getElem?_append_left hi] at hb
        exact h1 i a b ha hb
      · rw [List.getElem?_append_left (by omega)] at ha
        rw [List.getElem?_append_right (by omega), show i + 1 - os.length = 0 by omega] at hb
        simp only [List.getElem?_cons_zero, Option.some.injEq] at hb
        subst hb
        have hlast : os.getLast? = some a := by rw [List.getLast?_eq_getElem?, show os.length - 1 = i by omega]; exact ha
        show a.cls ≤ (nextS t1 ls1).cls
        refine Nat.not_lt.1 fun hlt => ?_
        obtain ⟨_, m, hm, hw⟩ := L.1
        exact h3 a hlast _ m hlt hm (by rw [hw, hT])
    · intro c hc j m hj hm
      have hc' : c = ⟨(nextS t1 ls1).at_, (nextS t1 ls1).cls, x⟩ := by simpa using hc.symm
      subst hc'
      have hj' : j < (nextS t1 ls1).cls := hj
      rw [List.getElem?_set_ne (by omega)] at hm
      exact hlow j m hj' hm
end Go.Proofs.Ytballojildjbhaa.S
