/- What goes out of a class is within its burst and rate, in order: plain facts; no condition but what stands in each. -/
import Derived.Test.YtballojildjbhaaSP
namespace Go.Proofs.Ytballojildjbhaa.S
open Go Go.RowKit Go.Proofs.YtballojildjbhaaW.PrintWords Go.Proofs.YtballojildjbhaaW.PrintLast Go.Proofs.YtballojildjbhaaW.PrintMore Go.Proofs.Ytballojildjbhaa.F
set_option linter.unusedVariables false
set_option linter.unusedSimpArgs false

/-- The sizes of a class, all together; its numbers, in order. -/
def sumC (c : Nat) : List Ot → Int
  | [] => 0
  | o :: r => (if o.cls = c then o.it.size else 0) + sumC c r
def nosC (c : Nat) : List Ot → List Int
  | [] => []
  | o :: r => if o.cls = c then o.it.no :: nosC c r else nosC c r
theorem sumC_app (c : Nat) (a b : List Ot) : sumC c (a ++ b) = sumC c a + sumC c b := by
  induction a with
  | nil => simp [sumC]
  | cons o r ih => rw [List.cons_append, sumC, sumC, ih]; omega
theorem nosC_app (c : Nat) (a b : List Ot) : nosC c (a ++ b) = nosC c a ++ nosC c b := by
  induction a with
  | nil => rfl
  | cons o r ih =>
    rw [List.cons_append, nosC, nosC, ih]
    split <;> rfl

theorem tok_mono {s0 s1 s2 s3 t u : Int} (h0 : 0 ≤ s0) (h3 : s3 ≤ s1) (htu : t ≤ u) : B.tokV s0 s1 s2 s3 t ≤ B.tokV s0 s1 s2 s3 u := by
  unfold B.tokV
  by_cases h1 : t ≤ s2
  · rw [if_pos h1]
    by_cases h2 : u ≤ s2
    · rw [if_pos h2]; exact Int.le_refl _
    · rw [if_neg h2]
      have : 0 ≤ s0 * (u - s2) := Int.mul_nonneg h0 (by omega)
      unfold mn
      split <;> omega
  · rw [if_neg h1, if_neg (by omega)]
    have : s0 * (t - s2) ≤ s0 * (u - s2) := Int.mul_le_mul_of_nonneg_left (by omega) h0
    unfold mn
    split <;> split <;> omega
theorem tok_le {s0 s1 s2 s3 t : Int} (h3 : s3 ≤ s1) : B.tokV s0 s1 s2 s3 t ≤ s1 := by
  unfold B.tokV mn
  split
  · exact h3
  · split <;> omega
theorem tok_grow {s0 s1 s2 s3 t : Int} (h : s2 ≤ t) : B.tokV s0 s1 s2 s3 t ≤ s3 + s0 * (t - s2) := by
  unfold B.tokV mn
  by_cases h1 : t ≤ s2
  · rw [if_pos h1, show t - s2 = 0 by omega, Int.mul_zero]; omega
  · rw [if_neg h1]; split <;> omega

/-- A head that goes out is covered. -/
theorem covered {t u : Int} {l : Ls} {x : It} {ys : List It} (hl : LOk l) (h3 : l.tok ≤ l.burst) (hx : l.xs = x :: ys) (h : whenL t l = some u) : x.size ≤ B.tokV l.rate l.burst l.tick l.tok u := by
  unfold whenL at h
  rw [hx] at h
  simp only at h
  have hn0 := hl.q.pos x (by rw [hx]; simp)
  have hn1 := hl.sml x (by rw [hx]; simp)
  by_cases hev : (B.whenV l.rate l.burst l.tick l.tok x.size).2 = true
  · rw [if_pos hev] at h
    injection h with h
    by_cases hk : x.size ≤ l.tok
    · have h1 : B.tokV l.rate l.burst l.tick l.tok l.tick = l.tok := B.tok_self (Int.le_refl _)
      by_cases hu : l.tick ≤ u
      · have := tok_mono (s0 := l.rate) (s1 := l.burst) (s2 := l.tick) (s3 := l.tok) hl.b.r.1 h3 hu
        omega
      · rw [B.tok_self (by omega)]; exact hk
    · obtain ⟨_, _, _, h4⟩ := B.first hl.b ⟨hn0, by omega⟩ hk hev
      have h5 : (B.whenV l.rate l.burst l.tick l.tok x.size).1 ≤ u := by rw [← h]; split <;> omega
      have := tok_mono (s0 := l.rate) (s1 := l.burst) (s2 := l.tick) (s3 := l.tok) hl.b.r.1 h3 h5
      omega
  · rw [if_neg hev] at h; cases h

/-- A class's line: what it was made of; its tokens, its tick. -/
structure LC (t : Int) (x : Cl) (l : Ls) : Prop where
  items : l.items = x.items
  bound : l.bound = x.size
  rate : l.rate = x.rate
  burst : l.burst = x.burst
  tick : l.tick ≤ t
  tok : l.tok ≤ l.burst

/-- What has gone out, and what was offered, so far. -/
structure BI (cs : List Cl) (t : Int) (ls : List Ls) (out : List Ot) (offd : List (List Int)) : Prop where
  len : ls.length = cs.length
  olen : offd.length = cs.length
  lc : ∀ (c : Nat) l x, ls[c]? = some l → cs[c]? = some x → LC t x l
  cls : ∀ o, o ∈ out → o.cls < cs.length ∧ o.at_ ≤ t ∧ 0 ≤ o.at_ ∧ 0 ≤ o.it.size ∧ o.it.size ≤ 2048
  mono : ∀ i a b, out[i]? = some a → out[i + 1]? = some b → a.at_ ≤ b.at_
  ord : ∀ (c : Nat) l, ls[c]? = some l → offd[c]? = some (nosC c out ++ l.xs.map (·.no))
  sum : ∀ (c : Nat) l, ls[c]? = some l → ∀ i a, out[i]? = some a → a.cls = c → sumC c (out.drop i) + l.tok ≤ l.burst + l.rate * (l.tick - a.at_) ∧ a.at_ ≤ l.tick
  bnd : ∀ (c : Nat) x, cs[c]? = some x → ∀ i k a b, i ≤ k → out[i]? = some a → out[k]? = some b → a.cls = c → b.cls = c → a.at_ ≤ b.at_ ∧ sumC c ((out.take (k + 1)).drop i) ≤ x.burst + x.rate * (b.at_ - a.at_)

theorem newBI {cs : List Cl} {n : Nat} (hn : n = cs.length) : BI cs 0 (cs.map (newL 0)) [] (List.replicate n []) := by
  refine ⟨by simp, by simp [hn], fun c l x hl hx => ?_, fun o ho => by simp at ho, fun i a b h => by simp at h, fun c l hl => ?_, fun c l hl i a h => by simp at h, fun c x hx i k a b hik h => by simp at h⟩
  · rw [List.getElem?_map, hx] at hl
    cases hl
    exact ⟨rfl, rfl, rfl, rfl, Int.le_refl _, Int.le_refl _⟩
  · have hc := (List.getElem?_eq_some_iff.1 hl).1
    rw [List.length_map] at hc
    rw [List.getElem?_map] at hl
    rw [List.getElem?_replicate, if_pos (by omega)]
    cases hx : cs[c]? with
    | none => rw [hx] at hl; cases hl
    | some x => rw [hx] at hl; cases hl; rfl

/-- One head goes out. -/
theorem BI.out {cs : List Cl} {t : Int} {ls : List Ls} {out : List Ot} {offd : List (List Int)} (h : BI cs t ls out offd) (hok : ∀ l, l ∈ ls → LOk l) (h0 : 0 ≤ t) (hb : (nextS t ls).ok = true) {l : Ls} {x : It} {ys : List It}
    (hl : ls[(nextS t ls).cls]? = some l) (hx : l.xs = x :: ys) :
    BI cs (nextS t ls).at_ (ls.set (nextS t ls).cls (outL l x ys (nextS t ls).at_)) (out ++ [⟨(nextS t ls).at_, (nextS t ls).cls, x⟩]) offd := by
  obtain ⟨hcl, hge, _⟩ := nextS_ok hb
  obtain ⟨⟨_, l', hl', hw⟩, _⟩ := (nextS_least t ls).some hb
  rw [hl] at hl'
  cases hl'
  generalize (nextS t ls).at_ = u at *
  generalize (nextS t ls).cls = c0 at *
  have hlok := hok l (List.mem_of_getElem? hl)
  have hn0 := hlok.q.pos x (by rw [hx]; simp)
  have hn1 := hlok.sml x (by rw [hx]; simp)
  have hc0 : c0 < cs.length := by rw [← h.len]; exact hcl
  have hLC := h.lc c0 l cs[c0] hl (List.getElem?_eq_getElem hc0)
  have hcov := covered hlok hLC.tok hx hw
  have htk : B.tickV l.tick u = u := by
    unfold B.tickV
    have := hLC.tick
    by_cases e : u ≤ l.tick
    · rw [if_pos e]; omega
    · rw [if_neg e]
  have hsub : B.subV (B.tokV l.rate l.burst l.tick l.tok u) x.size = B.tokV l.rate l.burst l.tick l.tok u - x.size := by unfold B.subV; rw [if_neg (by omega)]
  have hgrow := tok_grow (s0 := l.rate) (s1 := l.burst) (s2 := l.tick) (s3 := l.tok) (t := u) (by have := hLC.tick; omega)
  have htle := tok_le (s0 := l.rate) (s1 := l.burst) (s2 := l.tick) (s3 := l.tok) (t := u) hLC.tok
  have hset : ∀ c m, (ls.set c0 (outL l x ys u))[c]? = some m → (c = c0 ∧ m = outL l x ys u) ∨ (c ≠ c0 ∧ ls[c]? = some m) := by
    intro c m hm
    by_cases e : c0 = c
    · subst e
      rw [List.getElem?_set_self hcl] at hm
      cases hm
      exact .inl ⟨rfl, rfl⟩
    · rw [List.getElem?_set_ne e] at hm
      exact .inr ⟨fun e' => e e'.symm, hm⟩
  have last : ∀ (i : Nat) (a : Ot), (out ++ [(⟨u, c0, x⟩ : Ot)])[i]? = some a → (i < out.length ∧ out[i]? = some a) ∨ (i = out.length ∧ a = ⟨u, c0, x⟩) := by
    intro i a ha
    have hil := (List.getElem?_eq_some_iff.1 ha).1
    rw [List.length_append, List.length_singleton] at hil
    by_cases e : i < out.length
    · rw [List.getElem?_append_left e] at ha
      exact .inl ⟨e, ha⟩
    · obtain rfl : i = out.length := by omega
      rw [List.getElem?_append_right (by omega), Nat.sub_self] at ha
      cases ha
      exact .inr ⟨rfl, rfl⟩
  -- the new sums
  have hsum : ∀ i a, (out ++ [(⟨u, c0, x⟩ : Ot)])[i]? = some a → a.cls = c0 → sumC c0 ((out ++ [(⟨u, c0, x⟩ : Ot)]).drop i) + (B.tokV l.rate l.burst l.tick l.tok u - x.size) ≤ l.burst + l.rate * (u - a.at_) ∧ a.at_ ≤ u := by
    intro i a ha hac
    rcases last i a ha with ⟨hi, ha'⟩ | ⟨rfl, rfl⟩
    · obtain ⟨h1, h2⟩ := h.sum c0 l hl i a ha' hac
      rw [List.drop_append_of_le_length (by omega), sumC_app]
      have e1 : sumC c0 [(⟨u, c0, x⟩ : Ot)] = x.size := by simp [sumC]
      have e2 : l.rate * (u - a.at_) = l.rate * (u - l.tick) + l.rate * (l.tick - a.at_) := by rw [← Int.mul_add]; congr 1; omega
      have := hLC.tick
      rw [e1, e2]
      omega
    · rw [List.drop_append_of_le_length (by omega), List.drop_length, List.nil_append]
      have e1 : sumC c0 [(⟨u, c0, x⟩ : Ot)] = x.size := by simp [sumC]
      rw [e1]
      have e2 : l.rate * (u - u) = 0 := by rw [Int.sub_self, Int.mul_zero]
      show x.size + (B.tokV l.rate l.burst l.tick l.tok u - x.size) ≤ l.burst + l.rate * (u - u) ∧ u ≤ u
      rw [e2]
      omega
  refine ⟨by rw [List.length_set]; exact h.len, h.olen, ?_, ?_, ?_, ?_, ?_, ?_⟩
  · intro c m y hm hy
    rcases hset c m hm with ⟨rfl, rfl⟩ | ⟨hne, hm'⟩
    · rw [List.getElem?_eq_getElem hc0] at hy
      cases hy
      refine ⟨hLC.items, hLC.bound, hLC.rate, hLC.burst, ?_, ?_⟩
      · show B.tickV l.tick u ≤ u; rw [htk]; exact Int.le_refl _
      · show B.subV (B.tokV l.rate l.burst l.tick l.tok u) x.size ≤ l.burst; rw [hsub]; omega
    · obtain ⟨a1, a2, a3, a4, a5, a6⟩ := h.lc c m y hm' hy
      exact ⟨a1, a2, a3, a4, by omega, a6⟩
  · intro o ho
    rcases List.mem_append.1 ho with ho | ho
    · obtain ⟨a1, a2, a3, a4⟩ := h.cls o ho
      exact ⟨a1, by omega, a3, a4⟩
    · have : o = ⟨u, c0, x⟩ := by simpa using ho
      subst this
      exact ⟨hc0, Int.le_refl _, by show 0 ≤ u; omega, hn0, hn1⟩
  · intro i a b ha hb'
    rcases last i a ha with ⟨hi, ha'⟩ | ⟨rfl, rfl⟩
    · rcases last (i + 1) b hb' with ⟨hi2, hb2⟩ | ⟨_, rfl⟩
      · exact h.mono i a b ha' hb2
      · have := (h.cls a (List.mem_of_getElem? ha')).2.1
        show a.at_ ≤ u; omega
    · have := (List.getElem?_eq_some_iff.1 hb').1
      simp at this
  · intro c m hm
    rw [nosC_app]
    rcases hset c m hm with ⟨rfl, rfl⟩ | ⟨hne, hm'⟩
    · have := h.ord c l hl
      rw [hx] at this
      rw [this]
      show some (nosC c out ++ (x :: ys).map (·.no)) = some ((nosC c out ++ nosC c [(⟨u, c, x⟩ : Ot)]) ++ ys.map (·.no))
      simp [nosC]
    · have e : nosC c [(⟨u, c0, x⟩ : Ot)] = [] := by
        have : ¬ c0 = c := fun e => hne e.symm
        simp [nosC, this]
      rw [e, List.append_nil]
      exact h.ord c m hm'
  · intro c m hm i a ha hac
    rcases hset c m hm with ⟨rfl, rfl⟩ | ⟨hne, hm'⟩
    · have := hsum i a ha hac
      show sumC c ((out ++ [(⟨u, c, x⟩ : Ot)]).drop i) + B.subV (B.tokV l.rate l.burst l.tick l.tok u) x.size ≤ l.burst + l.rate * (B.tickV l.tick u - a.at_) ∧ a.at_ ≤ B.tickV l.tick u
      rw [hsub, htk]; exact this
    · rcases last i a ha with ⟨hi, ha'⟩ | ⟨rfl, rfl⟩
      · have := h.sum c m hm' i a ha' hac
        rw [List.drop_append_of_le_length (by omega), sumC_app]
        have e : sumC c [(⟨u, c0, x⟩ : Ot)] = 0 := by
          have : ¬ c0 = c := fun e => hne e.symm
          simp [sumC, this]
        rw [e]; omega
      · exact absurd hac.symm hne
  · intro c y hy i k a b hik ha hb' hac hbc
    have hil := (List.getElem?_eq_some_iff.1 ha).1
    rw [List.length_append, List.length_singleton] at hil
    rcases last k b hb' with ⟨hk, hb2⟩ | ⟨rfl, rfl⟩
    · rcases last i a ha with ⟨hi, ha2⟩ | ⟨rfl, rfl⟩
      · rw [List.take_append_of_le_length (by omega)]
        exact h.bnd c y hy i k a b hik ha2 hb2 hac hbc
      · omega
    · have hbc' : c0 = c := hbc
      subst hbc'
      rw [List.getElem?_eq_getElem hc0] at hy
      cases hy
      obtain ⟨h1, h2⟩ := hsum i a ha hac
      refine ⟨h2, ?_⟩
      rw [List.take_of_length_le (by simp)]
      rw [← hLC.rate, ← hLC.burst]
      show sumC c0 ((out ++ [(⟨u, c0, x⟩ : Ot)]).drop i) ≤ l.burst + l.rate * (u - a.at_)
      omega

/-- A release. -/
theorem BI.steps {cs : List Cl} {T t t' : Int} {ls ls' : List Ls} {os : List Ot} (h : Steps T t ls os t' ls') : ∀ {out : List Ot} {offd : List (List Int)} {m : Nat}, BI cs t ls out offd → Inv m ls → B.U64 t → T ≤ 18446744073709551615 → BI cs t' ls' (out ++ os) offd := by
  induction h with
  | none ls => intro out offd m hb _ _ _; rw [List.append_nil]; exact hb
  | @snoc t1 ls ls1 os l x ys h hok hat hl hx ih =>
    intro out offd m hb hi ht hT
    obtain ⟨h1, h2⟩ := h.inv hi ht hT
    have := (ih hb hi ht hT).out h1.ok h2.1 hok hl hx
    rw [← List.append_assoc]
    exact this
theorem BI.up {cs : List Cl} {t t' : Int} {ls : List Ls} {out : List Ot} {offd : List (List Int)} (h : BI cs t ls out offd) (ht : t ≤ t') : BI cs t' ls out offd :=
  ⟨h.len, h.olen, fun c l x hl hx => by obtain ⟨a1, a2, a3, a4, a5, a6⟩ := h.lc c l x hl hx; exact ⟨a1, a2, a3, a4, by omega, a6⟩, fun o ho => by obtain ⟨a1, a2, a3⟩ := h.cls o ho; exact ⟨a1, by omega, a3⟩, h.mono, h.ord, h.sum, h.bnd⟩
theorem BI.release {cs : List Cl} {T t : Int} {ls : List Ls} {out : List Ot} {offd : List (List Int)} {m : Nat} (h : BI cs t ls out offd) (hi : Inv m ls) (ht : B.U64 t) (hT : T ≤ 18446744073709551615) (htT : t ≤ T) :
    BI cs T (relS T t ls).2 (out ++ (relS T t ls).1) offd := by
  obtain ⟨t1, h1, _⟩ := relS_rel T t ls
  exact (BI.steps h1 h hi ht hT).up (h1.tick_le htT).2.1

/-- An offer. -/
theorem BI.offer {cs : List Cl} {t : Int} {ls : List Ls} {out : List Ot} {offd : List (List Int)} (h : BI cs t ls out offd) {c : Nat} {l : Ls} (hl : ls[c]? = some l) (x : It) :
    BI cs t (ls.set c (offL l x).2) out (if (offL l x).1 = 0 then offd.set c (nosC c out ++ l.xs.map (·.no) ++ [x.no]) else offd) := by
  have hcl := (List.getElem?_eq_some_iff.1 hl).1
  have hset : ∀ d m, (ls.set c (offL l x).2)[d]? = some m → (d = c ∧ m = (offL l x).2) ∨ (d ≠ c ∧ ls[d]? = some m) := by
    intro d m hm
    by_cases e : c = d
    · subst e
      rw [List.getElem?_set_self hcl] at hm
      cases hm
      exact .inl ⟨rfl, rfl⟩
    · rw [List.getElem?_set_ne e] at hm
      exact .inr ⟨fun e' => e e'.symm, hm⟩
  have hxs : ((offL l x).1 = 0 ∧ (offL l x).2.xs = l.xs ++ [x]) ∨ ((offL l x).1 ≠ 0 ∧ (offL l x).2.xs = l.xs) := by
    unfold offL pushR
    split
    · exact .inr ⟨by simp, rfl⟩
    · split
      · exact .inl ⟨rfl, rfl⟩
      · exact .inr ⟨by simp, rfl⟩
  refine ⟨by rw [List.length_set]; exact h.len, ?_, ?_, h.cls, h.mono, ?_, ?_, h.bnd⟩
  · split
    · rw [List.length_set]; exact h.olen
    · exact h.olen
  · intro d m y hm hy
    rcases hset d m hm with ⟨rfl, rfl⟩ | ⟨_, hm'⟩
    · obtain ⟨a1, a2, a3, a4, a5, a6⟩ := h.lc d l y hl hy
      exact ⟨a1, a2, a3, a4, a5, a6⟩
    · exact h.lc d m y hm' hy
  · intro d m hm
    have hdl : c < offd.length := by rw [h.olen, ← h.len]; exact hcl
    rcases hset d m hm with ⟨rfl, rfl⟩ | ⟨hne, hm'⟩
    · rcases hxs with ⟨h1, h2⟩ | ⟨h1, h2⟩
      · rw [if_pos h1, List.getElem?_set_self hdl, h2, List.map_append, List.append_assoc]; rfl
      · rw [if_neg h1, h2]; exact h.ord d l hl
    · split
      · rw [List.getElem?_set_ne (fun e => hne e.symm)]; exact h.ord d m hm'
      · exact h.ord d m hm'
  · intro d m hm
    rcases hset d m hm with ⟨rfl, rfl⟩ | ⟨_, hm'⟩
    · exact h.sum d l hl
    · exact h.sum d m hm'
end Go.Proofs.Ytballojildjbhaa.S
