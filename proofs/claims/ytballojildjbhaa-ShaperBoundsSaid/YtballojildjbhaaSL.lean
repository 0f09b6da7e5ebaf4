/- shaper.Shaper: its calls over memory of the call's own; what goes out, as a function; conditions: the shaper lies there. -/
import Derived.Test.YtballojildjbhaaSK
namespace Go.Proofs.Ytballojildjbhaa.S
open Go Go.RowKit Go.Proofs.YtballojildjbhaaW.PrintWords Go.Proofs.YtballojildjbhaaW.PrintLast Go.Proofs.YtballojildjbhaaW.PrintMore Go.Proofs.Ytballojildjbhaa.F
set_option linter.unusedVariables false
set_option linter.unusedSimpArgs false

/-- All that goes out up to a tick, at most f heads. -/
def relF (T : Int) : Nat → Int → List Ls → List Ot × List Ls
  | 0, _, ls => ([], ls)
  | f + 1, t, ls =>
    if (nextS t ls).ok = true ∧ (nextS t ls).at_ ≤ T then
      match ls[(nextS t ls).cls]? with
      | none => ([], ls)
      | some l => match l.xs with
        | [] => ([], ls)
        | x :: ys =>
          (⟨(nextS t ls).at_, (nextS t ls).cls, x⟩ :: (relF T f (nextS t ls).at_ (ls.set (nextS t ls).cls (outL l x ys (nextS t ls).at_))).1,
            (relF T f (nextS t ls).at_ (ls.set (nextS t ls).cls (outL l x ys (nextS t ls).at_))).2)
    else ([], ls)
theorem relF_go {T t : Int} {f : Nat} {ls : List Ls} {l : Ls} {x : It} {ys : List It} (hok : (nextS t ls).ok = true) (hat : (nextS t ls).at_ ≤ T) (hl : ls[(nextS t ls).cls]? = some l) (hx : l.xs = x :: ys) :
    relF T (f + 1) t ls = (⟨(nextS t ls).at_, (nextS t ls).cls, x⟩ :: (relF T f (nextS t ls).at_ (ls.set (nextS t ls).cls (outL l x ys (nextS t ls).at_))).1, (relF T f (nextS t ls).at_ (ls.set (nextS t ls).cls (outL l x ys (nextS t ls).at_))).2) := by
  rw [relF, if_pos ⟨hok, hat⟩]
  simp only [hl, hx]
theorem relF_stop {T t : Int} {ls : List Ls} (h : (nextS t ls).ok = false ∨ T < (nextS t ls).at_) : ∀ f, relF T f t ls = ([], ls)
  | 0 => rfl
  | f + 1 => by
    rw [relF, if_neg]
    rintro ⟨h1, h2⟩
    rcases h with h | h
    · rw [h] at h1; cases h1
    · omega
theorem Steps.fn {T t t' : Int} {ls ls' : List Ls} {os : List Ot} (h : Steps T t ls os t' ls') : ∀ f, relF T (os.length + f) t ls = (os ++ (relF T f t' ls').1, (relF T f t' ls').2) := by
  induction h with
  | none ls => intro f; simp
  | snoc h hok hat hl hx ih =>
    intro f
    rw [List.length_append, List.length_singleton, Nat.add_assoc, Nat.add_comm 1 f, ih (f + 1), relF_go hok hat hl hx]
    simp
theorem Steps.cnt {T t t' : Int} {ls ls' : List Ls} {os : List Ot} (h : Steps T t ls os t' ls') : os.length + S.cnt ls' = S.cnt ls := by
  induction h with
  | none ls => simp
  | @snoc t1 ls ls1 os l x ys h hok hat hl hx ih =>
    have := cnt_set (l' := outL l x ys (nextS t1 ls1).at_) hl
    rw [hx, show (outL l x ys (nextS t1 ls1).at_).xs.length = ys.length from rfl, List.length_cons] at this
    rw [List.length_append, List.length_singleton]; omega
/-- What goes out is a function of the lines. -/
def relS (T t : Int) (ls : List Ls) : List Ot × List Ls := relF T (cnt ls) t ls
theorem Rel.fn {T t : Int} {ls ls' : List Ls} {os : List Ot} (h : Rel T t ls os ls') : relS T t ls = (os, ls') := by
  obtain ⟨t', h1, h2⟩ := h
  unfold relS
  rw [← h1.cnt, h1.fn, relF_stop h2]
  simp

theorem LOk.new {tick : Int} {x : Cl} (h : clOk x = true) (ht : B.U64 tick) (hr : B.U64 x.rate) (hb : B.U64 x.burst) (hs : x.size ≤ 9223372036854775807) : LOk (newL tick x) := by
  have hn : newB x.items x.size = false := by
    unfold clOk at h
    cases hh : newB x.items x.size
    · rfl
    · rw [hh] at h; simp at h
  exact ⟨⟨hr, hb, ht, hb⟩, Ok.new hn hs, Few.nil, fun y hy => by simp [newL] at hy⟩

/-- What the lines are, behind at most m offers. -/
structure Inv (m : Nat) (ls : List Ls) : Prop where
  ok : ∀ l, l ∈ ls → LOk l
  len : ls.length ≤ 8
  cnt : S.cnt ls ≤ m
  drops : ∀ l, l ∈ ls → l.drops ≤ m

/-- An offer, whatever the class. -/
def offS (ls : List Ls) (c : Int) (x : It) : Int × List Ls :=
  if c < 0 ∨ (ls.length : Int) ≤ c ∨ x.size < 0 ∨ 2048 < x.size then (2, ls) else
    match ls[c.toNat]? with
    | none => (2, ls)
    | some l => ((offL l x).1, ls.set c.toNat (offL l x).2)

theorem push_len {xs : List It} {items bound drops : Int} {x : It} : (pushR xs items bound drops x).2.1.length ≤ xs.length + 1 ∧ drops ≤ (pushR xs items bound drops x).2.2 ∧ (pushR xs items bound drops x).2.2 ≤ drops + 1 := by
  unfold pushR
  split
  · exact ⟨by simp, by simp, by simp; omega⟩
  · split
    · exact ⟨by simp, by simp, by simp; omega⟩
    · exact ⟨by simp, by simp; omega, by simp⟩

theorem Inv.offer {m : Nat} {ls : List Ls} (h : Inv m ls) (c : Int) {x : It} (hx : x.data.length ≤ 65536) (hm : m < 65536) : Inv (m + 1) (offS ls c x).2 := by
  have up : Inv (m + 1) ls := ⟨h.ok, h.len, by have := h.cnt; omega, fun l hl => by have := h.drops l hl; omega⟩
  unfold offS
  by_cases hc : c < 0 ∨ (ls.length : Int) ≤ c ∨ x.size < 0 ∨ 2048 < x.size
  · rw [if_pos hc]; exact up
  · rw [if_neg hc]
    cases hl : ls[c.toNat]? with
    | none => exact up
    | some l =>
      have hmem := List.mem_of_getElem? hl
      have hd := h.drops l hmem
      have hp := push_len (xs := l.xs) (items := l.items) (bound := l.bound) (drops := l.drops) (x := x)
      refine ⟨fun k hk => ?_, by rw [List.length_set]; exact h.len, ?_, fun k hk => ?_⟩
      · rcases set_mem hk with h1 | rfl
        · exact h.ok k h1
        · exact (h.ok l hmem).offer hx (by omega) (by omega)
      · have := cnt_set (l' := (offL l x).2) hl
        have h2 : (offL l x).2.xs.length ≤ l.xs.length + 1 := hp.1
        have := h.cnt
        show S.cnt (ls.set c.toNat (offL l x).2) ≤ m + 1
        omega
      · rcases set_mem hk with h1 | rfl
        · exact up.drops k h1
        · have h2 : (offL l x).2.drops ≤ l.drops + 1 := hp.2.2
          omega

/-- A shaper of the call's own. -/
structure Sq (w0 W : World) (O : Nat → Nat) (s : Nat) (tick : Int) (ls : List Ls) (m : Nat) : Prop where
  sh : Sh W O s tick ls
  new : ∀ k, O k ≠ 0 → w0.heap.size ≤ k
  bel : Below w0.heap.size w0 W
  inv : Inv m ls
  tu : B.U64 tick
theorem Sq.below {w0 W W' : World} {O : Nat → Nat} {s : Nat} {tick : Int} {ls : List Ls} {m : Nat} (h : Sq w0 W O s tick ls m) (hb : Below W.heap.size W W') : Sq w0 W' O s tick ls m :=
  ⟨h.sh.below hb, h.new, below_step h.bel hb, h.inv, h.tu⟩
theorem Sq.goes {w0 W W' : World} {O O' : Nat → Nat} {s : Nat} {tick tick' : Int} {ls ls' : List Ls} {m m' : Nat} (h : Sq w0 W O s tick ls m) (hs : Sh W' O' s tick' ls') (hg : Goes W W' O O') (hi : Inv m' ls') (ht : B.U64 tick') : Sq w0 W' O' s tick' ls' m' :=
  ⟨hs, hg.from h.bel.size h.new, h.bel.trans (hg.below h.bel.size h.new), hi, ht⟩

/-- Offer, whatever it answers. -/
theorem offer_any (w0 : World) (O : Nat → Nat) (s : Nat) (tick : Int) (ls : List Ls) (m : Nat) (i : Int) (x : It) (A : Option Addr) (n c : Nat) (w : World) (h : Sq w0 w O s tick ls m) (hxd : x.data.length ≤ 65536) (hm : m < 65536)
    (hd : Dat w (fun k => O k = 0) A n x.data) :
    Calls Try.prog 11 #[.pointer (some ⟨s, 0, none⟩), .int .i64 i, .agg #[.int .u64 x.no, .int .i64 x.size, .slice A n c]] w fun e w' => e = .returned (.int .i64 (offS ls i x).1) ∧ ∃ O', Sq w0 w' O' s tick (offS ls i x).2 (m + 1) ∧ Goes w w' O O' := by
  have hi := h.inv.offer i hxd hm
  unfold offS at hi ⊢
  by_cases hc : i < 0 ∨ (ls.length : Int) ≤ i ∨ x.size < 0 ∨ 2048 < x.size
  · rw [if_pos hc] at hi ⊢
    by_cases hc1 : noLine ls i
    · refine (offer_no O s tick ls i x.no x.size A n c w h.sh hc1).mono ?_
      rintro e w' ⟨rfl, hb⟩
      exact ⟨rfl, O, h.goes (h.sh.below hb) (Goes.of_below hb) hi h.tu, Goes.of_below hb⟩
    · have h0 : 0 ≤ i := Int.not_lt.1 fun h0 => hc1 (.inl h0)
      have h1 : i < ls.length := Int.not_le.1 fun h1 => hc1 (.inr h1)
      obtain ⟨k, rfl⟩ := Int.eq_ofNat_of_zero_le h0
      have hk : k < ls.length := by omega
      refine (offer_arg O s tick ls k x.no x.size A n c ls[k] w h.sh (List.getElem?_eq_getElem hk) (by omega)).mono ?_
      rintro e w' ⟨rfl, hb⟩
      exact ⟨rfl, O, h.goes (h.sh.below hb) (Goes.of_below hb) hi h.tu, Goes.of_below hb⟩
  · rw [if_neg hc] at hi ⊢
    obtain ⟨k, rfl⟩ := Int.eq_ofNat_of_zero_le (show 0 ≤ i by omega)
    have hk : k < ls.length := by omega
    have hlk : ls[k]? = some ls[k] := List.getElem?_eq_getElem hk
    have e : ls[(Int.ofNat k).toNat]? = some ls[k] := hlk
    rw [show (↑k : Int) = Int.ofNat k from rfl] at hi ⊢
    rw [e] at hi ⊢
    simp only at hi ⊢
    have hl := h.inv.ok _ (List.getElem_mem hk)
    have hdr := h.inv.drops _ (List.getElem_mem hk)
    refine (offer_some O s tick ls k x A n c ls[k] w h.sh hlk hl (by omega) (by omega) hxd hd (by omega)).mono ?_
    rintro e w' ⟨rfl, O', h1, h2⟩
    exact ⟨rfl, O', h.goes h1 h2 hi h.tu, h2⟩

theorem Steps.inv {T t t' : Int} {ls ls' : List Ls} {os : List Ot} {m : Nat} (h : Steps T t ls os t' ls') (hi : Inv m ls) (ht : B.U64 t) (hT : T ≤ 18446744073709551615) : Inv m ls' ∧ B.U64 t' := by
  induction h with
  | none ls => exact ⟨hi, ht⟩
  | @snoc t1 ls ls1 os l x ys h hok hat hl hx ih =>
    obtain ⟨h1, h2⟩ := ih hi
    have hmem := List.mem_of_getElem? hl
    obtain ⟨hcl, hge, _⟩ := nextS_ok hok
    have hu : B.U64 (nextS t1 ls1).at_ := ⟨by have := h2.1; omega, by omega⟩
    refine ⟨⟨fun k hk => ?_, by rw [List.length_set]; exact h1.len, ?_, fun k hk => ?_⟩, hu⟩
    · rcases set_mem hk with h3 | rfl
      · exact h1.ok k h3
      · exact (h1.ok l hmem).out hx hu
    · have := cnt_set (l' := outL l x ys (nextS t1 ls1).at_) hl
      rw [hx, show (outL l x ys (nextS t1 ls1).at_).xs.length = ys.length from rfl, List.length_cons] at this
      have := h1.cnt
      omega
    · rcases set_mem hk with h3 | rfl
      · exact h1.drops k h3
      · exact h1.drops l hmem

/-- Release. -/
theorem release_q (w0 : World) (O : Nat → Nat) (s : Nat) (tick : Int) (ls : List Ls) (m : Nat) (T : Int) (w : World) (h : Sq w0 w O s tick ls m) (hm : m ≤ 65536) (hT : B.U64 T) :
    Calls Try.prog 12 #[.pointer (some ⟨s, 0, none⟩), .int .u64 T] w fun e w' => ∃ v cs, e = .returned v ∧ OR w w' v (relS (if T < tick then tick else T) tick ls).1 cs ∧
      Sq w0 w' O s (if T < tick then tick else T) (relS (if T < tick then tick else T) tick ls).2 m ∧ Goes w w' O O := by
  have hu : B.U64 (if T < tick then tick else T) := by split; exact h.tu; exact hT
  refine (release_any O s tick ls T _ w h.sh h.inv.ok (by have := h.inv.len; omega) (by have := h.inv.cnt; omega) h.tu hT rfl).mono ?_
  rintro e w' ⟨v, os, cs, ls', rfl, h1, h2, h3, h4⟩
  rw [h2.fn]
  obtain ⟨t', hs, _⟩ := h2
  have hg : Goes w w' O O := ⟨h4, fun _ _ => rfl⟩
  exact ⟨v, cs, rfl, h1, h.goes h3 hg (hs.inv h.inv h.tu hu.2).1 hu, hg⟩

theorem Inv.clear {m : Nat} {ls : List Ls} (h : Inv m ls) : Inv m (ls.map clearL) := by
  refine ⟨fun l hl => ?_, by rw [List.length_map]; exact h.len, ?_, fun l hl => ?_⟩
  · obtain ⟨k, hk, rfl⟩ := List.mem_map.1 hl
    exact (h.ok k hk).clear
  · have : S.cnt (ls.map clearL) = 0 := by
      unfold S.cnt
      rw [List.map_map]
      have : ∀ (l : List Ls), (l.map ((fun l => l.xs.length) ∘ clearL)).sum = 0 := by
        intro l
        induction l with
        | nil => rfl
        | cons a r ih => rw [List.map_cons, List.sum_cons, ih]; rfl
      exact this ls
    omega
  · obtain ⟨k, hk, rfl⟩ := List.mem_map.1 hl
    exact h.drops k hk

theorem clear_q (w0 : World) (O : Nat → Nat) (s : Nat) (tick : Int) (ls : List Ls) (m : Nat) (w : World) (h : Sq w0 w O s tick ls m) (hm : m ≤ 65536) :
    Calls Try.prog 16 #[.pointer (some ⟨s, 0, none⟩)] w fun e w' => e = .returned (.int .i64 (cnt ls)) ∧ Sq w0 w' O s tick (ls.map clearL) m ∧ Goes w w' O O := by
  refine (sclear_any O s tick ls w h.sh (by have := h.inv.len; omega) (by have := h.inv.cnt; omega)).mono ?_
  rintro e w' ⟨rfl, h1, h2⟩
  have hg : Goes w w' O O := ⟨h2, fun _ _ => rfl⟩
  exact ⟨rfl, h.goes h1 hg h.inv.clear h.tu, hg⟩

theorem Inv.new {tick : Int} {cs : List Cl} (h : newOk cs = true) (ht : B.U64 tick) (hc : ∀ x, x ∈ cs → B.U64 x.rate ∧ B.U64 x.burst ∧ x.size ≤ 9223372036854775807) : Inv 0 (cs.map (newL tick)) := by
  unfold newOk at h
  simp only [Bool.and_eq_true, decide_eq_true_eq, List.all_eq_true] at h
  obtain ⟨h1, h2, h3⟩ := h
  refine ⟨fun l hl => ?_, by rw [List.length_map]; exact h2, ?_, fun l hl => ?_⟩
  · obtain ⟨x, hx, rfl⟩ := List.mem_map.1 hl
    obtain ⟨a, b, c⟩ := hc x hx
    exact LOk.new (h3 x hx) ht a b c
  · have : ∀ (l : List Cl), S.cnt (l.map (newL tick)) = 0 := by
      intro l
      induction l with
      | nil => rfl
      | cons a r ih => unfold S.cnt at ih ⊢; rw [List.map_cons, List.map_cons, List.sum_cons, ih]; rfl
    rw [this]; exact Nat.le_refl _
  · obtain ⟨x, hx, rfl⟩ := List.mem_map.1 hl
    exact Int.le_refl _
end Go.Proofs.Ytballojildjbhaa.S
