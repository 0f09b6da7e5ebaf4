/- ShaperBounds: what lies in memory between two acts; Pick; conditions: as they stand. -/
import Derived.Test.YtballojildjbhaaTC
import Derived.Test.YtballojildjbhaaSR
namespace Go.Proofs.Ytballojildjbhaa.S
open Go Go.RowKit Go.Proofs.YtballojildjbhaaW.PrintWords Go.Proofs.YtballojildjbhaaW.PrintLast Go.Proofs.YtballojildjbhaaW.PrintMore Go.Proofs.Ytballojildjbhaa.F
set_option linter.unusedVariables false
set_option linter.unusedSimpArgs false

theorem tmod_mod (n m : Int) (hm : 0 < m) : (n.tmod m + m).tmod m = n % m := by
  have h1 : -m < n.tmod m := Int.lt_tmod_of_pos n hm
  rw [Int.tmod_eq_emod_of_nonneg (by omega), Int.add_emod_right]
  have h2 := Int.tmod_add_mul_tdiv n m
  have h3 : n = n.tmod m + m * n.tdiv m := h2.symm
  rw [h3, Int.add_mul_emod_self_left, ← h3]

set_option maxHeartbeats 400000 in
theorem pick_any (n m : Int) (hm : 0 < m) (hm2 : m ≤ 65536) (w : World) : Calls Try.prog 19 #[.int .i64 n, .int .i64 m] w fun e w' => e = .returned (.int .i64 (n % m)) ∧ w = w' := by
  have h1 : -m < n.tmod m := Int.lt_tmod_of_pos n hm
  have h2 : n.tmod m < m := Int.tmod_lt_of_pos n hm
  have e := tmod_mod n m hm
  have h3 : 0 ≤ n % m := Int.emod_nonneg _ (by omega)
  have h4 : n % m < m := Int.emod_lt_of_pos _ hm
  have w1 : IntKind.i64.wrap (n.tmod m) = n.tmod m := IntWalk.i64_in _ (by omega)
  have w2 : IntKind.i64.wrap (n.tmod m + m) = n.tmod m + m := IntWalk.i64_in _ (by omega)
  have w3 : IntKind.i64.wrap (n % m) = n % m := IntWalk.i64_in _ (by omega)
  have hz : ¬ m = 0 := by omega
  have hd : decide (m ≤ 0) = false := decide_eq_false (by omega)
  generalize n % m = r at *
  clear h1 h2 h3 h4 hm hm2
  go_enter Try.func19, Try.ntmps19
  go_wp2
  go_ret
  exact ⟨rfl, rfl⟩

/-- What lies in memory between two acts. -/
structure BM (w0 W : World) (O : Nat → Nat) (s : Nat) (t : Int) (ls : List Ls) (m : Nat) (v : Value) (out : List Ot) (cso : List Value) (g : Nat) (offd : List (List Int)) (vs : List Value) : Prop where
  sq : Sq w0 W O s t ls m
  ov : OV w0 W v out cso
  om : OM w0 W g offd vs
  own : ∀ k, (v.ownBlock = some k ∨ k = g ∨ ∃ (c : Nat) (u : Value), vs[c]? = some u ∧ u.ownBlock = some k) → O k = 0

theorem OM.own_lt {w0 W : World} {g : Nat} {offd : List (List Int)} {vs : List Value} (h : OM w0 W g offd vs) {k : Nat} (hk : k = g ∨ ∃ (c : Nat) (u : Value), vs[c]? = some u ∧ u.ownBlock = some k) : k < W.heap.size := by
  rcases hk with rfl | ⟨c, u, hc, hu⟩
  · exact blk_lt h.box
  · have hcl : c < offd.length := by rw [← h.len]; exact (List.getElem?_eq_some_iff.1 hc).1
    rcases (h.row c u offd[c] hc (List.getElem?_eq_getElem hcl)).2 with ⟨e, _⟩ | ⟨b, cap, cur, e, _, hh, _⟩
    · rw [e] at hu; simp [Value.ownBlock] at hu
    · rw [e] at hu
      have : b = k := by simpa [Value.ownBlock] using hu
      subst this
      exact blk_lt hh
theorem BM.own_lt {w0 W : World} {O : Nat → Nat} {s : Nat} {t : Int} {ls : List Ls} {m : Nat} {v : Value} {out : List Ot} {cso : List Value} {g : Nat} {offd : List (List Int)} {vs : List Value} (h : BM w0 W O s t ls m v out cso g offd vs)
    {k : Nat} (hk : v.ownBlock = some k ∨ k = g ∨ ∃ (c : Nat) (u : Value), vs[c]? = some u ∧ u.ownBlock = some k) : k < W.heap.size := by
  rcases hk with hk | hk
  · exact h.ov.own_lt hk
  · exact h.om.own_lt hk
theorem BM.below {w0 W W' : World} {O : Nat → Nat} {s : Nat} {t : Int} {ls : List Ls} {m : Nat} {v : Value} {out : List Ot} {cso : List Value} {g : Nat} {offd : List (List Int)} {vs : List Value} (h : BM w0 W O s t ls m v out cso g offd vs)
    (hb : Below W.heap.size W W') : BM w0 W' O s t ls m v out cso g offd vs := ⟨h.sq.below hb, h.ov.below hb, h.om.below hb, h.own⟩
theorem BM.up {w0 W : World} {O : Nat → Nat} {s : Nat} {t : Int} {ls : List Ls} {m : Nat} {v : Value} {out : List Ot} {cso : List Value} {g : Nat} {offd : List (List Int)} {vs : List Value} (h : BM w0 W O s t ls m v out cso g offd vs) : BM w0 W O s t ls (m + 1) v out cso g offd vs :=
  ⟨h.sq.up, h.ov, h.om, h.own⟩
/-- A call on the shaper. -/
theorem BM.goes {w0 W W' : World} {O O' : Nat → Nat} {s : Nat} {t t' : Int} {ls ls' : List Ls} {m m' : Nat} {v : Value} {out : List Ot} {cso : List Value} {g : Nat} {offd : List (List Int)} {vs : List Value} (h : BM w0 W O s t ls m v out cso g offd vs)
    (hs : Sq w0 W' O' s t' ls' m') (hg : Goes W W' O O') : BM w0 W' O' s t' ls' m' v out cso g offd vs :=
  ⟨hs, h.ov.step fun k hk => hg.keep.block k (h.own_lt (.inl hk)) fun e => e (h.own k (.inl hk)),
   h.om.step fun k hk hc => hg.keep.block k hk fun e => e (h.own k (.inr hc)),
   fun k hk => by rw [hg.same k (h.own_lt hk)]; exact h.own k hk⟩
theorem BM.offer {w0 W : World} {O : Nat → Nat} {s : Nat} {t : Int} {ls : List Ls} {m : Nat} {v : Value} {out : List Ot} {cso : List Value} {g : Nat} {offd : List (List Int)} {vs : List Value} (h : BM w0 W O s t ls m v out cso g offd vs)
    (i no size : Int) (hm : m < 65536) :
    Calls Try.prog 11 #[.pointer (some ⟨s, 0, none⟩), .int .i64 i, .agg #[.int .u64 no, .int .i64 size, .slice none 0 0]] W fun e w' => e = .returned (.int .i64 (offS ls i ⟨no, size, []⟩).1) ∧ ∃ O', BM w0 w' O' s t (offS ls i ⟨no, size, []⟩).2 (m + 1) v out cso g offd vs := by
  refine (offer_any w0 O s t ls m i ⟨no, size, []⟩ none 0 0 W h.sq (by simp) hm dat0).mono ?_
  rintro e w' ⟨rfl, O', h1, h2⟩
  exact ⟨rfl, O', h.goes h1 h2⟩
theorem BM.release {w0 W : World} {O : Nat → Nat} {s : Nat} {t : Int} {ls : List Ls} {m : Nat} {v : Value} {out : List Ot} {cso : List Value} {g : Nat} {offd : List (List Int)} {vs : List Value} (h : BM w0 W O s t ls m v out cso g offd vs)
    (T : Int) (hm : m ≤ 65536) (hT : B.U64 T) :
    Calls Try.prog 12 #[.pointer (some ⟨s, 0, none⟩), .int .u64 T] W fun e w' => ∃ v1 cs1, e = .returned v1 ∧ OV w0 w' v1 (relS (if T < t then t else T) t ls).1 cs1 ∧
      BM w0 w' O s (if T < t then t else T) (relS (if T < t then t else T) t ls).2 m v out cso g offd vs := by
  refine (release_q w0 O s t ls m T W h.sq hm hT).mono ?_
  rintro e w' ⟨v1, cs1, rfl, h1, h2, h3⟩
  exact ⟨v1, cs1, rfl, h1.cells h.sq.bel.size, h.goes h2 h3⟩
/-- Outs are joined. -/
theorem BM.outs {w0 W W' : World} {O : Nat → Nat} {s : Nat} {t : Int} {ls : List Ls} {m : Nat} {v v' : Value} {out out' : List Ot} {cso cso' : List Value} {g : Nat} {offd : List (List Int)} {vs : List Value} (h : BM w0 W O s t ls m v out cso g offd vs)
    (hv : OV w0 W' v' out' cso') (hg : W.grownBy W' v.ownBlock) (hat : v'.ownBlock = v.ownBlock ∨ v'.ownBlock = some W.heap.size) : BM w0 W' O s t ls m v' out' cso' g offd vs := by
  have hlt := h.sq.sh.lt
  refine ⟨⟨h.sq.sh.step (fun k hk hO => ⟨hg.block k hk (fun e => hO (h.own k (.inl e.symm))), rfl⟩) fun k hk => Nat.lt_of_lt_of_le (hlt k hk) hg.size, h.sq.new, h.sq.bel.grown hg h.sq.bel.size fun k hk => own_base h.ov.row hk, h.sq.inv, h.sq.tu⟩, hv,
    h.om.step fun k hk hc => hg.block k hk ?_, ?_⟩
  · rcases hc with rfl | ⟨c, u, hc, hu⟩
    · exact own_ne_ h.ov.row h.om.box (by decide)
    · have hcl : c < offd.length := by rw [← h.om.len]; exact (List.getElem?_eq_some_iff.1 hc).1
      rcases (h.om.row c u offd[c] hc (List.getElem?_eq_getElem hcl)).2 with ⟨e, _⟩ | ⟨b, cap, cur, e, _, hh, _⟩
      · rw [e] at hu; simp [Value.ownBlock] at hu
      · rw [e] at hu
        have : b = k := by simpa [Value.ownBlock] using hu
        subst this
        exact own_ne_ h.ov.row hh (by decide)
  · rintro k (hk | hk)
    · rcases hat with e | e
      · rw [e] at hk; exact h.own k (.inl hk)
      · rw [e] at hk
        injection hk with hk
        exact Classical.byContradiction fun hn => by have := hlt k hn; omega
    · exact h.own k (.inr hk)
/-- A number is noted in row c. -/
theorem BM.note {w0 W W' : World} {O : Nat → Nat} {s : Nat} {t : Int} {ls : List Ls} {m : Nat} {v : Value} {out : List Ot} {cso : List Value} {g : Nat} {offd : List (List Int)} {vs : List Value} (h : BM w0 W O s t ls m v out cso g offd vs)
    {c : Nat} {u u' : Value} {zs : List Int} {z : Int} (hc : vs[c]? = some u) (hz : offd[c]? = some zs) (hr : W'.ownsRow w0.heap.size 22 1 u' (zs.length + 1) (zs.map (Value.int .u64) ++ [.int .u64 z])) (hg : W.grownBy W' u.ownBlock)
    (hat : u'.ownBlock = u.ownBlock ∨ u'.ownBlock = some W.heap.size) : BM w0 (W'.setCell ⟨g, c, none⟩ u') O s t ls m v out cso g (offd.set c (zs ++ [z])) (vs.set c u') := by
  have hlt := h.sq.sh.lt
  have hru := h.om.row c u zs hc hz
  have hcl := (List.getElem?_eq_some_iff.1 hc).1
  have hzl := (List.getElem?_eq_some_iff.1 hz).1
  have hub : ∀ k, u.ownBlock = some k → O k = 0 := fun k hk => h.own k (.inr (.inr ⟨c, u, hc, hk⟩))
  have hgO : O g = 0 := h.own g (.inr (.inl rfl))
  have hgu : some g ≠ u.ownBlock := own_ne_ hru h.om.box (by decide)
  have hgl := blk_lt h.om.box
  have hub' : ∀ k, u'.ownBlock = some k → O k = 0 := fun k hk => by
    rcases hat with e | e
    · rw [e] at hk; exact hub k hk
    · rw [e] at hk
      injection hk with hk
      exact Classical.byContradiction fun hn => by have := hlt k hn; omega
  have hgu' : some g ≠ u'.ownBlock := by
    rcases hat with e | e
    · rw [e]; exact hgu
    · rw [e]; intro h; injection h with h; omega
  have far : ∀ k, k < W.heap.size → some k ≠ u.ownBlock → k ≠ g → (W'.setCell ⟨g, c, none⟩ u').heap[k]? = W.heap[k]? := fun k hk h1 h2 => (heap_far h2).trans (hg.block k hk h1)
  refine ⟨⟨h.sq.sh.step (fun k hk hO => ⟨far k hk (fun e => hO (hub k e.symm)) (fun e => hO (e ▸ hgO)), rfl⟩) fun k hk => ?_, h.sq.new, ?_, h.sq.inv, h.sq.tu⟩, h.ov.step fun k hk => far k (h.ov.own_lt hk) ?_ ?_, ⟨h.om.hg, ?_, ?_, ?_, ?_⟩, ?_⟩
  · show k < (W'.setCell ⟨g, c, none⟩ u').heap.size
    have : (W'.setCell ⟨g, c, none⟩ u').heap.size = W'.heap.size := by simp [World.setCell]
    have := hlt k hk; have := hg.size; omega
  · exact below_set (h.sq.bel.grown hg h.sq.bel.size fun k hk => own_base hru hk) h.om.hg
  · rcases hru.2 with ⟨e, _⟩ | ⟨b, cap, cur, e, _, hh, _⟩
    · rw [e]; simp [Value.ownBlock]
    · intro e'
      have hb : b = k := by rw [e] at e'; simpa [Value.ownBlock] using e'.symm
      subst hb
      exact own_ne_ h.ov.row hh (by decide) hk.symm
  · rintro rfl
    exact own_ne_ h.ov.row h.om.box (by decide) hk.symm
  · have hb := (hg.block g hgl hgu).trans h.om.box
    have := blk_set hb c u'
    rw [this]
    simp
  · rw [List.length_set, List.length_set]; exact h.om.len
  · intro d y zz hd hzz
    by_cases e : c = d
    · subst e
      rw [List.getElem?_set_self hcl] at hd
      rw [List.getElem?_set_self hzl] at hzz
      cases hd
      cases hzz
      rw [List.length_append, List.length_singleton, List.map_append, List.map_singleton]
      obtain ⟨hl, h1 | ⟨b, cap, cur, e, h2, h3, h4⟩⟩ := hr
      · exact ⟨hl, .inl h1⟩
      · refine ⟨hl, .inr ⟨b, cap, cur, e, h2, (heap_far ?_).trans h3, h4⟩⟩
        rintro rfl
        exact hgu' (by rw [e]; rfl)
    · rw [List.getElem?_set_ne e] at hd hzz
      obtain ⟨hl, h1 | ⟨b, cap, cur, e', h2, h3, h4⟩⟩ := h.om.row d y zz hd hzz
      · exact ⟨hl, .inl h1⟩
      · refine ⟨hl, .inr ⟨b, cap, cur, e', h2, (far b (blk_lt h3) ?_ ?_).trans h3, h4⟩⟩
        · intro e2
          exact h.om.apart c d u y e hc hd b e2.symm (by rw [e']; rfl)
        · exact blk_ne h3 h.om.box (by decide)
  · intro a b y y' hab ha hb k hk hk'
    have old : ∀ (d : Nat) (q : Value), vs[d]? = some q → q.ownBlock = some k → k < W.heap.size := fun d q hd hq => h.om.own_lt (.inr ⟨d, q, hd, hq⟩)
    by_cases e1 : c = a
    · subst e1
      rw [List.getElem?_set_self hcl] at ha
      rw [List.getElem?_set_ne hab] at hb
      cases ha
      rcases hat with e | e
      · rw [e] at hk; exact h.om.apart c b u y' hab hc hb k hk hk'
      · rw [e] at hk
        injection hk with hk
        have := old b y' hb hk'; omega
    · rw [List.getElem?_set_ne e1] at ha
      by_cases e2 : c = b
      · subst e2
        rw [List.getElem?_set_self hcl] at hb
        cases hb
        rcases hat with e | e
        · rw [e] at hk'; exact h.om.apart a c y u hab ha hc k hk hk'
        · rw [e] at hk'
          injection hk' with hk'
          have := old a y ha hk; omega
      · rw [List.getElem?_set_ne e2] at hb
        exact h.om.apart a b y y' hab ha hb k hk hk'
  · rintro k (hk | rfl | ⟨d, y, hd, hy⟩)
    · exact h.own k (.inl hk)
    · exact hgO
    · by_cases e : c = d
      · subst e
        rw [List.getElem?_set_self hcl] at hd
        cases hd
        exact hub' k hy
      · rw [List.getElem?_set_ne e] at hd
        exact h.own k (.inr (.inr ⟨d, y, hd, hy⟩))
end Go.Proofs.Ytballojildjbhaa.S
