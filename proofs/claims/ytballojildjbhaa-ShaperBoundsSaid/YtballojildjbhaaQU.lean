/- The reference's queue (octroiref11): Push; conditions: its row lies in memory. -/
import Derived.Test.YtballojildjbhaaQT
namespace Go.Proofs.Ytballojildjbhaa.F
open Go Go.RowKit Go.Proofs.YtballojildjbhaaW.PrintWords Go.Proofs.YtballojildjbhaaW.PrintLast Go.Proofs.YtballojildjbhaaW.PrintMore
set_option linter.unusedVariables false
set_option linter.unusedSimpArgs false

/-- An item's cells; a row's cells. -/
def c3 (x : It) : List Value := [.int .u64 x.no, .int .i64 x.size, .string (strOf x.data)]
def cs3 : List It → List Value
  | [] => []
  | x :: xs => c3 x ++ cs3 xs
theorem cs3_len (xs : List It) : (cs3 xs).length = xs.length * 3 := by
  induction xs with
  | nil => rfl
  | cons x xs ih => rw [cs3, List.length_append, ih, List.length_cons]; simp [c3]; omega
theorem cs3_snoc (xs : List It) (x : It) : cs3 (xs ++ [x]) = cs3 xs ++ c3 x := by
  induction xs with
  | nil => simp [cs3]
  | cons y xs ih => rw [List.cons_append, cs3, ih, cs3, List.append_assoc]
theorem cs3_one (xs : List It) : ∀ v ∈ cs3 xs, v.oneCell' = true := by
  induction xs with
  | nil => intro v hv; simp [cs3] at hv
  | cons x xs ih =>
    intro v hv
    rw [cs3] at hv
    rcases List.mem_append.1 hv with h | h
    · simp [c3] at h
      rcases h with rfl | rfl | rfl <;> rfl
    · exact ih v h
theorem c3_one (x : It) : ∀ v ∈ c3 x, v.oneCell' = true := by
  intro v h
  simp [c3] at h
  rcases h with rfl | rfl | rfl <;> rfl
theorem c3_new (W : World) (x : It) : ∀ j u, (c3 x)[j]? = some u → (W.alloc (.cells #[.int .u64 x.no, .int .i64 x.size, .string (strOf x.data)] 57)).cell? ((⟨W.heap.size, 0, none⟩ : Addr).add j) = some u := new3 W _ _ _ _

theorem cs3_at {xs : List It} {i : Nat} {x : It} (h : xs[i]? = some x) : (cs3 xs)[i * 3]? = some (.int .u64 x.no) ∧ (cs3 xs)[i * 3 + 1]? = some (.int .i64 x.size) ∧ (cs3 xs)[i * 3 + 2]? = some (.string (strOf x.data)) := by
  induction xs generalizing i with
  | nil => simp at h
  | cons y xs ih =>
    cases i with
    | zero =>
      have : y = x := by simpa using h
      subst this
      exact ⟨rfl, rfl, rfl⟩
    | succ i =>
      obtain ⟨a, b, c⟩ := ih (i := i) (by simpa using h)
      have hl : (c3 y).length = 3 := rfl
      rw [cs3]
      exact ⟨by rw [List.getElem?_append_right (by omega), hl, show (i + 1) * 3 - 3 = i * 3 by omega]; exact a,
        by rw [List.getElem?_append_right (by omega), hl, show (i + 1) * 3 + 1 - 3 = i * 3 + 1 by omega]; exact b,
        by rw [List.getElem?_append_right (by omega), hl, show (i + 1) * 3 + 2 - 3 = i * 3 + 2 by omega]; exact c⟩

theorem ad_add_add (a : Addr) (i j : Nat) : (a.add i).add j = a.add (i + j) := by
  unfold Addr.add
  by_cases hi : i = 0 <;> by_cases hj : j = 0 <;> simp [hi, hj, Nat.add_assoc]
theorem ad_pos (a : Addr) {r : Nat} (hr : 0 < r) : a.add r = ⟨a.block, a.off + r, none⟩ := by
  show (if r = 0 then _ else _) = _
  rw [if_neg (by omega)]

theorem RRow.cells {W : World} {E : Nat → Prop} {A : Option Addr} {n : Nat} {xs : List It} (h : RRow W E A n xs) (hn : 0 < n) : ∃ ad, A = some ad ∧ ∀ j u, (cs3 xs)[j]? = some u → W.cell? (ad.add j) = some u := by
  obtain ⟨ad, rfl, _, hc⟩ := h.2 hn
  refine ⟨ad, rfl, fun j u hu => ?_⟩
  have hj := (List.getElem?_eq_some_iff.1 hu).1
  rw [cs3_len] at hj
  obtain ⟨i, r, hr, rfl⟩ : ∃ i r, r < 3 ∧ j = i * 3 + r := ⟨j / 3, j % 3, by omega, by omega⟩
  obtain ⟨r0, r1, r2⟩ := hc i (xs[i]'(by omega)) (List.getElem?_eq_getElem _)
  obtain ⟨a, b, c⟩ := cs3_at (List.getElem?_eq_getElem (show i < xs.length by omega))
  rw [← ad_add_add]
  have hr3 : r = 0 ∨ r = 1 ∨ r = 2 := by omega
  rcases hr3 with rfl | rfl | rfl
  · rw [Nat.add_zero, a] at hu; cases hu; exact r0
  · rw [b] at hu; cases hu; rw [ad_pos _ (by omega)]; exact r1
  · rw [c] at hu; cases hu; rw [ad_pos _ (by omega)]; exact r2

theorem info_ritem : (Try.prog.info? 57).map (fun i => (i.zero, i.size, i.bytes)) = some (some (.agg #[.int .u64 0, .int .i64 0, .string ⟨#[]⟩]), 3, 32) := by kernel_rfl

/-- append of a whole row to nil. -/
theorem run_append_rows (w : World) (base : Nat) (t ty : TypeId) (ht : Try.prog.underlying t = some (.slice 57)) (A : Option Addr) (n c : Nat) (cs : List Value) (hl : cs.length = n * 3) (h1 : ∀ u ∈ cs, u.oneCell' = true)
    (hc : 0 < n → ∃ ad, A = some ad ∧ ∀ j u, cs[j]? = some u → w.cell? (ad.add j) = some u) (hn : n ≤ 65536) (hbase : base ≤ w.heap.size) :
    ∃ v' w', (Builtin.append_ #[t, t] ty #[.slice none 0 0, .slice A n c]).run Try.prog w = .ok v' w' ∧ w'.ownsRow base 57 3 v' n cs ∧ w.grownBy w' none := by
  obtain ⟨i0, hi, hz0, hz1, hz2⟩ := info_parts info_ritem
  cases A with
  | none =>
    have hn0 : n = 0 := by
      rcases Nat.eq_zero_or_pos n with h | h
      · exact h
      · obtain ⟨ad, e, _⟩ := hc h; cases e
    subst hn0
    have : cs = [] := List.eq_nil_of_length_eq_zero (by simpa using hl)
    subst this
    refine ⟨.slice none 0 0, w, ?_, World.ownsRow_nil _ _ _ _, World.grownBy.refl w _⟩
    simp [Builtin.append_, run_underlying ht, sizeOf, typeInfo, hi, Builtin.lenOf, Builtin.firstCells, storeCells]
  | some ad =>
    have hcc : ∀ j u, cs[j]? = some u → w.cell? (ad.add j) = some u := by
      rcases Nat.eq_zero_or_pos n with h | h
      · subst h
        have : cs = [] := List.eq_nil_of_length_eq_zero (by simpa using hl)
        subst this
        intro j u hu; simp at hu
      · obtain ⟨ad', e, h⟩ := hc h; cases e; exact h
    obtain ⟨v', w', hrun, h2, h3, _, h5⟩ := run_append_own_at (P := Try.prog) w base t ty 57 i0 _ 3 32 ht hi hz0 hz1 hz2 rfl (by decide) (.slice none 0 0) 0 [] (World.ownsRow_nil _ _ _ _) ad n c cs hl hcc h1 (by unfold maxLen; omega) (by omega) hbase
    exact ⟨v', w', hrun, by simpa using h2, by simpa [Value.ownBlock] using h3⟩

theorem wpList_append_rows {w : World} {ops : Array Oper} {rest : List Oper} {o : Oper} {a : Act} {Q : Exit → Act → World → Prop} (hgd : o.guard = none) (s x : Operand) (t : TypeId)
    (ho : o.op = .call { callee := .builtin .append, args := #[s, x], argTypes := #[t, t] }) (base : Nat) (ht : Try.prog.underlying t = some (.slice 57)) (A : Option Addr) (n c : Nat) (cs : List Value)
    (hs : a.eval s = .slice none 0 0) (hx : a.eval x = .slice A n c) (hl : cs.length = n * 3) (h1 : ∀ u ∈ cs, u.oneCell' = true)
    (hc : 0 < n → ∃ ad, A = some ad ∧ ∀ j u, cs[j]? = some u → w.cell? (ad.add j) = some u) (hn : n ≤ 65536) (hbase : base ≤ w.heap.size)
    (h : ∀ v' w', w'.ownsRow base 57 3 v' n cs → w.grownBy w' none → wpList Try.prog ops Q rest (a.put o.dst v') w') :
    wpList Try.prog ops Q (o :: rest) a w := by
  obtain ⟨v', w', hrun, h2, h3⟩ := run_append_rows w base t o.type ht A n c cs hl h1 hc hn hbase
  refine wpList_plain hgd fun K hK => ?_
  unfold Oper.wp
  simp [execOp, ho, resolve, invoke, builtin, hs, hx, hrun, Result.andThen]
  exact hK _ _ (h v' w' h2 h3)

theorem rrow_of_own {W : World} {base n : Nat} {v : Value} {xs : List It} (h : W.ownsRow base 57 3 v n (cs3 xs)) : ∃ A c, v = .slice A n c ∧ n ≤ c ∧ RRow W (fun k => base ≤ k ∧ v.ownBlock = some k) A n xs := by
  obtain ⟨hl, ⟨rfl, rfl⟩ | ⟨g, cap, cu, rfl, hb, hh, hle, _, hsz, ht⟩⟩ := h
  · rw [cs3_len] at hl
    exact ⟨none, 0, rfl, Nat.le_refl _, by omega, fun h => by omega⟩
  · rw [cs3_len] at hl
    refine ⟨_, cap, rfl, hle, by omega, fun _ => ⟨_, rfl, ⟨hb, rfl⟩, fun i x hx => ?_⟩⟩
    obtain ⟨a, b, c⟩ := cs3_at hx
    have cell : ∀ j u, (cs3 xs)[j]? = some u → W.cell? ⟨g, j, none⟩ = some u := by
      intro j u hu
      rw [blk_cell hh j, ← Array.getElem?_toList]
      rw [← ht, List.getElem?_take] at hu
      split at hu
      · exact hu
      · cases hu
    have e : (⟨g, 0, none⟩ : Addr).add (i * 3) = ⟨g, i * 3, none⟩ := by rw [add_at, Nat.zero_add]
    rw [e]
    exact ⟨cell _ _ a, cell _ _ b, cell _ _ c⟩

theorem own_ne_ {W : World} {base k g : Nat} {e : TypeId} {size : Nat} {v : Value} {cells : List Value} {cs : Array Value} {t : TypeId} (h : W.ownsRow base e size v k cells) (hg : W.heap[g]? = some (.cells cs t (0, 0))) (hne : e ≠ t) : some g ≠ v.ownBlock := by
  rcases h.2 with ⟨rfl, _⟩ | ⟨g', cap, cur, rfl, _, hgb, _⟩
  · simp [Value.ownBlock]
  · intro e
    obtain rfl : g = g' := by simpa [Value.ownBlock] using e
    exact blk_ne hgb hg hne rfl

theorem own_base {W : World} {base k : Nat} {e : TypeId} {size n : Nat} {v : Value} {cells : List Value} (h : W.ownsRow base e size v n cells) (hk : v.ownBlock = some k) : base ≤ k := by
  rcases h.2 with ⟨rfl, _⟩ | ⟨g', cap, cur, rfl, hb, _⟩
  · simp [Value.ownBlock] at hk
  · have : g' = k := by simpa [Value.ownBlock] using hk
    omega

set_option maxHeartbeats 1000000 in
theorem rpush_arg (A : Option Addr) (n c : Nat) (x : It) (items bound drops : Int) (w : World) (hs : x.size < 0) :
    Calls Try.prog 61 #[rqV A n c items bound drops, .agg #[.int .u64 x.no, .int .i64 x.size, .string (strOf x.data)]] w fun e w' => e = .returned (.tuple #[rqV A n c items bound drops, .int .i64 2]) ∧ Below w.heap.size w w' := by
  have hd : decide (x.size < 0) = true := decide_eq_true hs
  clear hs
  go_enter Try.func61, Try.ntmps61
  go_wp2
  exact bodyPost_ret (v := .tuple #[rqV A n c items bound drops, .int .i64 2]) (by simp [results, Try.results61, go_sem]) rfl ⟨rfl, below_alloc (below_alloc (below_alloc (Below.refl _ _) _) _) _⟩

set_option maxHeartbeats 1000000 in
theorem rpush_drop (E : Nat → Prop) (A : Option Addr) (n c : Nat) (x : It) (xs : List It) (items bound drops : Int) (w : World) (h : RRow w E A n xs) (ho : Ok xs items bound drops) (hs : 0 ≤ x.size)
    (hr : roomB xs.length items (sz xs) bound x.size = false) (hdr : drops < 18446744073709551615) :
    Calls Try.prog 61 #[rqV A n c items bound drops, .agg #[.int .u64 x.no, .int .i64 x.size, .string (strOf x.data)]] w fun e w' => e = .returned (.tuple #[rqV A n c items bound (drops + 1), .int .i64 110]) ∧ Below w.heap.size w w' := by
  have hd : decide (x.size < 0) = false := decide_eq_false (by omega)
  have HR := Aside0.mk (fun W (hb : Below w.heap.size w W) => rroom_any E A n c xs items bound drops x.size W (h.below hb) ho)
  rw [hr] at HR
  have hdr0 := ho.drops.1
  have wd : IntKind.u64.wrap (drops + 1) = drops + 1 := by simp only [IntKind.wrap_u64]; omega
  clear hs hr h ho
  go_enter Try.func61, Try.ntmps61
  go_wp2_with fail
  refine (HR.out _ (below_alloc (below_alloc (below_alloc (Below.refl _ _) _) _) _)).mono ?_
  rintro e w1 ⟨rfl, hb⟩
  have b0 := blk_below (blk_alloc (blk_alloc (blk_new w (.cells #[.slice A n c, .int .i64 items, .int .i64 bound, .int .u64 drops] 104)) (.cells #[.int .u64 x.no, .int .i64 x.size, .string (strOf x.data)] 57)) (.cells #[.slice none 0 0, .int .i64 0, .int .i64 0, .int .u64 0] 104)) hb
  have b2 := blk_below (blk_new ((w.alloc (.cells #[.slice A n c, .int .i64 items, .int .i64 bound, .int .u64 drops] 104)).alloc (.cells #[.int .u64 x.no, .int .i64 x.size, .string (strOf x.data)] 57)) (.cells #[.slice none 0 0, .int .i64 0, .int .i64 0, .int .u64 0] 104)) hb
  rw [World.size_alloc, World.size_alloc] at b2
  obtain ⟨⟨c0, c1, c2, c4⟩, f0, f1, f2, f4⟩ := cells4 b0
  obtain ⟨⟨d0, d1, d2, d4⟩, g0, g1, g2, g4⟩ := cells4 b2
  have B2 := Aside0.mk b2
  have HB := Aside0.mk hb
  have hz := hb.size
  rw [World.size_alloc, World.size_alloc, World.size_alloc] at hz
  clear b0 b2 hb
  go_wp2
  have b3 := set4 (a' := .slice A n c) (b' := .int .i64 items) (c' := .int .i64 bound) (d' := .int .u64 (drops + 1)) (blk_far B2.out (p := ⟨w.heap.size, 3, none⟩) (by show w.heap.size + 1 + 1 ≠ w.heap.size; omega) (.int .u64 (drops + 1)))
  obtain ⟨⟨d0, d1, d2, d4⟩, _⟩ := cells4 b3
  refine bodyPost_ret (v := .tuple #[rqV A n c items bound (drops + 1), .int .i64 110]) (by simp [results, Try.results61, go_sem, d0, d1, d2, d4]) rfl ⟨rfl, ?_⟩
  have := below_step (below_alloc (below_alloc (below_alloc (Below.refl _ w) _) _) _) HB.out
  exact below_set (below_set (below_set (below_set (below_set this (Nat.le_refl _)) (by omega)) (by omega)) (by omega)) (by omega)

set_option maxHeartbeats 1000000 in
theorem rpush_room (E : Nat → Prop) (A : Option Addr) (n c : Nat) (x : It) (xs : List It) (items bound drops : Int) (w : World) (h : RRow w E A n xs) (ho : Ok xs items bound drops) (hs : 0 ≤ x.size)
    (hr : roomB xs.length items (sz xs) bound x.size = true) :
    Calls Try.prog 61 #[rqV A n c items bound drops, .agg #[.int .u64 x.no, .int .i64 x.size, .string (strOf x.data)]] w fun e w' => ∃ A' n' c', e = .returned (.tuple #[rqV A' n' c' items bound drops, .int .i64 0]) ∧
      RRow w' (fun k => w.heap.size ≤ k) A' n' (xs ++ [x]) ∧ n' ≤ c' ∧ Below w.heap.size w w' := by
  have hd : decide (x.size < 0) = false := decide_eq_false (by omega)
  have HR := Aside0.mk (fun W (hb : Below w.heap.size w W) => rroom_any E A n c xs items bound drops x.size W (h.below hb) ho)
  rw [hr] at HR
  obtain ⟨ti, hti, hz0, hz1, hz2⟩ := info_parts info_ritem
  have hn : n ≤ 65536 := by have := ho.many; have := ho.items; have := h.1; omega
  have HX := Aside0.mk (fun W (hb : Below w.heap.size w W) => h.below hb)
  have HN := Aside0.mk h.1
  clear hs hr h ho
  go_enter Try.func61, Try.ntmps61
  go_wp2_with fail
  refine (HR.out _ (below_alloc (below_alloc (below_alloc (Below.refl _ _) _) _) _)).mono ?_
  rintro e w1 ⟨rfl, hb⟩
  have b0 := blk_below (blk_alloc (blk_alloc (blk_new w (.cells #[.slice A n c, .int .i64 items, .int .i64 bound, .int .u64 drops] 104)) (.cells #[.int .u64 x.no, .int .i64 x.size, .string (strOf x.data)] 57)) (.cells #[.slice none 0 0, .int .i64 0, .int .i64 0, .int .u64 0] 104)) hb
  have b1 := blk_below (blk_alloc (blk_new (w.alloc (.cells #[.slice A n c, .int .i64 items, .int .i64 bound, .int .u64 drops] 104)) (.cells #[.int .u64 x.no, .int .i64 x.size, .string (strOf x.data)] 57)) (.cells #[.slice none 0 0, .int .i64 0, .int .i64 0, .int .u64 0] 104)) hb
  have b2 := blk_below (blk_new ((w.alloc (.cells #[.slice A n c, .int .i64 items, .int .i64 bound, .int .u64 drops] 104)).alloc (.cells #[.int .u64 x.no, .int .i64 x.size, .string (strOf x.data)] 57)) (.cells #[.slice none 0 0, .int .i64 0, .int .i64 0, .int .u64 0] 104)) hb
  rw [World.size_alloc, World.size_alloc] at b2
  rw [World.size_alloc] at b1
  have hbb := below_step (below_alloc (below_alloc (below_alloc (Below.refl _ w) _) _) _) hb
  have hz := hb.size
  rw [World.size_alloc, World.size_alloc, World.size_alloc] at hz
  have B0 := Aside0.mk b0
  have B1 := Aside0.mk b1
  have B2 := Aside0.mk b2
  have HB := Aside0.mk hbb
  obtain ⟨⟨c0, c1, c2, c4⟩, f0, f1, f2, f4⟩ := cells4 b0
  clear b0 b1 b2 hb hbb
  go_wp2_with (first
    | (at_builtin; refine wpList_append_rows rfl (.tmp 21) (.tmp 23) 102 rfl w.heap.size Try.underlying102 A n c (cs3 xs) rfl rfl (by rw [cs3_len, HN.out]) (cs3_one xs) (fun hp => (HX.out _ HB.out).cells hp) hn HB.out.size ?_; intro v2 w2 hown2 hg2
       obtain ⟨i0, i1, i2, j0, j1, j2⟩ := cells3 (blk_grown B1.out hg2 (by simp)))
    | (at_builtin; refine wpList_append_own _ rfl (.tmp 25) (.tmp 27) 102 rfl w.heap.size 57 ti _ 3 32 Try.underlying102 hti hz0 hz1 hz2 rfl (by decide) v2 n (cs3 xs) rfl (hown2.alloc _) ⟨w2.heap.size, 0, none⟩ 1 1 (c3 x) rfl rfl (c3_new _ _) (c3_one _) (by unfold maxLen; omega) (by omega) (by rw [World.size_alloc]; exact Nat.le_succ_of_le (Nat.le_trans HB.out.size hg2.size)) ?_; intro v3 w3 hown3 hg3 hnil3
       obtain ⟨g3, cap3, rfl⟩ := ownsRow_succ hown3
       have b0 := blk_grown (blk_alloc (blk_grown B0.out hg2 (by simp)) (.cells #[.int .u64 x.no, .int .i64 x.size, .string (strOf x.data)] 57)) hg3 (own_ne_ hown2 (blk_grown B0.out hg2 (by simp)) (by decide))
       obtain ⟨⟨k0, k1, k2, k3⟩, l0, l1, l2, l3⟩ := cells4 b0
       have b2 := blk_grown (blk_alloc (blk_grown B2.out hg2 (by simp)) (.cells #[.int .u64 x.no, .int .i64 x.size, .string (strOf x.data)] 57)) hg3 (own_ne_ hown2 (blk_grown B2.out hg2 (by simp)) (by decide))
       obtain ⟨⟨p0, p1, p2, p3⟩, q0, q1, q2, q3⟩ := cells4 b2
       have B3 := Aside0.mk b0
       have B5 := Aside0.mk b2
       have hs3 : w.heap.size + 1 + 1 < w3.heap.size := blk_lt b2
       clear b0 b2))
  have hne0 : w.heap.size + 1 + 1 ≠ w.heap.size := by omega
  have b7 := set4 (a' := .slice (some ⟨g3, 0, none⟩) (n + 1) cap3) (b' := .int .i64 items) (c' := .int .i64 bound) (d' := .int .u64 drops) (blk_far B5.out (p := ⟨w.heap.size, 0, none⟩) hne0 (.slice (some ⟨g3, 0, none⟩) (n + 1) cap3))
  obtain ⟨⟨p0, p1, p2, p3⟩, _⟩ := cells4 b7
  rw [← cs3_snoc] at hown3
  have o0 := own_ne_ hown3 B3.out (by decide)
  have o2 := own_ne_ hown3 B5.out (by decide)
  obtain ⟨A5, c5, e5, hc5, hr5⟩ := rrow_of_own hown3
  cases e5
  refine bodyPost_ret (v := .tuple #[rqV (some ⟨g3, 0, none⟩) (n + 1) cap3 items bound drops, .int .i64 0]) (by simp [results, Try.results61, go_sem, p0, p1, p2, p3]) rfl ⟨_, _, _, rfl, ?_, hc5, ?_⟩
  · refine hr5.step fun k _ hE => ⟨?_, hE.1⟩
    have h0 : k ≠ w.heap.size := fun e => o0 (by rw [← e]; exact hE.2.symm)
    have h2 : k ≠ w.heap.size + 1 + 1 := fun e => o2 (by rw [← e]; exact hE.2.symm)
    rw [heap_far h2, heap_far h2, heap_far h2, heap_far h2, heap_far h0]
  · have hb2 : Below w.heap.size w w2 := HB.out.grown hg2 HB.out.size fun k e => by cases e
    have hb3 : Below w.heap.size w w3 := (below_alloc hb2 (.cells #[.int .u64 x.no, .int .i64 x.size, .string (strOf x.data)] 57)).grown hg3 (by rw [World.size_alloc]; exact Nat.le_succ_of_le hb2.size) fun k e => own_base hown2 e
    exact below_set (below_set (below_set (below_set (below_set hb3 (Nat.le_refl _)) (by omega)) (by omega)) (by omega)) (by omega)

/-- Push, whatever it answers. -/
theorem rpush_any (E : Nat → Prop) (A : Option Addr) (n c : Nat) (x : It) (xs : List It) (items bound drops : Int) (w : World) (h : RRow w E A n xs) (hnc : n ≤ c) (ho : Ok xs items bound drops) (hdr : drops < 18446744073709551615) :
    Calls Try.prog 61 #[rqV A n c items bound drops, .agg #[.int .u64 x.no, .int .i64 x.size, .string (strOf x.data)]] w fun e w' => ∃ A' n' c', e = .returned (.tuple #[rqV A' n' c' items bound (pushR xs items bound drops x).2.2, .int .i64 (pushR xs items bound drops x).1]) ∧
      RRow w' (fun k => E k ∨ w.heap.size ≤ k) A' n' (pushR xs items bound drops x).2.1 ∧ n' ≤ c' ∧ Below w.heap.size w w' := by
  unfold pushR
  by_cases h1 : x.size < 0
  · rw [if_pos h1]
    refine (rpush_arg A n c x items bound drops w h1).mono ?_
    rintro e w' ⟨rfl, hb⟩
    exact ⟨A, n, c, rfl, h.step fun k hk hE => ⟨hb.block k hk, .inl hE⟩, hnc, hb⟩
  · rw [if_neg h1]
    cases h2 : roomB xs.length items (sz xs) bound x.size
    · rw [if_neg (by simp)]
      refine (rpush_drop E A n c x xs items bound drops w h ho (by omega) h2 hdr).mono ?_
      rintro e w' ⟨rfl, hb⟩
      exact ⟨A, n, c, rfl, h.step fun k hk hE => ⟨hb.block k hk, .inl hE⟩, hnc, hb⟩
    · rw [if_pos rfl]
      refine (rpush_room E A n c x xs items bound drops w h ho (by omega) h2).mono ?_
      rintro e w' ⟨A', n', c', rfl, hr, hc, hb⟩
      exact ⟨A', n', c', rfl, hr.step fun k _ hE => ⟨rfl, .inr hE⟩, hc, hb⟩
end Go.Proofs.Ytballojildjbhaa.F
