/- fifo.Queue: what All answers: new copies of all items; conditions: the queue lies in memory. -/
import Derived.Test.YtballojildjbhaaQF
namespace Go.Proofs.Ytballojildjbhaa.F
open Go Go.RowKit Go.Proofs.YtballojildjbhaaW.PrintWords Go.Proofs.YtballojildjbhaaW.PrintLast Go.Proofs.YtballojildjbhaaW.PrintMore
set_option linter.unusedVariables false
set_option linter.unusedSimpArgs false

attribute [local go_sem] Oper.semAt_some

/-- The item x, as the three cells from place p on, its bytes in a block from B on. -/
def ItIn (W : World) (B : Nat) (cells : List Value) (p : Nat) (x : It) : Prop :=
  ∃ A n c, cells[3 * p]? = some (.int .u64 x.no) ∧ cells[3 * p + 1]? = some (.int .i64 x.size) ∧ cells[3 * p + 2]? = some (.slice A n c) ∧ Dat W (fun k => B ≤ k ∧ U8 W k) A n x.data
def Its (W : World) (B : Nat) (cells : List Value) (xs : List It) : Prop := ∀ i x, xs[i]? = some x → ItIn W B cells i x
/-- No two items share their bytes. -/
def Dist (cells : List Value) : Prop := ∀ (i j : Nat) (a b : Addr) (n c m d : Nat), i < j → cells[3 * i + 2]? = some (.slice (some a) n c) → cells[3 * j + 2]? = some (.slice (some b) m d) → 0 < n → 0 < m → a.block ≠ b.block

theorem ItIn.step {W W' : World} {B : Nat} {cells : List Value} {p : Nat} {x : It} (h : ItIn W B cells p x) (hk : ∀ k, U8 W k → B ≤ k → W'.heap[k]? = W.heap[k]?) : ItIn W' B cells p x := by
  obtain ⟨A, n, c, h0, h1, h2, hd⟩ := h
  exact ⟨A, n, c, h0, h1, h2, hd.step fun k _ hD => ⟨hk k hD.2 hD.1, hD.1, hD.2.same (hk k hD.2 hD.1)⟩⟩

theorem three_lt {cells : List Value} {k : Nat} (hl : cells.length = k * 3) {p j : Nat} {v : Value} (hj : j < 3) (h : cells[3 * p + j]? = some v) : p < k := by
  have := (List.getElem?_eq_some_iff.1 h).1
  omega

/-- One item more. -/
theorem Its.snoc {W0 W : World} {B k : Nat} {cells : List Value} {xs : List It} {x : It} {A : Option Addr} {n c : Nat} (h : Its W B cells (xs.take k)) (hl : cells.length = k * 3) (hx : xs[k]? = some x)
    (hB : B ≤ W0.heap.size) (hd : Dat W (fun b => W0.heap.size ≤ b ∧ U8 W b) A n x.data) : Its W B (cells ++ [.int .u64 x.no, .int .i64 x.size, .slice A n c]) (xs.take (k + 1)) := by
  intro i y hy
  rw [List.getElem?_take] at hy
  split at hy
  · rename_i hi
    by_cases hik : i < k
    · obtain ⟨A', n', c', h0, h1, h2, hd'⟩ := h i y (by rw [List.getElem?_take, if_pos hik]; exact hy)
      exact ⟨A', n', c', by rw [List.getElem?_append_left (by omega)]; exact h0, by rw [List.getElem?_append_left (by omega)]; exact h1, by rw [List.getElem?_append_left (by omega)]; exact h2, hd'⟩
    · obtain rfl : i = k := by omega
      rw [hx] at hy
      cases hy
      refine ⟨A, n, c, ?_, ?_, ?_, hd.new hB fun _ _ _ => rfl⟩
      · rw [List.getElem?_append_right (by omega), show 3 * i - cells.length = 0 by omega]; rfl
      · rw [List.getElem?_append_right (by omega), show 3 * i + 1 - cells.length = 1 by omega]; rfl
      · rw [List.getElem?_append_right (by omega), show 3 * i + 2 - cells.length = 2 by omega]; rfl
  · cases hy

theorem Dist.snoc {W0 W : World} {B k : Nat} {cells : List Value} {xs : List It} {x : It} {A : Option Addr} {n c : Nat} (hd : Dist cells) (h : Its W0 B cells (xs.take k)) (hl : cells.length = k * 3) (hk : k ≤ xs.length)
    (hx : Dat W (fun b => W0.heap.size ≤ b ∧ U8 W b) A n x.data) : Dist (cells ++ [.int .u64 x.no, .int .i64 x.size, .slice A n c]) := by
  intro i j a b m d m' d' hij hi hj hm hm'
  have hjl := (List.getElem?_eq_some_iff.1 hj).1
  rw [List.length_append, List.length_cons, List.length_cons, List.length_cons, List.length_nil] at hjl
  by_cases hjk : j < k
  · rw [List.getElem?_append_left (by omega)] at hi hj
    exact hd i j a b m d m' d' hij hi hj hm hm'
  · obtain rfl : j = k := by omega
    rw [List.getElem?_append_left (by omega)] at hi
    rw [List.getElem?_append_right (by omega), show 3 * j + 2 - cells.length = 2 by omega] at hj
    injection hj with hj
    injection hj with hA hn hc
    subst hA hn
    obtain ⟨ad, e, hD, _⟩ := hx.2 hm'
    cases e
    obtain ⟨A', n', c', h0, h1, h2, hd'⟩ := h i xs[i] (by rw [List.getElem?_take, if_pos hij]; exact List.getElem?_eq_getElem (by omega))
    rw [hi] at h2
    injection h2 with h2
    injection h2 with hA hn hc
    subst hA hn
    obtain ⟨ad, e, hD', _⟩ := hd'.2 hm
    cases e
    have := hD'.2.lt
    have := hD.1
    omega

/-- What holds between two rounds of All's loop; w: where the call began. -/
def AllV (w : World) (g : Nat) (xs : List It) (k : Nat) (v : Value) (cells : List Value) (W : World) : Prop :=
  Below w.heap.size w W ∧ Boxed W (w.heap.size + 1) 83 (.pointer (some ⟨g, 0, none⟩)) ∧
    Boxed W w.heap.size 42 v ∧ W.ownsRow w.heap.size 25 3 v k cells ∧ Its W w.heap.size cells (xs.take k) ∧ Dist cells
def AllI (w : World) (g : Nat) (xs : List It) (k : Nat) (W : World) : Prop := ∃ v cells, AllV w g xs k v cells W

theorem own_same {W W' : World} {base : Nat} {e : TypeId} {size n : Nat} {v : Value} {xs : List Value} (h : W.ownsRow base e size v n xs) (hk : ∀ k, Cel W k → W'.heap[k]? = W.heap[k]?) : W'.ownsRow base e size v n xs := by
  obtain ⟨h1, h2 | ⟨g, cap, cur, hv, hg, hh, r⟩⟩ := h
  · exact ⟨h1, .inl h2⟩
  · exact ⟨h1, .inr ⟨g, cap, cur, hv, hg, (hk g ⟨_, _, hh⟩).trans hh, r⟩⟩
theorem AllV.step {w W W' : World} {g k : Nat} {xs : List It} {v : Value} {cells : List Value} (h : AllV w g xs k v cells W) (hb : Below w.heap.size w W') (hk : ∀ k, Cel W k → W'.heap[k]? = W.heap[k]?) :
    AllV w g xs k v cells W' := by
  obtain ⟨h1, h3, h4, h5, h6, h7⟩ := h
  exact ⟨hb, (hk _ ⟨_, _, h3⟩).trans h3, (hk _ ⟨_, _, h4⟩).trans h4, own_same h5 hk, fun i x hx => (h6 i x hx).step fun k hu _ => hk k hu.cel, h7⟩
theorem AllV.below {w W W' : World} {g k : Nat} {xs : List It} {v : Value} {cells : List Value} (h : AllV w g xs k v cells W) (hb : Below W.heap.size W W') : AllV w g xs k v cells W' :=
  h.step (below_step h.1 hb) fun k hc => hb.block k hc.lt
theorem AllV.put {w W : World} {g k l : Nat} {o o' : Obj} {xs : List It} {v : Value} {cells : List Value} (h : AllV w g xs k v cells W) (hl : w.heap.size ≤ l) (ho : W.heap[l]? = some o) (hc : o.isCells = false) :
    AllV w g xs k v cells (W.putObj l o') :=
  h.step (h.1.trans ⟨rfl, rfl, rfl, by simp, fun k hk => World.putObj_heap_other (by omega)⟩) fun k hk => World.putObj_heap_other (by
    rintro rfl
    obtain ⟨cs, t, e⟩ := hk
    rw [e] at ho
    cases ho
    cases hc)
theorem AllI.below {w W W' : World} {g k : Nat} {xs : List It} (h : AllI w g xs k W) (hb : Below W.heap.size W W') : AllI w g xs k W' := by
  obtain ⟨v, cells, h⟩ := h
  exact ⟨v, cells, h.below hb⟩
theorem AllI.put {w W : World} {g k l : Nat} {o o' : Obj} {xs : List It} (h : AllI w g xs k W) (hl : w.heap.size ≤ l) (ho : W.heap[l]? = some o) (hc : o.isCells = false) : AllI w g xs k (W.putObj l o') := by
  obtain ⟨v, cells, h⟩ := h
  exact ⟨v, cells, h.put hl ho hc⟩

theorem allI_below {w W : World} {g k : Nat} {xs : List It} (h : AllI w g xs k W) : Below w.heap.size w W := by
  obtain ⟨v, cells, h⟩ := h
  exact h.1
theorem allI_box {w W : World} {g k : Nat} {xs : List It} (h : AllI w g xs k W) : W.cell? ⟨w.heap.size + 1, 0, none⟩ = some (.pointer (some ⟨g, 0, none⟩)) := by
  obtain ⟨v, cells, h⟩ := h
  exact h.2.1.cell

theorem info_item : (Try.prog.info? 25).map (fun i => (i.zero, i.size, i.bytes)) = some (some (.agg #[.int .u64 0, .int .i64 0, .slice none 0 0]), 3, 40) := by kernel_rfl

theorem grown_u8 {W1 w2 : World} {base k : Nat} {v : Value} {cells : List Value} {tmp : Obj} (hown : W1.ownsRow base 25 3 v k cells) (hg : (W1.alloc tmp).grownBy w2 v.ownBlock) :
    ∀ b, U8 W1 b → w2.heap[b]? = W1.heap[b]? := fun b hu => by
  refine (hg.block b (by have := hu.lt; simp; omega) ?_).trans (Below.heap_alloc _ _ _ hu.lt)
  rcases hown.2 with ⟨rfl, _⟩ | ⟨g, cap, cur, rfl, _, hgb, _⟩
  · simp [Value.ownBlock]
  · intro e
    obtain rfl : b = g := by simpa [Value.ownBlock] using e
    exact hu.ne_ hgb (by decide) rfl

theorem new3 (W : World) (a b c : Value) (t : TypeId) : ∀ j u, [a, b, c][j]? = some u → (W.alloc (.cells #[a, b, c] t)).cell? ((⟨W.heap.size, 0, none⟩ : Addr).add j) = some u := by
  intro j u hu
  have e : (⟨W.heap.size, 0, none⟩ : Addr).add j = ⟨W.heap.size, j, none⟩ := by unfold Addr.add; split <;> simp_all
  rw [e, blk_cell (blk_new _ _), ← Array.getElem?_toList]
  exact hu

set_option maxRecDepth 100000 in
set_option maxHeartbeats 1000000 in
theorem all_any (D : Nat → Prop) (g : Nat) (xs : List It) (items bound drops : Int) (w : World) (h : Fq w D g xs items bound drops) (hl : ∀ x, x ∈ xs → x.data.length ≤ 65536) (hlen : xs.length ≤ 65536) :
    Calls Try.prog 32 #[.pointer (some ⟨g, 0, none⟩)] w fun e w' => ∃ v cells, e = .returned v ∧ w'.ownsRow w.heap.size 25 3 v xs.length cells ∧ Its w' w.heap.size cells xs ∧ Dist cells ∧ Below w.heap.size w w' := by
  refine (callsIn_wide (n := 3)).1 ?_
  obtain ⟨i0, hi, hz0, hz1, hz2⟩ := info_parts info_item
  have HQ := Aside0.mk h
  have HL := Aside0.mk hl
  clear h hl
  refine callsIn_of_wp_marks Try.func32 rfl trivial ?_ rfl
  simp only [Try.ntmps32, List.size_toArray, List.length_cons, List.length_nil, Nat.reduceAdd, Nat.reduceSub, Array.replicate_succ, Array.replicate_zero, List.push_toArray, List.append_toArray, List.nil_append, List.cons_append]
  gi_wp2_with fail
  refine ⟨trivial, ?_⟩
  refine (all_in _ g _).mono ?_
  rintro e w' ⟨rfl, rfl⟩
  gi_wp2_with fail
  have hB0 : Below w.heap.size w ((w.alloc (.cells #[.slice none 0 0] 42)).alloc (.cells #[.pointer (some ⟨g, 0, none⟩)] 83)) := below_alloc (below_alloc (Below.refl _ _) _) _
  have hI0 : AllI w g xs 0 ((w.alloc (.cells #[.slice none 0 0] 42)).alloc (.cells #[.pointer (some ⟨g, 0, none⟩)] 83)) :=
    ⟨.slice none 0 0, [], hB0, by have := Boxed.new (w.alloc (.cells #[.slice none 0 0] 42)) 83 (.pointer (some ⟨g, 0, none⟩)); rwa [World.size_alloc] at this, (Boxed.new w _ _).alloc _, World.ownsRow_nil _ _ _ _, fun i x hx => (by simp at hx), fun i j a b n c m d _ hi => (by simp at hi)⟩
  have HI0 := Aside0.mk hI0
  clear hI0 hB0
  have hsz : ((w.alloc (.cells #[.slice none 0 0] 42)).alloc (.cells #[.pointer (some ⟨g, 0, none⟩)] 83)).heap.size = w.heap.size + 2 := by simp
  have HSZ := Aside0.mk hsz
  clear hsz
  refine rangeFunc_new (α := It × Option Addr × Nat × Nat) (by omega) (gf := 67) (lb := #[.pointer (some ⟨w.heap.size + 1, 0, none⟩)]) rfl (enters_of Try.func67 (by kernel_rfl) rfl)
    (fun x => #[.agg #[.int .u64 x.1.no, .int .i64 x.1.size, .slice x.2.1 x.2.2.1 x.2.2.2]]) (fun _ => rfl)
    (fun k x W0 W => xs[k]? = some x.1 ∧ Dat W (fun b => W0.heap.size ≤ b ∧ U8 W b) x.2.1 x.2.2.1 x.1.data) xs.length (AllI w g xs)
    (fun k W W' h hb => h.below hb) (fun k W l o o' h hl ho hc => h.put (by rw [HSZ.out] at hl; omega) ho hc) HI0.out
    (fun l J W hJI hJB hY h0 => all1_in 2 (by omega) l (w.heap.size + 1) D g xs items bound drops J HL.out hlen (fun k W h => ⟨HQ.out.below (allI_below (hJI k W h)), allI_box (hJI k W h)⟩) hJB
      (fun k x A n c W0 W hj hb hx hd => hY k (x, A, n, c) W0 W hj hb ⟨hx, hd⟩) W h0) ?round ?done
  case round =>
    rintro l k ⟨x, A, n, c⟩ W0 W r hI hb ⟨hx, hd⟩ hlw hr
    obtain ⟨v, cells, hI⟩ := hI
    have HI := Aside0.mk hI
    have HB := Aside0.mk hb
    have HX := Aside0.mk hx
    have HD := Aside0.mk hd
    have HR := Aside0.mk hr
    clear hI hb hx hd hr
    gi_wp2
    refine ⟨KeepsOthers.alloc _ _, fun o' => ?_⟩
    have hll := blk_lt HR.out
    have hI1 := ((HI.out.below HB.out).below (below_alloc (Below.refl _ _) (Obj.cells #[.int .u64 x.no, .int .i64 x.size, .slice A n c] 25))).put (o' := o') (l := l) (by rw [HSZ.out] at hlw; omega) (blk_alloc HR.out _) rfl
    have hb4 : ((W.alloc (Obj.cells #[.int .u64 x.no, .int .i64 x.size, .slice A n c] 25)).putObj l o').heap[W.heap.size]? = _ := (World.putObj_heap_other (by omega)).trans (blk_new W _)
    have hd1 : Dat ((W.alloc (Obj.cells #[.int .u64 x.no, .int .i64 x.size, .slice A n c] 25)).putObj l o') (fun b => W0.heap.size ≤ b ∧ U8 ((W.alloc (Obj.cells #[.int .u64 x.no, .int .i64 x.size, .slice A n c] 25)).putObj l o') b) A n x.data := HD.out.new (Nat.le_refl _) fun k _ hu => (World.putObj_heap_other (by
      rintro rfl
      obtain ⟨cs, e⟩ := hu
      rw [HR.out] at e
      cases e)).trans (Below.heap_alloc _ _ _ hu.lt)
    have hz : W0.heap.size ≤ W.heap.size := HB.out.size
    have hz1 : W.heap.size + 1 = ((W.alloc (Obj.cells #[.int .u64 x.no, .int .i64 x.size, .slice A n c] 25)).putObj l o').heap.size := by simp
    have HZ1 := Aside0.mk hz1
    have HD1 := Aside0.mk hd1
    clear hd1 hz1
    generalize (W.alloc (Obj.cells #[.int .u64 x.no, .int .i64 x.size, .slice A n c] 25)).putObj l o' = W1 at *
    obtain ⟨hb1, hbx, hbl, hown, hits, hdist⟩ := hI1
    obtain ⟨x0, x1, x2, y0, y1, y2⟩ := cells3 hb4
    have hcl := hown.1
    have hki : k < xs.length := (List.getElem?_eq_some_iff.1 HX.out).1
    have hc := hbl.cell
    have HB1 := Aside0.mk hb1
    have HBX := Aside0.mk hbx
    have HBL := Aside0.mk hbl
    have HIT := Aside0.mk hits
    have HDI := Aside0.mk hdist
    have HCL := Aside0.mk hcl
    have hs1 := hb1.size
    clear hb1 hbx hbl hits hdist hb4 hcl
    gi_wp2_with (gi_at_builtin; refine wpListIn_append_own _ rfl _ _ 42 rfl w.heap.size 25 i0 (.agg #[.int .u64 0, .int .i64 0, .slice none 0 0]) 3 40 Try.underlying42 hi hz0 hz1 hz2 rfl (by decide) v k cells rfl (hown.alloc _) ⟨W1.heap.size, 0, none⟩ 1 1 [.int .u64 x.no, .int .i64 x.size, .slice A n c] rfl rfl (new3 _ _ _ _ _) (by simp [Value.oneCell']) (by unfold maxLen; omega) (by omega) (by simp; omega) ?_; intro v' w2 hown' hgrow _; have hu8 := grown_u8 hown hgrow; have hbx2 := (HBX.out.alloc (Obj.cells #[.int .u64 x.no, .int .i64 x.size, .slice A n c] 25)).kept hgrow (HBX.out.not_row (by decide) hown); have HU8 := Aside0.mk hu8; have HBX2 := Aside0.mk hbx2; clear hu8 hbx2; obtain ⟨g', cap', rfl⟩ := ownsRow_succ hown'; obtain ⟨hv1, hv2, hr2, hk2, hb2⟩ := HBL.out.appended (by decide) hown hs1 (Nat.le_refl _) hown' hgrow; have hc1 := hv1.cell; have hf1 := hv1.frozen; have HV2 := Aside0.mk hv2; have HR2 := Aside0.mk hr2; have HK2 := Aside0.mk hk2; have HB2 := Aside0.mk hb2; clear hv2 hr2 hk2 hb2)
    refine ⟨HK2.out, _, _, HB1.out.trans HB2.out, (Boxed.kept HBX2.out (grownBy_setCell' _ _ _) (by simp)), HV2.out, HR2.out, ?_, Dist.snoc (W0 := W0) HDI.out HI.out.2.2.2.2.1 HCL.out (by omega) HD1.out⟩
    · have := Its.snoc (W0 := W0) (c := c) HIT.out HCL.out HX.out HI.out.1.size HD1.out
      exact fun i y hy => (this i y hy).step fun b hu hb => (heap_far (by
        rintro rfl
        exact hu.ne_ HBL.out (by decide) rfl)).trans (HU8.out b hu)
  case done =>
    rintro D2 W hD2 ⟨v, cells, hI⟩ hK
    obtain ⟨hb1, hbx, hbl, hown, hits, hdist⟩ := hI
    have hc := hbl.cell
    have HB1 := Aside0.mk hb1
    have HIT := Aside0.mk hits
    have HDI := Aside0.mk hdist
    have HOWN := Aside0.mk hown
    have HK := Aside0.mk hK
    have hD3 : w.heap.size ≤ D2 := by rw [HSZ.out] at hD2; omega
    clear hb1 hits hdist hbx hown hD2
    gi_wp2
    refine ⟨by simp, .inl ⟨_, _, rfl, run_takeDeferred HK.out, ?_⟩⟩
    refine ⟨_, results_tmp rfl _ _ _, v, cells, rfl, ownsRow_putObj HOWN.out _ HK.out rfl, fun i y hy => ?_, HDI.out, HB1.out.trans (belowK_b (w := w) (Nat.le_refl _) W D2 _ _ hD3 HK.out rfl rfl)⟩
    have := HIT.out i y (by rw [List.take_length]; exact hy)
    exact this.step fun k hu _ => World.putObj_heap_other (by
      rintro rfl
      obtain ⟨cs, e⟩ := hu
      rw [HK.out] at e
      cases e)
end Go.Proofs.Ytballojildjbhaa.F
