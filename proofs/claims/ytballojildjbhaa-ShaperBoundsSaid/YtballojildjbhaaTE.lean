/- ShaperBounds's walk; conditions: the classes and the acts lie in memory. -/
import Derived.Test.YtballojildjbhaaTD
namespace Go.Proofs.Ytballojildjbhaa.S
open Go Go.RowKit Go.Proofs.YtballojildjbhaaW.PrintWords Go.Proofs.YtballojildjbhaaW.PrintLast Go.Proofs.YtballojildjbhaaW.PrintMore Go.Proofs.Ytballojildjbhaa.F
set_option linter.unusedVariables false
set_option linter.unusedSimpArgs false

/-- The items of a row that was told. -/
theorem items_at {W : World} {B : Nat} {v : Value} {cells : List Value} {xs : List It} (h : W.ownsRow B 25 3 v xs.length cells) (hi : Its W B cells xs) :
    ∃ V cv, v = .slice V xs.length cv ∧ ∀ (j : Nat) (x : It), xs[j]? = some x → ∃ gr, V = some ⟨gr, 0, none⟩ ∧ W.cell? ⟨gr, j * 3 + 1, none⟩ = some (.int .i64 x.size) := by
  obtain ⟨hl, ⟨e, h0⟩ | ⟨g, cap, cu, e, _, hh, hle, _, hsz, ht⟩⟩ := h
  · refine ⟨none, 0, by rw [e, h0], fun j x hx => ?_⟩
    have := (List.getElem?_eq_some_iff.1 hx).1; omega
  · refine ⟨_, _, e, fun j x hx => ⟨g, rfl, ?_⟩⟩
    obtain ⟨A, n, c, _, h1, _⟩ := hi j x hx
    rw [Nat.mul_comm] at h1
    rw [blk_cell hh, ← Array.getElem?_toList]
    rw [← ht, List.getElem?_take] at h1
    split at h1
    · exact h1
    · cases h1

theorem info_u64s : (Try.prog.info? 61).map (fun i => (i.zero, i.size, i.bytes)) = some (some (.slice none 0 0), 1, 24) := by kernel_rfl
theorem info_u64_ : (Try.prog.info? 22).map (fun i => (i.zero, i.size, i.bytes)) = some (some (.int .u64 0), 1, 8) := by kernel_rfl
theorem made_nil (n : Nat) : madeCells #[Value.slice none 0 0] (n * 1) = Array.replicate n (Value.slice none 0 0) := by
  apply Array.ext
  · simp [madeCells]
  · intro i h1 h2
    simp [madeCells, Nat.mod_one]
theorem make_rows (n : Nat) (hn : n ≤ 131072) (w : World) : (Instr.makeSlice 59 (.int .i64 (n : Int)) (.int .i64 (n : Int))).run Try.prog w = .ok (.slice (some ⟨w.heap.size, 0, none⟩) n n) (w.alloc (.cells (Array.replicate n (Value.slice none 0 0)) 61)) := by
  obtain ⟨i0, hi, hz0, hz1, hz2⟩ := info_parts info_u64s
  have h := run_make (P := Try.prog) w 59 61 i0 _ Try.underlying59 hi hz0 .i64 .i64 n n (by omega) (Int.le_refl _) (by rw [hz2]; omega) (by omega)
  rw [h, ← made_nil]
  simp [hz1, Value.cells]
theorem om_new (w0 W : World) (n : Nat) (h : w0.heap.size ≤ W.heap.size) : OM w0 (W.alloc (.cells (Array.replicate n (Value.slice none 0 0)) 61)) W.heap.size (List.replicate n []) (List.replicate n (Value.slice none 0 0)) := by
  refine ⟨h, by rw [List.toArray_replicate]; exact blk_new _ _, by simp, fun c v zs hv hz => ?_, fun c d v v' _ hv hv' k hk => ?_⟩
  · rw [List.getElem?_replicate] at hv hz
    split at hv
    · cases hv
      rw [if_pos (by assumption)] at hz
      cases hz
      exact World.ownsRow_nil _ _ _ _
    · cases hv
  · rw [List.getElem?_replicate] at hv
    split at hv
    · cases hv; simp [Value.ownBlock] at hk
    · cases hv

/-- Whether all rates and bursts are small. -/
def smallB (cs : List Cl) : Bool := cs.all fun x => decide (x.rate < 1048576) && decide (x.burst < 1048576)

theorem sz_take {xs : List It} {j : Nat} {x : It} (h : xs[j]? = some x) : sz (xs.take (j + 1)) = sz (xs.take j) + x.size := by
  rw [List.take_add_one, h]
  exact sz_snoc _ _
theorem sz_take_le {xs : List It} (h : ∀ x, x ∈ xs → 0 ≤ x.size) (k : Nat) : 0 ≤ sz (xs.take k) ∧ sz (xs.take k) ≤ sz xs := by
  have h1 := sz_nonneg (xs := xs.take k) fun x hx => h x (List.mem_of_mem_take hx)
  have h2 := sz_nonneg (xs := xs.drop k) fun x hx => h x (List.mem_of_mem_drop hx)
  have e : sz (xs.take k ++ xs.drop k) = sz (xs.take k) + sz (xs.drop k) := by simp only [sz, List.map_append, List.sum_append]
  rw [List.take_append_drop] at e
  omega

theorem cls_up {W0 W : World} {A : Option Addr} {n : Nat} {cs : List Cl} (h : Cls W0 W0.heap.size A n cs) (hb : Below W0.heap.size W0 W) : Cls W W.heap.size A n cs := by
  have h1 := h.below hb
  exact ⟨h1.1, fun h0 => by obtain ⟨ad, e, hlt, hx⟩ := h1.2 h0; exact ⟨ad, e, Nat.lt_of_lt_of_le hlt hb.size, hx⟩⟩

/-- Between two acts. -/
structure MI (w0 W : World) (cs : List Cl) (O : Nat → Nat) (s : Nat) (t : Int) (ls : List Ls) (m : Nat) (v : Value) (out : List Ot) (cso : List Value) (g : Nat) (offd : List (List Int)) (vs : List Value) : Prop where
  bm : BM w0 W O s t ls m v out cso g offd vs
  b : BI cs t ls out offd
  t32 : t < 4294967296
  cnt : out.length + S.cnt ls ≤ m

theorem offS_at {ls : List Ls} {d : Nat} {l : Ls} {x : It} (h : ls[d]? = some l) (hx : x.size ≤ 2048) (h0 : 0 ≤ x.size) : offS ls d x = ((offL l x).1, ls.set d (offL l x).2) := by
  have hd := (List.getElem?_eq_some_iff.1 h).1
  unfold offS
  rw [if_neg (by omega), Int.toNat_natCast, h]
theorem offS_lo {ls : List Ls} {d : Int} {x : It} (hx : x.size < 0) : offS ls d x = (2, ls) := by
  unfold offS
  rw [if_pos (.inr (.inr (.inl hx)))]
theorem offS_code {ls : List Ls} {d : Nat} {l : Ls} {x : It} (h : ls[d]? = some l) (hx : x.size ≤ 2048) : (offS ls d x).1 = if x.size < 0 then 2 else if roomB l.xs.length l.items (sz l.xs) l.bound x.size then 0 else 110 := by
  by_cases h0 : x.size < 0
  · rw [offS_lo h0, if_pos h0]
  · rw [offS_at h hx (by omega), if_neg h0]
    unfold offL pushR
    simp only []
    rw [if_neg h0]
    split <;> rfl
theorem offS_b {cs : List Cl} {t : Int} {ls : List Ls} {out : List Ot} {offd : List (List Int)} (h : BI cs t ls out offd) {d : Nat} {l : Ls} {zs : List Int} (hl : ls[d]? = some l) (hz : offd[d]? = some zs) (x : It) (hx : x.size ≤ 2048) :
    BI cs t (offS ls d x).2 out (if (offS ls d x).1 = 0 then offd.set d (zs ++ [x.no]) else offd) ∧ cnt (offS ls d x).2 ≤ cnt ls + 1 := by
  have e := h.ord d l hl
  rw [hz] at e
  injection e with e
  subst e
  by_cases h0 : x.size < 0
  · rw [offS_lo h0]
    exact ⟨by simpa using h, Nat.le_succ _⟩
  · rw [offS_at hl hx (by omega)]
    refine ⟨h.offer hl x, ?_⟩
    have h1 := cnt_set (l' := (offL l x).2) hl
    have h2 := (push_len (xs := l.xs) (items := l.items) (bound := l.bound) (drops := l.drops) (x := x)).1
    have h3 : (offL l x).2.xs = (pushR l.xs l.items l.bound l.drops x).2.1 := rfl
    rw [h3] at h1
    show cnt (ls.set d (offL l x).2) ≤ _
    omega
theorem MI.at_d {w0 W : World} {cs : List Cl} {O : Nat → Nat} {s : Nat} {t : Int} {ls : List Ls} {m : Nat} {v : Value} {out : List Ot} {cso : List Value} {g : Nat} {offd : List (List Int)} {vs : List Value} (h : MI w0 W cs O s t ls m v out cso g offd vs)
    {d : Nat} {l : Ls} (hl : ls[d]? = some l) : ∃ A c zs, offd[d]? = some zs ∧ vs[d]? = some (.slice A zs.length c) ∧ zs.length ≤ m := by
  have hz := h.b.ord d l hl
  have hd := (List.getElem?_eq_some_iff.1 hz).1
  have hv : vs[d]? = some (vs[d]'(by rw [h.bm.om.len]; exact hd)) := List.getElem?_eq_getElem _
  have h1 := nosC_le d out
  have h2 := cnt_set (l' := { l with xs := [] }) hl
  have h3 : S.cnt (ls.set d { l with xs := [] }) + l.xs.length = S.cnt ls + 0 := h2
  have h4 := h.cnt
  have hlen : (nosC d out ++ l.xs.map (·.no)).length ≤ m := by rw [List.length_append, List.length_map]; omega
  generalize nosC d out ++ l.xs.map (·.no) = zs at *
  rcases (h.bm.om.row d _ zs hv hz).2 with ⟨e, h0⟩ | ⟨b, cap, cur, e, _⟩
  · exact ⟨none, 0, zs, hz, by rw [hv, e, h0], hlen⟩
  · exact ⟨_, _, zs, hz, by rw [hv, e], hlen⟩
theorem MI.refused {w0 W W' : World} {cs : List Cl} {O O' : Nat → Nat} {s : Nat} {t : Int} {ls : List Ls} {m : Nat} {v : Value} {out : List Ot} {cso : List Value} {g : Nat} {offd : List (List Int)} {vs : List Value} (h : MI w0 W cs O s t ls m v out cso g offd vs)
    {d : Nat} {l : Ls} (hl : ls[d]? = some l) (x : It) (hx : x.size ≤ 2048) (hne : (offS ls d x).1 ≠ 0) (hb : BM w0 W' O' s t (offS ls d x).2 (m + 1) v out cso g offd vs) :
    MI w0 W' cs O' s t (offS ls d x).2 (m + 1) v out cso g offd vs := by
  obtain ⟨_, _, zs, hz, _, _⟩ := h.at_d hl
  obtain ⟨h1, h2⟩ := offS_b h.b hl hz x hx
  rw [if_neg hne] at h1
  exact ⟨hb, h1, h.t32, by have := h.cnt; omega⟩
theorem MI.taken {w0 W W' : World} {cs : List Cl} {O O' : Nat → Nat} {s : Nat} {t : Int} {ls : List Ls} {m : Nat} {v : Value} {out : List Ot} {cso : List Value} {g : Nat} {offd : List (List Int)} {vs vs' : List Value} (h : MI w0 W cs O s t ls m v out cso g offd vs)
    {d : Nat} {l : Ls} (hl : ls[d]? = some l) {zs : List Int} (hz : offd[d]? = some zs) (x : It) (hx : x.size ≤ 2048) (he : (offS ls d x).1 = 0) (hb : BM w0 W' O' s t (offS ls d x).2 (m + 1) v out cso g (offd.set d (zs ++ [x.no])) vs') :
    MI w0 W' cs O' s t (offS ls d x).2 (m + 1) v out cso g (offd.set d (zs ++ [x.no])) vs' := by
  obtain ⟨h1, h2⟩ := offS_b h.b hl hz x hx
  rw [if_pos he] at h1
  exact ⟨hb, h1, h.t32, by have := h.cnt; omega⟩
theorem row_slice {W : World} {B T n : Nat} {v : Value} {cells : List Value} (h : W.ownsRow B T 1 v n cells) : ∃ A c, v = .slice A n c := by
  rcases h.2 with ⟨e, h0⟩ | ⟨b, cap, cur, e, _⟩
  · exact ⟨none, 0, by rw [e, h0]⟩
  · exact ⟨_, _, e⟩
/-- A number is joined to a row; the number was just built. -/
theorem wpList_append_note {w : World} {ops : Array Oper} {rest : List Oper} {o : Oper} {a : Act} {Q : Exit → Act → World → Prop} (hgd : o.guard = none) (s x : Operand)
    (ho : o.op = .call { callee := .builtin .append, args := #[s, x], argTypes := #[61, 61] }) (B : Nat) (u : Value) (zs : List Int) (b cap : Nat) (z : Int) (hs : a.eval s = u) (hx : a.eval x = .slice (some ⟨b, 0, none⟩) 1 cap)
    (h : w.ownsRow B 22 1 u zs.length (zs.map (Value.int .u64))) (hc : w.cell? ⟨b, 0, none⟩ = some (.int .u64 z)) (hn : zs.length ≤ 65536) (hbase : B ≤ w.heap.size)
    (hK : ∀ v' w', w'.ownsRow B 22 1 v' (zs.length + 1) (zs.map (Value.int .u64) ++ [.int .u64 z]) → w.grownBy w' u.ownBlock → (v'.ownBlock = u.ownBlock ∨ v'.ownBlock = some w.heap.size) → wpList Try.prog ops Q rest (a.put o.dst v') w') : wpList Try.prog ops Q (o :: rest) a w := by
  obtain ⟨i0, hi, hz0, hz1, hz2⟩ := info_parts info_u64_
  refine wpList_append_own_at _ hgd s x 61 ho B 22 i0 _ 1 8 Try.underlying61 hi hz0 hz1 hz2 rfl (by decide) u zs.length (zs.map (Value.int .u64)) hs h ⟨b, 0, none⟩ 1 cap [.int .u64 z] hx rfl ?_ (by intro u hu; simp at hu; subst hu; rfl) (by unfold maxLen; omega) (by omega) hbase ?_
  · intro j u hu
    rw [add_at, Nat.zero_add]
    match j, hu with
    | 0, hu => cases hu; exact hc
    | j + 1, hu => simp at hu
  · intro v' w' h2 h3 _ h5
    exact hK v' w' h2 h3 h5

/-- What Bounds's acts are. -/
def AcWf (l : List Ac) : Prop := ∀ a, a ∈ l → B.U64 a.tick

set_option maxRecDepth 100000 in
set_option maxHeartbeats 8000000 in
theorem bounds_any (A : Option Addr) (n c : Nat) (cs : List Cl) (A2 : Option Addr) (n2 c2 : Nat) (l : List Ac) (w : World) (hc : Cls w w.heap.size A n cs) (hcw : ClWf cs) (hl : Acts w w.heap.size A2 n2 l) (hlw : AcWf l) (hn : n ≤ maxLen) (hn2 : n2 ≤ maxLen) :
    Calls Try.prog 6 #[.slice A n c, .slice A2 n2 c2] w fun e w' => e = .returned (.bool true) ∧ Below w.heap.size w w' := by
  have HF := Aside0.mk (few_any w.heap.size A2 n2 c2 60 l w hl hn2 (by omega))
  have HC := Aside0.mk hc
  have HCW := Aside0.mk hcw
  have HA := Aside0.mk hl
  have HAW := Aside0.mk hlw
  have HN := Aside0.mk hn
  unfold maxLen at hn hn2
  clear hc hcw hl hlw
  by_cases h6 : 8 < n
  · have hb6 : decide (8 < (n : Int)) = true := decide_eq_true (by omega)
    go_enter Try.func6, Try.ntmps6
    go_wp2_with fail
    refine (works_any _).mono ?_
    rintro e w1 ⟨rfl, b⟩
    have HB := Aside0.mk b
    clear b
    go_wp2_with fail
    go_ret
    exact ⟨rfl, HB.out⟩
  have hb6 : decide (8 < (n : Int)) = false := decide_eq_false (by omega)
  cases hfw : fewB l 60
  · rw [hfw] at HF
    clear hfw
    go_enter Try.func6, Try.ntmps6
    go_wp2_with fail
    refine HF.out.mono ?_
    rintro e w1 ⟨rfl, rfl⟩
    go_wp2_with fail
    refine (works_any _).mono ?_
    rintro e w1 ⟨rfl, b⟩
    have HB := Aside0.mk b
    clear b
    go_wp2_with fail
    go_ret
    exact ⟨rfl, HB.out⟩
  rw [hfw] at HF
  obtain ⟨hl60, -⟩ := fewB_true hfw
  have hn60 : n2 ≤ 60 := by rw [HA.out.1]; exact hl60
  clear hfw hl60
  go_enter Try.func6, Try.ntmps6
  go_wp2_with fail
  refine HF.out.mono ?_
  rintro e w1 ⟨rfl, rfl⟩
  go_wp2_with fail
  go_loop [5] (fun i => ∃ k : Nat, k ≤ n ∧ i = .int .i64 k ∧ ∀ (j : Nat) x, j < k → cs[j]? = some x → x.rate < 1048576 ∧ x.burst < 1048576) (fun i => n - (intOf i).toNat)
  case atStart => exact ⟨0, Nat.zero_le _, rfl, fun j x hj => absurd hj (by omega)⟩
  case round =>
    obtain ⟨k, hk, rfl, hall⟩ := hrel
    have HALL := Aside0.mk hall
    clear hall
    by_cases hlt : k < n
    · obtain ⟨ad, rfl, hadb, hcl⟩ := HC.out.2 (by omega)
      have hkl : k < cs.length := by have := HC.out.1; omega
      obtain ⟨x0, x1, -, -⟩ := hcl k cs[k] (List.getElem?_eq_getElem hkl)
      have HX := Aside0.mk (List.getElem?_eq_getElem hkl)
      generalize cs[k] = x at *
      clear hcl
      have k0 : (0 : Int) ≤ k := by omega
      have k1 : (k : Int) < n := by omega
      by_cases hr : 1048576 ≤ x.rate
      · have hbr : decide (1048576 ≤ x.rate) = true := decide_eq_true hr
        go_wp2_with fail
        refine (works_any _).mono ?_
        rintro e w1 ⟨rfl, b⟩
        have HB := Aside0.mk b
        clear b
        go_wp2_with fail
        go_ret
        exact ⟨rfl, HB.out⟩
      · have hbr : decide (1048576 ≤ x.rate) = false := decide_eq_false hr
        by_cases hbu : 1048576 ≤ x.burst
        · have hbr2 : decide (1048576 ≤ x.burst) = true := decide_eq_true hbu
          go_wp2_with fail
          refine (works_any _).mono ?_
          rintro e w1 ⟨rfl, b⟩
          have HB := Aside0.mk b
          clear b
          go_wp2_with fail
          go_ret
          exact ⟨rfl, HB.out⟩
        · have hbr2 : decide (1048576 ≤ x.burst) = false := decide_eq_false hbu
          go_wp2_with fail
          go_round
          case rel =>
            refine ⟨k + 1, by omega, by go_num, fun j y hj hy => ?_⟩
            by_cases hjk : j < k
            · exact HALL.out j y hjk hy
            · obtain rfl : j = k := by omega
              rw [HX.out] at hy
              cases hy
              exact ⟨by omega, by omega⟩
          case measure => simp [intOf]; omega
    · obtain rfl : k = n := by omega
      go_wp2_with fail
      refine (snew_any 0 A k c cs w HC.out HN.out).mono ?_
      rintro e w1 ⟨hb1, ⟨hok, s, O, rfl, hs, hO⟩ | ⟨hbad, rfl⟩⟩
      · have HQ1 := Aside0.mk (⟨hs, hO, hb1, Inv.new hok ⟨by omega, by omega⟩ HCW.out, ⟨by omega, by omega⟩⟩ : Sq w w1 O s 0 (cs.map (newL 0)) 0)
        have HK := Aside0.mk (show 1 ≤ k from by
          have h1 := HC.out.1
          unfold newOk at hok
          simp only [Bool.and_eq_true, decide_eq_true_eq] at hok
          omega)
        have hmk := make_rows k (by omega) w1
        clear hs hO hb1 hok
        go_wp2_with fail
        have HBM := Aside0.mk (⟨HQ1.out.below (below_alloc (Below.refl _ w1) _), OV.nil _ _, om_new w w1 k HQ1.out.bel.size, fun j hj => Classical.byContradiction fun hn => by
            rcases hj with hj | rfl | ⟨d, u, hd, hu⟩
            · simp [Value.ownBlock] at hj
            · have := HQ1.out.sh.lt _ hn; omega
            · rw [List.getElem?_replicate] at hd
              split at hd
              · cases hd; simp [Value.ownBlock] at hu
              · cases hd⟩ : BM w (w1.alloc (.cells (Array.replicate k (Value.slice none 0 0)) 61)) O s 0 (cs.map (newL 0)) 0 (.slice none 0 0) [] [] w1.heap.size (List.replicate k []) (List.replicate k (Value.slice none 0 0)))
        have HBI := Aside0.mk (newBI (cs := cs) HC.out.1)
        clear hmk
        generalize w1.alloc (.cells (Array.replicate k (Value.slice none 0 0)) 61) = w2 at *
        generalize w1.heap.size = g at *
        have HMI := Aside0.mk (⟨HBM.out, HBI.out, by omega, by have := HQ1.out.inv.cnt; simpa using this⟩ : MI w w2 cs O s 0 (cs.map (newL 0)) 0 (.slice none 0 0) [] [] g (List.replicate k []) (List.replicate k (Value.slice none 0 0)))
        clear HBM HBI HQ1
        have hk8 : k ≤ 8 := by omega
        have HK8 := Aside0.mk hk8
        go_loopw [9, 10] (fun v i wr => ∃ i' : Nat, ∃ O t ls Ao co out cso offd vs, i' ≤ n2 ∧ i = .int .i64 i' ∧ v = .slice Ao out.length co ∧ MI w wr cs O s t ls i' (.slice Ao out.length co) out cso g offd vs) (fun _ i _ => n2 - (intOf i).toNat)
        case atStart => exact ⟨0, _, _, _, none, 0, [], _, _, _, Nat.zero_le _, rfl, rfl, HMI.out⟩
        case round =>
          obtain ⟨i, O, t, ls, Ao, co, out, cso, offd, vs, hi, rfl, rfl, hmi⟩ := hrel
          have HMI := Aside0.mk hmi
          clear hmi
          by_cases hil : i < n2
          · obtain ⟨ad, rfl, hadb, hacts⟩ := HA.out.2 (by omega)
            have hkl : i < l.length := by have := HA.out.1; omega
            have hat := (hacts i l[i] (List.getElem?_eq_getElem hkl)).below HMI.out.bm.sq.bel (by rw [ad_block]; exact hadb)
            have htk := HAW.out l[i] (List.getElem_mem hkl)
            generalize l[i] = a at *
            obtain ⟨A3, n3, c3, x0, x1, x2, x3, x4, x5, -⟩ := hat
            have x3' : wr.cell? ⟨(ad.add (i * 6)).block, (ad.add (i * 6)).off + 3, none⟩ = some (.int .i64 a.it.size) := x3
            have x4' : wr.cell? ⟨(ad.add (i * 6)).block, (ad.add (i * 6)).off + 4, none⟩ = some (.slice A3 n3 c3) := x4
            have i0 : (0 : Int) ≤ i := by omega
            have i1 : (i : Int) < n2 := by omega
            have HTK := Aside0.mk htk
            have HBX := Aside0.mk (blk_new wr (.cells #[.int .i64 a.do_, .int .i64 a.cls, .int .u64 a.it.no, .int .i64 a.it.size, .slice A3 n3 c3, .int .u64 a.tick] 27))
            have HMB := Aside0.mk (HMI.out.bm.below (below_alloc (Below.refl _ wr) (.cells #[.int .i64 a.do_, .int .i64 a.cls, .int .u64 a.it.no, .int .i64 a.it.size, .slice A3 n3 c3, .int .u64 a.tick] 27)))
            clear hacts x3 x4 htk
            by_cases hdo : a.do_ < 3
            · have hbd : decide (a.do_ < 3) = true := decide_eq_true hdo
              have hk1 := HK.out
              have hm0 : 0 ≤ a.cls % (k : Int) := Int.emod_nonneg _ (by omega)
              have hm1 : a.cls % (k : Int) < k := Int.emod_lt_of_pos _ (by omega)
              obtain ⟨d, hd⟩ : ∃ d : Nat, a.cls % (k : Int) = d := ⟨(a.cls % (k : Int)).toNat, by omega⟩
              have hdk : d < k := by omega
              have HP := Aside0.mk (fun W => pick_any a.cls k (by omega) (by omega) W)
              rw [hd] at HP
              have hz1 : -2049 < a.it.size.tmod 2049 := Int.lt_tmod_of_pos _ (by omega)
              have hz2' : a.it.size.tmod 2049 < 2049 := Int.tmod_lt_of_pos _ (by omega)
              have hwz : IntKind.i64.wrap (a.it.size.tmod 2049) = a.it.size.tmod 2049 := IntWalk.i64_in _ (by omega)
              obtain ⟨z, hz⟩ : ∃ z, a.it.size.tmod 2049 = z := ⟨_, rfl⟩
              rw [hz] at hz1 hz2' hwz
              have HCSK := Aside0.mk HC.out.1
              have hdl : d < ls.length := by rw [HMI.out.b.len]; have := HCSK.out; omega
              have hlk : ls[d]? = some ls[d] := List.getElem?_eq_getElem hdl
              have hdc : d < cs.length := by have := HCSK.out; omega
              have hxk : cs[d]? = some cs[d] := List.getElem?_eq_getElem hdc
              have HLC := Aside0.mk (HMI.out.b.lc d ls[d] cs[d] hlk hxk)
              have HOK := Aside0.mk (HMI.out.bm.sq.inv.ok _ (List.getElem_mem hdl))
              have HLK := Aside0.mk hlk
              have HXK := Aside0.mk hxk
              generalize ls[d] = ld at *
              generalize cs[d] = x at *
              obtain ⟨ac, rfl, hacb, hcl⟩ := HC.out.2 (by omega)
              have HCA := Aside0.mk (hcl d x HXK.out)
              have HACB := Aside0.mk hacb
              clear hcl hacb
              obtain ⟨Au, cu, zs, hzs, hvs, hzl⟩ := HMI.out.at_d HLK.out
              have HZS := Aside0.mk hzs
              have HVS := Aside0.mk hvs
              have HCODE := Aside0.mk (offS_code (x := ⟨(i : Int), z, []⟩) HLK.out (show z ≤ 2048 by omega))
              clear hzs hvs
              have HCNT := Aside0.mk HMI.out.cnt
              have HTT := Aside0.mk HMI.out.t32
              have hi64 : ld.xs.length ≤ 65536 := few_items HOK.out
              have hb63 : ld.bound ≤ 9223372036854775807 := HOK.out.q.bound
              have hszb : sz ld.xs ≤ ld.bound := HOK.out.q.size
              have hsz0 : 0 ≤ sz ld.xs := sz_nonneg HOK.out.q.pos
              clear hm0 hm1 hd hlk hxk
              go_wp2_with fail
              refine (HP.out _).mono ?_
              rintro e w4 ⟨rfl, rfl⟩
              go_wp2_with fail
              refine (queued_some O s t ls d ld _ HMB.out.sq.sh HLK.out HOK.out).mono ?_
              rintro e w5 ⟨v5, cells, rfl, hrow, hits, -, hb5⟩
              obtain ⟨V, cv, rfl, hitem⟩ := items_at hrow hits
              have HIT := Aside0.mk hitem
              have HBM5 := Aside0.mk (HMB.out.below hb5)
              have HBL5 := Aside0.mk HBM5.out.sq.bel
              clear hrow hits hb5 hitem HMB
              go_wp2_with fail
              go_loop [15, 16] (fun sm j => ∃ j' : Nat, j' ≤ ld.xs.length ∧ j = .int .i64 j' ∧ sm = .int .i64 (sz (ld.xs.take j'))) (fun _ j => ld.xs.length - (intOf j).toNat)
              case atStart => exact ⟨0, Nat.zero_le _, rfl, rfl⟩
              case round =>
                obtain ⟨j, hj, rfl, rfl⟩ := hrel
                by_cases hjl : j < ld.xs.length
                · obtain ⟨gr, rfl, y1⟩ := HIT.out j ld.xs[j] (List.getElem?_eq_getElem hjl)
                  have hnx := sz_take (List.getElem?_eq_getElem hjl)
                  obtain ⟨hp1, hp2⟩ := sz_take_le HOK.out.q.pos j
                  obtain ⟨hp3, hp4⟩ := sz_take_le HOK.out.q.pos (j + 1)
                  rw [hnx] at hp3 hp4
                  have HNX := Aside0.mk hnx
                  generalize sz (ld.xs.take j) = S at *
                  generalize ld.xs[j].size = q at *
                  have j0 : (0 : Int) ≤ j := by omega
                  have j1 : (j : Int) < ld.xs.length := by omega
                  clear hnx
                  go_wp2_with fail
                  go_round
                  case rel => exact ⟨j + 1, by omega, by go_num, by rw [HNX.out]⟩
                  case measure => simp [intOf]; omega
                · obtain rfl : j = ld.xs.length := by omega
                  have hte : sz (ld.xs.take ld.xs.length) = sz ld.xs := by rw [List.take_length]
                  rw [hte]
                  clear hte
                  generalize sz ld.xs = S at *
                  generalize ld.xs.length = L at *
                  obtain ⟨-, -, y2, y3⟩ := HCA.out.same (HBL5.out.block _ (by rw [ad_block]; exact HACB.out))
                  rw [← HLC.out.items] at y2
                  rw [← HLC.out.bound] at y3
                  have hI : IntKind.i64.wrap (ld.bound - S) = ld.bound - S := IntWalk.i64_in _ (by omega)
                  have d0 : (0 : Int) ≤ d := by omega
                  have d1 : (d : Int) < k := by omega
                  by_cases hzn : z < 0
                  · have hb1 : decide (0 ≤ z) = false := decide_eq_false (by omega)
                    have hb2 : decide (z < 0) = true := decide_eq_true hzn
                    have HCODE2 := Aside0.mk (show (offS ls (d : Int) ⟨(i : Int), z, []⟩).1 = 2 from by rw [HCODE.out]; exact if_pos hzn)
                    go_wp2_with fail
                    refine (HBM5.out.offer d i z (by omega)).mono ?_
                    rintro e w6 ⟨he, O', hb6⟩
                    rw [HCODE2.out] at he
                    subst he
                    have HMI6 := Aside0.mk (HMI.out.refused HLK.out ⟨(i : Int), z, []⟩ (show z ≤ 2048 by omega) (by rw [HCODE2.out]; decide) hb6)
                    clear hb6
                    go_wp2_with fail
                    go_roundw
                    case rel => exact ⟨i + 1, O', t, (offS ls (d : Int) ⟨(i : Int), z, []⟩).2, Ao, co, out, cso, offd, vs, by omega, by go_num, rfl, HMI6.out⟩
                    case measure => simp [intOf]; omega
                  · have hb1 : decide (0 ≤ z) = true := decide_eq_true (by omega)
                    have hb2 : decide (z < 0) = false := decide_eq_false hzn
                    have HRO := Aside0.mk (show (offS ls (d : Int) ⟨(i : Int), z, []⟩).1 = if roomB L ld.items S ld.bound z then 0 else 110 from by rw [HCODE.out]; exact if_neg hzn)
                    cases hr1 : decide ((L : Int) < ld.items)
                    · 
                      have HCODE2 := Aside0.mk (show (offS ls (d : Int) ⟨(i : Int), z, []⟩).1 = 110 from by simp only [HRO.out, roomB, hb1, hr1]; rfl)
                      go_wp2_with fail
                      refine (HBM5.out.offer d i z (by omega)).mono ?_
                      rintro e w6 ⟨he, O', hb6⟩
                      rw [HCODE2.out] at he
                      subst he
                      have HMI6 := Aside0.mk (HMI.out.refused HLK.out ⟨(i : Int), z, []⟩ (show z ≤ 2048 by omega) (by rw [HCODE2.out]; decide) hb6)
                      clear hb6
                      go_wp2_with fail
                      go_roundw
                      case rel => exact ⟨i + 1, O', t, (offS ls (d : Int) ⟨(i : Int), z, []⟩).2, Ao, co, out, cso, offd, vs, by omega, by go_num, rfl, HMI6.out⟩
                      case measure => simp [intOf]; omega
                    · cases hr2 : decide (z ≤ ld.bound - S)
                      · 
                        have HCODE2 := Aside0.mk (show (offS ls (d : Int) ⟨(i : Int), z, []⟩).1 = 110 from by simp only [HRO.out, roomB, hb1, hr1, hr2]; rfl)
                        go_wp2_with fail
                        refine (HBM5.out.offer d i z (by omega)).mono ?_
                        rintro e w6 ⟨he, O', hb6⟩
                        rw [HCODE2.out] at he
                        subst he
                        have HMI6 := Aside0.mk (HMI.out.refused HLK.out ⟨(i : Int), z, []⟩ (show z ≤ 2048 by omega) (by rw [HCODE2.out]; decide) hb6)
                        clear hb6
                        go_wp2_with fail
                        go_roundw
                        case rel => exact ⟨i + 1, O', t, (offS ls (d : Int) ⟨(i : Int), z, []⟩).2, Ao, co, out, cso, offd, vs, by omega, by go_num, rfl, HMI6.out⟩
                        case measure => simp [intOf]; omega
                      · have HCODE2 := Aside0.mk (show (offS ls (d : Int) ⟨(i : Int), z, []⟩).1 = 0 from by simp only [HRO.out, roomB, hb1, hr1, hr2]; rfl)
                        go_wp2_with fail
                        refine (HBM5.out.offer d i z (by omega)).mono ?_
                        rintro e w6 ⟨he, O', hb6⟩
                        rw [HCODE2.out] at he
                        subst he
                        have HBM7 := Aside0.mk (hb6.below (below_alloc (Below.refl _ w6) (.cells #[.int .u64 (i : Int)] 22)))
                        have hy : w6.cell? ⟨g, d, none⟩ = some (.slice Au zs.length cu) := by rw [blk_cell hb6.om.box, List.getElem?_toArray]; exact HVS.out
                        have HC7 := Aside0.mk (show (w6.alloc (.cells #[.int .u64 (i : Int)] 22)).cell? ⟨w6.heap.size, 0, none⟩ = some (.int .u64 (i : Int)) from by rw [blk_cell (blk_new _ _)]; rfl)
                        have HNE := Aside0.mk (own_ne_ (HBM7.out.om.row d _ zs HVS.out HZS.out) HBM7.out.om.box (by decide))
                        clear hb6
                        go_wp2_with (at_builtin; refine wpList_append_note rfl (.tmp 160) (.tmp 163) rfl w.heap.size (.slice Au zs.length cu) zs w6.heap.size 1 (i : Int) rfl rfl (HBM7.out.om.row d _ zs HVS.out HZS.out) HC7.out (by omega) HBM7.out.sq.bel.size ?_; intro u8 w8 hr8 hg8 hat8; have hf8 := blk_frozen ((hg8.block g (blk_lt HBM7.out.om.box) HNE.out).trans HBM7.out.om.box) d; have hc8 : w8.cell? ⟨g, d, none⟩ = some (.slice Au zs.length cu) := (by rw [blk_cell ((hg8.block g (blk_lt HBM7.out.om.box) HNE.out).trans HBM7.out.om.box), List.getElem?_toArray]; exact HVS.out); obtain ⟨A8, c8, rfl⟩ := row_slice hr8; have HR8 := Aside0.mk hr8; have HG8 := Aside0.mk hg8; have HAT8 := Aside0.mk hat8; clear hr8 hg8 hat8)
                        have HMI8 := Aside0.mk (HMI.out.taken HLK.out HZS.out ⟨(i : Int), z, []⟩ (show z ≤ 2048 by omega) HCODE2.out (HBM7.out.note HVS.out HZS.out HR8.out HG8.out HAT8.out))
                        clear hf8 hc8
                        go_roundw
                        case rel => exact ⟨i + 1, O', t, (offS ls (d : Int) ⟨(i : Int), z, []⟩).2, Ao, co, out, cso, _, _, by omega, by go_num, rfl, HMI8.out⟩
                        case measure => simp [intOf]; omega
            · have hbd : decide (a.do_ < 3) = false := decide_eq_false hdo
              obtain ⟨ht0, ht1⟩ := HTK.out
              have HTT := Aside0.mk HMI.out.t32
              have HTU := Aside0.mk HMI.out.bm.sq.tu
              have HCNT := Aside0.mk HMI.out.cnt
              go_wp2_with fail
              refine (HMB.out.release (a.tick % 4294967296) (by omega) ⟨by omega, by omega⟩).mono ?_
              rintro e w4 ⟨v1, cs1, rfl, hov1, hbm4⟩
              obtain ⟨T, hT⟩ : ∃ T, (if a.tick % 4294967296 < t then t else a.tick % 4294967296) = T := ⟨_, rfl⟩
              rw [hT] at hov1 hbm4
              have hT2 : t ≤ T ∧ T < 4294967296 := by
                have h1 := HTT.out
                rw [← hT]
                split
                · exact ⟨Int.le_refl _, h1⟩
                · exact ⟨by omega, by omega⟩
              obtain ⟨hT3, hT4⟩ := hT2
              have HBI := Aside0.mk (HMI.out.b.release HMI.out.bm.sq.inv HTU.out (by omega) hT3)
              have HST := Aside0.mk (relS_stop (ls := ls) hT3)
              have hcnt : (relS T t ls).1.length + cnt (relS T t ls).2 = cnt ls := by
                obtain ⟨_, h3, _⟩ := relS_rel T t ls
                exact h3.cnt
              have hout : out.length + (relS T t ls).1.length ≤ 65536 := by have := HCNT.out; omega
              have HC2 := Aside0.mk (show (out ++ (relS T t ls).1).length + cnt (relS T t ls).2 ≤ i + 1 by rw [List.length_append]; have := HCNT.out; omega)
              clear hcnt hT
              generalize (relS T t ls).1 = os1 at *
              generalize (relS T t ls).2 = ls1 at *
              have HOV1 := Aside0.mk hov1
              have HBM4 := Aside0.mk hbm4
              clear hov1 hbm4
              go_wp2_with (at_builtin; refine wpList_append_outv rfl (.tmp 166) (.tmp 171) rfl w (.slice Ao out.length co) v1 out os1 cso cs1 rfl rfl HBM4.out.ov HOV1.out hout HBM4.out.sq.bel.size ?_; intro v5 w5 hov5 hg5 hat5)
              have HBM5 := Aside0.mk (HBM4.out.outs hov5 hg5 hat5)
              obtain ⟨A5, c5, rfl⟩ := hov5.slice
              clear hov5 hg5 hat5 HBM4 HOV1
              refine (snext_any O s T ls1 w5 HBM5.out.sq.sh HBM5.out.sq.inv.ok (by have := HBM5.out.sq.inv.len; omega)).mono ?_
              rintro e w6 ⟨rfl, hb6⟩
              have HBM6 := Aside0.mk (HBM5.out.below hb6)
              clear hb6
              generalize nextS T ls1 = nx at *
              obtain ⟨at1, cl1, ok1⟩ := nx
              cases ok1
              · go_wp2_with fail
                go_roundw
                case rel => exact ⟨i + 1, O, T, ls1, A5, c5, out ++ os1, cso ++ cs1, offd, vs, by omega, by go_num, by rw [List.length_append], ⟨HBM6.out.up, HBI.out, hT4, HC2.out⟩⟩
                case measure => simp [intOf]; omega
              · have hlt1 : decide (at1 ≤ T) = false := decide_eq_false (by
                  rcases HST.out with h | h
                  · cases h
                  · have h2 : T < at1 := h
                    omega)
                go_wp2_with fail
                refine (tick_any O s T ls1 w6 HBM6.out.sq.sh).mono ?_
                rintro e w7 ⟨rfl, rfl⟩
                go_wp2_with fail
                go_roundw
                case rel => exact ⟨i + 1, O, T, ls1, A5, c5, out ++ os1, cso ++ cs1, offd, vs, by omega, by go_num, by rw [List.length_append], ⟨HBM6.out.up, HBI.out, hT4, HC2.out⟩⟩
                case measure => simp [intOf]; omega
          · obtain rfl : i = n2 := by omega
            have HOC := Aside0.mk (show ∀ o, o ∈ out → o.cls < k ∧ 0 ≤ o.at_ ∧ o.at_ < 4294967296 ∧ 0 ≤ o.it.size ∧ o.it.size ≤ 2048 from fun o ho => by
              obtain ⟨b1, b2, b3, b4, b5⟩ := HMI.out.b.cls o ho
              have := HC.out.1; have := HMI.out.t32
              exact ⟨by omega, b3, by omega, b4, b5⟩)
            have HXR := Aside0.mk (show ∀ x, x ∈ cs → 0 ≤ x.rate ∧ x.rate < 1048576 ∧ 0 ≤ x.burst ∧ x.burst < 1048576 from fun x hx => by
              obtain ⟨j, hj⟩ := List.mem_iff_getElem?.1 hx
              have := (List.getElem?_eq_some_iff.1 hj).1
              obtain ⟨h1, h2⟩ := HALL.out j x (by have := HC.out.1; omega) hj
              obtain ⟨⟨h3, _⟩, ⟨h4, _⟩, _⟩ := HCW.out x hx
              exact ⟨h3, h1, h4, h2⟩)
            have hol : out.length ≤ 65536 := by have := HMI.out.cnt; omega
            go_wp2_with fail
            refine (bounded_any w A k c cs (.slice Ao out.length co) out cso wr (cls_up HC.out HMI.out.bm.sq.bel) (by omega) HMI.out.bm.ov hol HXR.out HOC.out HMI.out.b.bnd).mono ?_
            rintro e w4 ⟨rfl, hb4⟩
            have HBM4 := Aside0.mk (HMI.out.bm.below hb4)
            clear hb4
            go_wp2_with fail
            refine (ordered_any w g k offd vs (.slice Ao out.length co) out cso w4 HBM4.out.om (by rw [HMI.out.b.olen]; exact HC.out.1) (by omega) HBM4.out.ov hol (fun o ho => (HOC.out o ho).1) HMI.out.b.mono (fun d hd => by
              have hdl : d < ls.length := by rw [HMI.out.b.len]; have := HC.out.1; omega
              exact ⟨_, HMI.out.b.ord d ls[d] (List.getElem?_eq_getElem hdl)⟩)).mono ?_
            rintro e w5 ⟨rfl, hb5⟩
            have HB5 := Aside0.mk (below_step HBM4.out.sq.bel hb5)
            clear hb5
            go_wp2_with fail
            refine (works_any _).mono ?_
            rintro e w6 ⟨rfl, b⟩
            have HB := Aside0.mk (below_step HB5.out b)
            clear b
            go_wp2_with fail
            go_ret
            exact ⟨rfl, HB.out⟩
      · go_wp2_with fail
        refine (works_any _).mono ?_
        rintro e w2 ⟨rfl, b⟩
        have HB := Aside0.mk (below_step hb1 b)
        clear b
        go_wp2_with fail
        go_ret
        exact ⟨rfl, HB.out⟩
end Go.Proofs.Ytballojildjbhaa.S
