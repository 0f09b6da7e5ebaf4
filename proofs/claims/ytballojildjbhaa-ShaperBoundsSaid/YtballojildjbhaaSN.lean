/- The acts of octroilaw12 in memory; few; ShaperNone; conditions: the acts lie in memory. -/
import Derived.Test.YtballojildjbhaaSM
namespace Go.Proofs.Ytballojildjbhaa.S
open Go Go.RowKit Go.Proofs.YtballojildjbhaaW.PrintWords Go.Proofs.YtballojildjbhaaW.PrintLast Go.Proofs.YtballojildjbhaaW.PrintMore Go.Proofs.Ytballojildjbhaa.F
set_option linter.unusedVariables false
set_option linter.unusedSimpArgs false

/-- An act, as it is told. -/
structure Ac where
  do_ : Int
  cls : Int
  it : It
  tick : Int

/-- An act in memory, from address ad on; its bytes below B. -/
def AcAt (W : World) (B : Nat) (ad : Addr) (a : Ac) : Prop :=
  ∃ A n c, W.cell? ad = some (.int .i64 a.do_) ∧ W.cell? ⟨ad.block, ad.off + 1, none⟩ = some (.int .i64 a.cls) ∧ W.cell? ⟨ad.block, ad.off + 2, none⟩ = some (.int .u64 a.it.no) ∧ W.cell? ⟨ad.block, ad.off + 2 + 1, none⟩ = some (.int .i64 a.it.size) ∧
    W.cell? ⟨ad.block, ad.off + 2 + 2, none⟩ = some (.slice A n c) ∧ W.cell? ⟨ad.block, ad.off + 5, none⟩ = some (.int .u64 a.tick) ∧ Dat W (fun k => k < B) A n a.it.data
def Acts (W : World) (B : Nat) (A : Option Addr) (n : Nat) (l : List Ac) : Prop :=
  n = l.length ∧ (0 < n → ∃ ad : Addr, A = some ad ∧ ad.block < B ∧ ∀ i a, l[i]? = some a → AcAt W B (ad.add (i * 6)) a)
theorem AcAt.below {W W' : World} {B : Nat} {ad : Addr} {a : Ac} (h : AcAt W B ad a) (hb : Below B W W') (hB : ad.block < B) : AcAt W' B ad a := by
  obtain ⟨A, n, c, h0, h1, h2, h3, h4, h5, hd⟩ := h
  have key : ∀ p : Addr, p.block = ad.block → W'.cell? p = W.cell? p := fun p hp => World.cell?_of_block (by rw [hp]; exact hb.block _ hB)
  exact ⟨A, n, c, (key _ rfl).trans h0, (key ⟨_, _, none⟩ rfl).trans h1, (key ⟨_, _, none⟩ rfl).trans h2, (key ⟨_, _, none⟩ rfl).trans h3, (key ⟨_, _, none⟩ rfl).trans h4, (key ⟨_, _, none⟩ rfl).trans h5, hd.step fun k hk hD => ⟨hb.block k hD, hD⟩⟩
theorem Acts.below {W W' : World} {B : Nat} {A : Option Addr} {n : Nat} {l : List Ac} (h : Acts W B A n l) (hb : Below B W W') : Acts W' B A n l := by
  refine ⟨h.1, fun hn => ?_⟩
  obtain ⟨ad, e, hlt, hc⟩ := h.2 hn
  exact ⟨ad, e, hlt, fun i a ha => (hc i a ha).below hb (by rw [ad_block]; exact hlt)⟩

/-- few's answer. -/
def fewB (l : List Ac) (m : Nat) : Bool := (l.take (m + 1)).all (fun a => decide (a.it.data.length ≤ 20)) && decide (l.length ≤ m)
theorem fewB_true {l : List Ac} {m : Nat} (h : fewB l m = true) : l.length ≤ m ∧ ∀ a, a ∈ l → a.it.data.length ≤ 20 := by
  simp only [fewB, Bool.and_eq_true, List.all_eq_true, decide_eq_true_eq] at h
  refine ⟨h.2, fun a ha => h.1 a ?_⟩
  rw [List.take_of_length_le (by omega)]
  exact ha
theorem all_take {l : List Ac} {k : Nat} (h : ∀ (j : Nat) (a : Ac), j < k → l[j]? = some a → a.it.data.length ≤ 20) : (l.take k).all (fun a => decide (a.it.data.length ≤ 20)) = true := by
  simp only [List.all_eq_true, decide_eq_true_eq]
  intro a ha
  obtain ⟨j, hj⟩ := List.mem_iff_getElem?.1 ha
  rw [List.getElem?_take] at hj
  split at hj
  · exact h j a (by assumption) hj
  · cases hj

set_option maxHeartbeats 400000 in
theorem few_any (B : Nat) (A : Option Addr) (n c m : Nat) (l : List Ac) (w : World) (h : Acts w B A n l) (hn : n ≤ maxLen) (hm : m ≤ 65536) :
    Calls Try.prog 8 #[.slice A n c, .int .i64 m] w fun e w' => e = .returned (.bool (fewB l m)) ∧ w = w' := by
  unfold maxLen at hn
  have HN := Aside0.mk h.1
  go_enter Try.func8, Try.ntmps8
  go_wp2
  go_loop [5] (fun i => ∃ k : Nat, i = .int .i64 k ∧ k ≤ n ∧ k ≤ m + 1 ∧ ∀ j a, j < k → l[j]? = some a → a.it.data.length ≤ 20) (fun i => (m + 1) - (intOf i).toNat)
  case atStart => exact ⟨0, rfl, Nat.zero_le _, by omega, fun j a hj => by omega⟩
  case round =>
    obtain ⟨k, rfl, hk, hkm, hall⟩ := hrel
    have HALL := Aside0.mk hall
    have HA := Aside0.mk h
    clear hall h
    by_cases hlt : k < n
    · have hb1 : decide ((k : Int) < n) = true := decide_eq_true (by omega)
      by_cases h61 : k ≤ m
      · have hb2 : decide ((k : Int) ≤ m) = true := decide_eq_true (by omega)
        obtain ⟨ad, rfl, hadb, hacts⟩ := HA.out.2 (by omega)
        have hkl : k < l.length := by have := HA.out.1; omega
        obtain ⟨A', n', c', x0, x1, x2, x3, x4, x5, hd⟩ := hacts k l[k] (List.getElem?_eq_getElem hkl)
        have HD := Aside0.mk hd
        clear hacts hd
        by_cases h60 : 20 < n'
        · go_wp2
          go_ret
          refine ⟨congrArg (fun b => Ending.returned (.bool b)) ?_, rfl⟩
          have hdn := HD.out.1
          symm
          rw [fewB, Bool.and_eq_false_iff]
          left
          rw [List.all_eq_false]
          refine ⟨l[k], ?_, by simp; omega⟩
          rw [List.mem_iff_getElem?]
          exact ⟨k, by rw [List.getElem?_take, if_pos (by omega)]; exact List.getElem?_eq_getElem hkl⟩
        · go_wp2
          go_round
          case rel =>
            refine ⟨k + 1, by go_num, by omega, by omega, fun j a hj ha => ?_⟩
            by_cases hjk : j < k
            · exact HALL.out j a hjk ha
            · obtain rfl : j = k := by omega
              rw [List.getElem?_eq_getElem hkl] at ha
              cases ha
              have := HD.out.1
              omega
          case measure => simp [intOf]; omega
      · obtain rfl : k = m + 1 := by omega
        have hl : decide ((n : Int) ≤ m) = false := decide_eq_false (by omega)
        have hb2 : decide (((m + 1 : Nat) : Int) ≤ m) = false := decide_eq_false (by omega)
        go_wp2
        go_ret
        refine ⟨congrArg (fun b => Ending.returned (.bool b)) ?_, rfl⟩
        symm
        have := HN.out
        rw [fewB, show decide (n ≤ m) = false from decide_eq_false (by omega), Bool.and_eq_false_iff]
        right
        simp; omega
    · obtain rfl : k = n := by omega
      go_wp2
      go_ret
      refine ⟨congrArg (fun b => Ending.returned (.bool b)) ?_, rfl⟩
      have hn := HN.out
      rw [fewB]
      have := all_take (l := l) (k := k) HALL.out
      rw [List.take_of_length_le (by omega)] at this
      rw [List.take_of_length_le (by omega), this]
      rw [Bool.true_and]
      exact decide_eq_decide.2 (by omega)

theorem eq_stat0 (w : World) : (binOp .eql 40 (.agg #[.int .u64 0, .int .u64 0, .int .u64 0, .int .u64 0]) (.agg #[.int .u64 0, .int .u64 0, .int .u64 0, .int .u64 0])).run Try.prog w = .ok (.bool true) w := by kernel_rfl

set_option maxRecDepth 100000 in
set_option maxHeartbeats 2000000 in
theorem none_any (d cl no size t : Int) (A : Option Addr) (n c : Nat) (data : List UInt8) (w : World) (hd : Dat w (fun k => k < w.heap.size) A n data) :
    Calls Try.prog 3 #[.agg #[.int .i64 d, .int .i64 cl, .int .u64 no, .int .i64 size, .slice A n c, .int .u64 t]] w fun e w' => e = .returned (.bool true) ∧ Below w.heap.size w w' := by
  have HBL := Aside0.mk (below_alloc (Below.refl _ w) (.cells #[.int .i64 d, .int .i64 cl, .int .u64 no, .int .i64 size, .slice A n c, .int .u64 t] 27))
  have HB2 := Aside0.mk (below_alloc HBL.out (.cells #[.int .i64 d, .int .i64 cl, .int .u64 no, .int .i64 size, .slice A n c, .int .u64 t] 27))
  have b2 := blk_new (w.alloc (.cells #[.int .i64 d, .int .i64 cl, .int .u64 no, .int .i64 size, .slice A n c, .int .u64 t] 27)) (.cells #[.int .i64 d, .int .i64 cl, .int .u64 no, .int .i64 size, .slice A n c, .int .u64 t] 27)
  have hz2 : ((w.alloc (.cells #[.int .i64 d, .int .i64 cl, .int .u64 no, .int .i64 size, .slice A n c, .int .u64 t] 27)).alloc (.cells #[.int .i64 d, .int .i64 cl, .int .u64 no, .int .i64 size, .slice A n c, .int .u64 t] 27)).heap.size = w.heap.size + 2 := by simp
  rw [World.size_alloc] at b2
  have HFW := Aside0.mk (few_any _ (some ⟨w.heap.size + 1, 0, none⟩) 1 1 1 [⟨d, cl, ⟨no, size, data⟩, t⟩] _ (show Acts _ (w.heap.size + 2) (some ⟨w.heap.size + 1, 0, none⟩) 1 [⟨d, cl, ⟨no, size, data⟩, t⟩] from ⟨rfl, fun _ => ⟨_, rfl, by simp, fun i a ha => by
    rw [add_at, Nat.zero_add]
    rcases i with _ | i
    · cases ha
      exact ⟨A, n, c, (blk_cell b2 0).trans rfl, (blk_cell b2 1).trans rfl, (blk_cell b2 2).trans rfl, (blk_cell b2 3).trans rfl, (blk_cell b2 4).trans rfl, (blk_cell b2 5).trans rfl, (hd.below HB2.out).step fun k _ hD => ⟨rfl, by omega⟩⟩
    · simp at ha⟩⟩) (by unfold maxLen; omega) (by omega))
  clear b2 hz2 hd
  cases hf : fewB [⟨d, cl, ⟨no, size, data⟩, t⟩] 1
  · rw [hf] at HFW
    clear hf
    go_enter Try.func3, Try.ntmps3
    go_wp2_with fail
    refine HFW.out.mono ?_
    rintro e w1 ⟨rfl, rfl⟩
    go_wp2_with fail
    refine (works_any _).mono ?_
    rintro e w1 ⟨rfl, b⟩
    have HB := Aside0.mk (below_step HB2.out b)
    clear b
    go_wp2_with fail
    go_ret
    exact ⟨rfl, HB.out⟩
  · rw [hf] at HFW
    clear hf
    have heq := eq_stat0
    go_enter Try.func3, Try.ntmps3
    go_wp2_with fail
    refine HFW.out.mono ?_
    rintro e w1 ⟨rfl, rfl⟩
    go_wp2_with fail
    refine (snext_nil _).mono ?_
    rintro e w1 ⟨rfl, rfl⟩
    go_wp2_with fail
    refine (offer_nil cl no size A n c _).mono ?_
    rintro e w3 ⟨rfl, b3⟩
    have HB3 := Aside0.mk (below_step HB2.out b3)
    have HX3 := Aside0.mk (blk_below (blk_alloc (blk_new w (.cells #[.int .i64 d, .int .i64 cl, .int .u64 no, .int .i64 size, .slice A n c, .int .u64 t] 27)) (.cells #[.int .i64 d, .int .i64 cl, .int .u64 no, .int .i64 size, .slice A n c, .int .u64 t] 27)) b3)
    have c1 : w3.cell? ⟨w.heap.size, 1, none⟩ = some (.int .i64 cl) := (blk_cell HX3.out 1).trans rfl
    have c5 : w3.cell? ⟨w.heap.size, 5, none⟩ = some (.int .u64 t) := (blk_cell HX3.out 5).trans rfl
    clear b3
    go_wp2_with fail
    refine (release_nil t _).mono ?_
    rintro e w4 ⟨rfl, rfl⟩
    go_wp2_with fail
    refine (tick_nil _).mono ?_
    rintro e w4 ⟨rfl, rfl⟩
    go_wp2_with fail
    refine (stat_nil cl _).mono ?_
    rintro e w4 ⟨rfl, b4⟩
    have HB4 := Aside0.mk (below_step HB3.out b4)
    have HX4 := Aside0.mk (blk_below HX3.out b4)
    clear b4 c1 c5
    have c1 : w4.cell? ⟨w.heap.size, 1, none⟩ = some (.int .i64 cl) := (blk_cell HX4.out 1).trans rfl
    go_wp2_with fail
    refine (queued_nil cl _).mono ?_
    rintro e w5 ⟨rfl, rfl⟩
    go_wp2_with fail
    refine (sclear_nil _).mono ?_
    rintro e w5 ⟨rfl, rfl⟩
    go_wp2_with fail
    refine (works_any _).mono ?_
    rintro e w5 ⟨rfl, b⟩
    have HB := Aside0.mk (below_step HB4.out b)
    clear b
    go_wp2_with fail
    go_ret
    exact ⟨rfl, HB.out⟩
end Go.Proofs.Ytballojildjbhaa.S
