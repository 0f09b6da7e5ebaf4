/- The reference's queue (octroiref11): New, Room, Pop; conditions: its row lies in memory. -/
import Derived.Test.YtballojildjbhaaQS
import Derived.Deep.RegionHeld3
namespace Go.Proofs.Ytballojildjbhaa.F
open Go Go.RowKit Go.Proofs.YtballojildjbhaaW.PrintWords Go.Proofs.YtballojildjbhaaW.PrintLast Go.Proofs.YtballojildjbhaaW.PrintMore
set_option linter.unusedVariables false
set_option linter.unusedSimpArgs false

/-- A reference's queue, as a value. -/
abbrev rqV (A : Option Addr) (n c : Nat) (items bound drops : Int) : Value := .agg #[.slice A n c, .int .i64 items, .int .i64 bound, .int .u64 drops]

set_option maxHeartbeats 400000 in
theorem rnew_ok (items size : Int) (w : World) (h : newB items size = false) : Calls Try.prog 36 #[.int .i64 items, .int .i64 size] w fun e w' => e = .returned (.tuple #[rqV none 0 0 items size 0, .int .i64 0]) ∧ Below w.heap.size w w' := by
  unfold newB at h
  simp only [Bool.or_eq_false_iff, decide_eq_false_iff_not] at h
  obtain ⟨h1, h2, h3⟩ := h
  go_enter Try.func36, Try.ntmps36
  go_wp2
  exact bodyPost_ret (v := .tuple #[rqV none 0 0 items size 0, .int .i64 0]) (by simp [results, Try.results36, go_sem]) rfl ⟨rfl, below_alloc (Below.refl _ _) _⟩
set_option maxHeartbeats 400000 in
theorem rnew_no (items size : Int) (w : World) (h : newB items size = true) : Calls Try.prog 36 #[.int .i64 items, .int .i64 size] w fun e w' => e = .returned (.tuple #[rqV none 0 0 0 0 0, .int .i64 2]) ∧ Below w.heap.size w w' := by
  unfold newB at h
  by_cases h1 : items < 0
  · go_enter Try.func36, Try.ntmps36
    go_wp2
    exact bodyPost_ret (v := .tuple #[rqV none 0 0 0 0 0, .int .i64 2]) (by simp [results, Try.results36, go_sem]) rfl ⟨rfl, below_alloc (Below.refl _ _) _⟩
  · by_cases h2 : size < 0
    · go_enter Try.func36, Try.ntmps36
      go_wp2
      exact bodyPost_ret (v := .tuple #[rqV none 0 0 0 0 0, .int .i64 2]) (by simp [results, Try.results36, go_sem]) rfl ⟨rfl, below_alloc (Below.refl _ _) _⟩
    · have h3 : 65536 < items := by
        simp [h1, h2] at h
        exact h
      clear h
      go_enter Try.func36, Try.ntmps36
      go_wp2
      exact bodyPost_ret (v := .tuple #[rqV none 0 0 0 0 0, .int .i64 2]) (by simp [results, Try.results36, go_sem]) rfl ⟨rfl, below_alloc (Below.refl _ _) _⟩

set_option maxHeartbeats 1000000 in
theorem rroom_any (E : Nat → Prop) (A : Option Addr) (n c : Nat) (xs : List It) (items bound drops q : Int) (w : World) (h : RRow w E A n xs) (ho : Ok xs items bound drops) :
    Calls Try.prog 69 #[rqV A n c items bound drops, .int .i64 q] w fun e w' => e = .returned (.bool (roomB xs.length items (sz xs) bound q)) ∧ Below w.heap.size w w' := by
  have HR := Aside0.mk (fun W (hb : Below w.heap.size w W) => rsize_any E A n c xs items bound drops W (h.below hb) ho)
  have hs := sz_nonneg ho.pos
  have hsb := ho.size
  have hbb := ho.bound
  have hw : IntKind.i64.wrap (bound - sz xs) = bound - sz xs := IntWalk.i64_in _ (by omega)
  have HN := Aside0.mk h.1
  clear h ho
  rw [← HN.out]
  unfold roomB
  by_cases h0 : 0 ≤ q
  · have d0 : decide (0 ≤ q) = true := decide_eq_true h0
    by_cases h1 : (n : Int) < items
    · have d1 : decide ((n : Int) < items) = true := decide_eq_true h1
      rw [d0, d1]
      clear h0 h1 hs hsb hbb
      go_enter Try.func69, Try.ntmps69
      go_upto_region 1 with (fail)
      have b1 := blk_new w (.cells #[.slice A n c, .int .i64 items, .int .i64 bound, .int .u64 drops] 104)
      have hb0 : Below w.heap.size w (w.alloc (.cells #[.slice A n c, .int .i64 items, .int .i64 bound, .int .u64 drops] 104)) := below_alloc (Below.refl _ _) _
      obtain ⟨w1, e1⟩ : ∃ w1, (w.alloc (.cells #[.slice A n c, .int .i64 items, .int .i64 bound, .int .u64 drops] 104)) = w1 := ⟨_, rfl⟩
      rw [e1] at b1 hb0 ⊢
      have B1 := Aside0.mk b1
      have HB0 := Aside0.mk hb0
      obtain ⟨⟨c0, c1, c2, c3⟩, _⟩ := cells4 b1
      have k0 : w1.drew.cell? ⟨w.heap.size, 0, none⟩ = some (.slice A n c) := c0
      have k1 : w1.drew.cell? ⟨w.heap.size, 1, none⟩ = some (.int .i64 items) := c1
      have k2 : w1.drew.cell? ⟨w.heap.size, 2, none⟩ = some (.int .i64 bound) := c2
      have k3 : w1.drew.cell? ⟨w.heap.size, 3, none⟩ = some (.int .u64 drops) := c3
      clear b1 e1 hb0 c0 c1 c2 c3
      have HS := Aside0.mk ((HR.out w1.drew (below_drew HB0.out)).mono (R' := fun e w' => e = .returned (.int .i64 (sz xs)) ∧ Below w.heap.size w w' ∧ w'.cell? ⟨w.heap.size, 0, none⟩ = some (.slice A n c) ∧ w'.cell? ⟨w.heap.size, 1, none⟩ = some (.int .i64 items) ∧ w'.cell? ⟨w.heap.size, 2, none⟩ = some (.int .i64 bound) ∧ w'.cell? ⟨w.heap.size, 3, none⟩ = some (.int .u64 drops))
        (fun e w' hh => by
          obtain ⟨⟨s0, s1, s2, s3⟩, _⟩ := cells4 (blk_below (blk_drew B1.out) hh.2)
          exact ⟨hh.1, below_step (below_drew HB0.out) hh.2, s0, s1, s2, s3⟩))
      go_region_held3 (fun W => W.cell? ⟨w.heap.size, 0, none⟩ = some (.slice A n c) ∧ W.cell? ⟨w.heap.size, 1, none⟩ = some (.int .i64 items) ∧ W.cell? ⟨w.heap.size, 2, none⟩ = some (.int .i64 bound) ∧ W.cell? ⟨w.heap.size, 3, none⟩ = some (.int .u64 drops))
        (first | (with_reducible exact ⟨s0, s1, s2, s3⟩) | (with_reducible exact ⟨k0, k1, k2, k3⟩) | fail)
        (first | (go_at_call 73; refine HS.out.mono ?_; rintro e w6 ⟨rfl, hb6, s0, s1, s2, s3⟩))
      all_goals (go_wp2_with fail)
      go_ret
      exact ⟨by simp, hb6⟩
    · have d1 : decide ((n : Int) < items) = false := decide_eq_false h1
      rw [d0, d1]
      clear h0 h1 hs hsb hbb HR
      go_enter Try.func69, Try.ntmps69
      go_wp2
      go_quiet (fail)
      go_wp2
      go_ret
      exact ⟨by simp, pw_below_drewN (below_alloc (Below.refl _ _) _) _⟩
  · have d0 : decide (0 ≤ q) = false := decide_eq_false h0
    rw [d0]
    clear h0 hs hsb hbb HR
    go_enter Try.func69, Try.ntmps69
    go_wp2
    go_quiet (fail)
    go_wp2
    go_ret
    exact ⟨by simp, pw_below_drewN (below_alloc (Below.refl _ _) _) _⟩

/-! ### Pop -/
set_option maxHeartbeats 400000 in
theorem rpop_nil (A : Option Addr) (c : Nat) (items bound drops : Int) (w : World) :
    Calls Try.prog 62 #[rqV A 0 c items bound drops] w fun e w' => e = .returned (.tuple #[rqV A 0 c items bound drops, .agg #[.int .u64 0, .int .i64 0, .string ⟨#[]⟩], .bool false]) ∧ Below w.heap.size w w' := by
  go_enter Try.func62, Try.ntmps62
  go_wp2
  exact bodyPost_ret (v := .tuple #[rqV A 0 c items bound drops, .agg #[.int .u64 0, .int .i64 0, .string ⟨#[]⟩], .bool false]) (by simp [results, Try.results62, go_sem]) rfl ⟨rfl, below_alloc (below_alloc (below_alloc (Below.refl _ _) _) _) _⟩

theorem RRow.tail {W : World} {E : Nat → Prop} {ad : Addr} {n : Nat} {x : It} {xs : List It} (h : RRow W E (some ad) n (x :: xs)) : RRow W E (some ⟨ad.block, ad.off + 3, none⟩) xs.length xs := by
  refine ⟨rfl, fun hn => ?_⟩
  obtain ⟨ad', e, hE, hc⟩ := h.2 (by have := h.1; rw [List.length_cons] at this; omega)
  cases e
  refine ⟨_, rfl, hE, fun i y hy => ?_⟩
  have := hc (i + 1) y (by simpa using hy)
  have e : ad.add ((i + 1) * 3) = (⟨ad.block, ad.off + 3, none⟩ : Addr).add (i * 3) := by
    rw [add_at]
    show (if (i + 1) * 3 = 0 then _ else _) = _
    rw [if_neg (by omega), show ad.off + (i + 1) * 3 = ad.off + 3 + i * 3 by omega]
  rwa [e] at this
theorem RRow.zero {W : World} {E : Nat → Prop} {A : Option Addr} {xs : List It} (h : xs.length = 0) : RRow W E A xs.length xs := ⟨rfl, fun hn => by omega⟩

set_option maxHeartbeats 1000000 in
theorem rpop_cons (E : Nat → Prop) (A : Option Addr) (n c : Nat) (x : It) (xs : List It) (items bound drops : Int) (w : World) (h : RRow w E A n (x :: xs)) (hnc : n ≤ c) :
    Calls Try.prog 62 #[rqV A n c items bound drops] w fun e w' => ∃ A' n' c', e = .returned (.tuple #[rqV A' n' c' items bound drops, .agg #[.int .u64 x.no, .int .i64 x.size, .string (strOf x.data)], .bool true]) ∧ RRow w' E A' n' xs ∧ n' ≤ c' ∧ Below w.heap.size w w' := by
  have hn := h.1
  rw [List.length_cons] at hn
  subst hn
  obtain ⟨ad, rfl, hE, hc⟩ := h.2 (by omega)
  obtain ⟨x0, x1, x2⟩ := hc 0 x rfl
  rw [Nat.zero_mul] at x0 x1 x2
  have e0 : ad.add 0 = ad := rfl
  rw [e0] at x0 x1 x2
  have HR := Aside0.mk h
  have HNC := Aside0.mk hnc
  clear hnc
  have had : ad.block < w.heap.size := by
    obtain ⟨o, ho, _⟩ := cells_of_cell x0
    exact blk_lt ho
  have hne : ((xs.length : Int) + 1 == 0) = false := by rw [beq_eq_false_iff_ne]; omega
  have y := fun (a : Addr) (v : Value) (hv : w.cell? a = some v) => Lib.cell?_alloc_some (.cells #[.int .u64 0, .int .i64 0, .string ⟨#[]⟩] 57) (Lib.cell?_alloc_some (.cells #[.slice none 0 0, .int .i64 0, .int .i64 0, .int .u64 0] 104) (Lib.cell?_alloc_some (.cells #[.slice (some ad) (xs.length + 1) c, .int .i64 items, .int .i64 bound, .int .u64 drops] 104) hv))
  have y0 := y _ _ x0
  have y1 := y _ _ x1
  have y2 := y _ _ x2
  clear h hc e0 y x0 x1 x2
  by_cases hc1 : c = 1
  · subst hc1
    go_enter Try.func62, Try.ntmps62
    go_upto_region 5 with (fail)
    go_region
    all_goals (go_wp2_with fail)
    all_goals exact bodyPost_ret (v := .tuple #[rqV (some ad) xs.length 0 items bound drops, .agg #[.int .u64 x.no, .int .i64 x.size, .string (strOf x.data)], .bool true]) (by simp [results, Try.results62, go_sem]) rfl ⟨_, _, _, rfl, RRow.zero (by have := HNC.out; omega), by have := HNC.out; omega, below_drew (below_alloc (below_alloc (below_alloc (below_alloc (Below.refl _ _) _) _) _) _)⟩
  · go_enter Try.func62, Try.ntmps62
    go_upto_region 5 with (fail)
    go_region
    all_goals (go_wp2_with fail)
    all_goals exact bodyPost_ret (v := .tuple #[rqV (some ⟨ad.block, ad.off + 3, none⟩) xs.length (c - 1) items bound drops, .agg #[.int .u64 x.no, .int .i64 x.size, .string (strOf x.data)], .bool true]) (by simp [results, Try.results62, go_sem]) rfl ⟨_, _, _, rfl, HR.out.tail.below (below_drew (below_alloc (below_alloc (below_alloc (below_alloc (Below.refl _ _) _) _) _) _)), by have := HNC.out; omega, below_drew (below_alloc (below_alloc (below_alloc (below_alloc (Below.refl _ _) _) _) _) _)⟩
end Go.Proofs.Ytballojildjbhaa.F
