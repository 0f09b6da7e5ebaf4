/- The reference's queue (octroiref11): Size, Room, New; conditions: its row lies in memory. -/
import Derived.Test.YtballojildjbhaaQL
namespace Go.Proofs.Ytballojildjbhaa.F
open Go Go.RowKit Go.Proofs.YtballojildjbhaaW.PrintWords Go.Proofs.YtballojildjbhaaW.PrintLast Go.Proofs.YtballojildjbhaaW.PrintMore
set_option linter.unusedVariables false
set_option linter.unusedSimpArgs false

def strOf (l : List UInt8) : ByteArray := ⟨l.toArray⟩
theorem strOf_inj {a b : List UInt8} (h : strOf a = strOf b) : a = b := by
  unfold strOf at h
  injection h with h
  simpa using h

/-- An item of the reference in memory. -/
def RIt (W : World) (ad : Addr) (x : It) : Prop :=
  W.cell? ad = some (.int .u64 x.no) ∧ W.cell? ⟨ad.block, ad.off + 1, none⟩ = some (.int .i64 x.size) ∧ W.cell? ⟨ad.block, ad.off + 2, none⟩ = some (.string (strOf x.data))
/-- Its row: the block is of E. -/
def RRow (W : World) (E : Nat → Prop) (A : Option Addr) (n : Nat) (xs : List It) : Prop :=
  n = xs.length ∧ (0 < n → ∃ ad : Addr, A = some ad ∧ E ad.block ∧ ∀ i x, xs[i]? = some x → RIt W (ad.add (i * 3)) x)
theorem RIt.same {W W' : World} {ad : Addr} {x : It} (h : RIt W ad x) (hk : W'.heap[ad.block]? = W.heap[ad.block]?) : RIt W' ad x :=
  ⟨(World.cell?_of_block (w := W) (a := ad) hk).trans h.1, (World.cell?_of_block (w := W) (a := ⟨ad.block, ad.off + 1, none⟩) hk).trans h.2.1, (World.cell?_of_block (w := W) (a := ⟨ad.block, ad.off + 2, none⟩) hk).trans h.2.2⟩
theorem RRow.step {W W' : World} {E E' : Nat → Prop} {A : Option Addr} {n : Nat} {xs : List It} (h : RRow W E A n xs) (hk : ∀ k, k < W.heap.size → E k → W'.heap[k]? = W.heap[k]? ∧ E' k) : RRow W' E' A n xs := by
  refine ⟨h.1, fun hn => ?_⟩
  obtain ⟨ad, rfl, hE, hc⟩ := h.2 hn
  have hlt : ad.block < W.heap.size := by
    have hx0 : 0 < xs.length := by have := h.1; omega
    have := (hc 0 xs[0] (List.getElem?_eq_getElem hx0)).1
    obtain ⟨o, ho, _⟩ := cells_of_cell this
    rw [ad_block] at ho
    exact blk_lt ho
  obtain ⟨hb, hE'⟩ := hk _ hlt hE
  exact ⟨ad, rfl, hE', fun i x hx => (hc i x hx).same (by rw [ad_block]; exact hb)⟩
theorem RRow.below {W W' : World} {E : Nat → Prop} {A : Option Addr} {n : Nat} {xs : List It} (h : RRow W E A n xs) (hb : Below W.heap.size W W') : RRow W' E A n xs := h.step fun k hk hE => ⟨hb.block k hk, hE⟩

theorem cells4 {W : World} {g : Nat} {a b c d : Value} {t : TypeId} (h : W.heap[g]? = some (.cells #[a, b, c, d] t (0, 0))) :
    (W.cell? ⟨g, 0, none⟩ = some a ∧ W.cell? ⟨g, 1, none⟩ = some b ∧ W.cell? ⟨g, 2, none⟩ = some c ∧ W.cell? ⟨g, 3, none⟩ = some d) ∧
    W.frozen? ⟨g, 0, none⟩ = false ∧ W.frozen? ⟨g, 1, none⟩ = false ∧ W.frozen? ⟨g, 2, none⟩ = false ∧ W.frozen? ⟨g, 3, none⟩ = false :=
  ⟨⟨(blk_cell h 0).trans rfl, (blk_cell h 1).trans rfl, (blk_cell h 2).trans rfl, (blk_cell h 3).trans rfl⟩, blk_frozen h 0, blk_frozen h 1, blk_frozen h 2, blk_frozen h 3⟩
theorem set4 {W : World} {g : Nat} {a b c d a' b' c' d' : Value} {t : TypeId} (h : W.heap[g]? = some (.cells #[a, b, c, d] t (0, 0))) :
    ((((W.setCell ⟨g, 0, none⟩ a').setCell ⟨g, 1, none⟩ b').setCell ⟨g, 2, none⟩ c').setCell ⟨g, 3, none⟩ d').heap[g]? = some (.cells #[a', b', c', d'] t (0, 0)) :=
  blk_put (blk_put (blk_put (blk_put h 0 a' rfl) 1 b' rfl) 2 c' rfl) 3 d' rfl

theorem sz_take_succ {xs : List It} {k : Nat} {x : It} (h : xs[k]? = some x) : sz (xs.take (k + 1)) = sz (xs.take k) + x.size := by
  have hk := (List.getElem?_eq_some_iff.1 h).1
  rw [List.take_add_one, h]
  exact sz_snoc _ _
theorem sz_take_le {xs : List It} (h : ∀ x, x ∈ xs → 0 ≤ x.size) (k : Nat) : 0 ≤ sz (xs.take k) ∧ sz (xs.take k) ≤ sz xs := by
  have h1 : sz xs = sz (xs.take k) + sz (xs.drop k) := by
    have e : sz (xs.take k ++ xs.drop k) = sz (xs.take k) + sz (xs.drop k) := by unfold sz; rw [List.map_append, List.sum_append]
    rw [List.take_append_drop] at e
    exact e
  have h2 := sz_nonneg (xs := xs.drop k) fun x hx => h x (List.mem_of_mem_drop hx)
  have h3 := sz_nonneg (xs := xs.take k) fun x hx => h x (List.mem_of_mem_take hx)
  omega

set_option maxHeartbeats 400000 in
theorem rsize_any (E : Nat → Prop) (A : Option Addr) (n c : Nat) (xs : List It) (items bound drops : Int) (w : World) (h : RRow w E A n xs) (ho : Ok xs items bound drops) :
    Calls Try.prog 73 #[.agg #[.slice A n c, .int .i64 items, .int .i64 bound, .int .u64 drops]] w fun e w' => e = .returned (.int .i64 (sz xs)) ∧ Below w.heap.size w w' := by
  have HR := Aside0.mk (h.below (below_alloc (Below.refl _ w) (.cells #[.slice A n c, .int .i64 items, .int .i64 bound, .int .u64 drops] 104)))
  have hn : n ≤ 65536 := by have := ho.many; have := ho.items; have := h.1; omega
  have HN := Aside0.mk h.1
  have HO := Aside0.mk ho
  clear h ho
  go_enter Try.func73, Try.ntmps73
  go_wp2
  go_loop [3, 4] (fun a i => ∃ k : Nat, i = .int .i64 k ∧ k ≤ n ∧ a = .int .i64 (sz (xs.take k))) (fun _ i => n - (intOf i).toNat)
  case atStart => exact ⟨0, rfl, Nat.zero_le _, rfl⟩
  case round =>
    obtain ⟨k, rfl, hk, rfl⟩ := hrel
    by_cases hlt : k < n
    · obtain ⟨ad, rfl, _, hc⟩ := HR.out.2 (by omega)
      have hx : xs[k]? = some (xs[k]'(by have := HN.out; omega)) := List.getElem?_eq_getElem _
      generalize xs[k]'(by have := HN.out; omega) = x at hx
      obtain ⟨x0, x1, x2⟩ := hc k x hx
      have HX := Aside0.mk hx
      have hts := sz_take_succ hx
      have h1 := sz_take_le HO.out.pos (k + 1)
      have h2 := HO.out.size
      have h3 := HO.out.bound
      have wS : IntKind.i64.wrap (sz (xs.take k) + x.size) = sz (xs.take (k + 1)) := by rw [← hts, IntWalk.i64_in _ (by omega)]
      clear hc hx hts h1 h2 h3
      generalize sz (xs.take k) = s at *
      generalize hss : sz (xs.take (k + 1)) = s2 at *
      have HSS := Aside0.mk hss
      clear hss
      go_wp2
      go_round
      case rel => exact ⟨k + 1, by go_num, by omega, by rw [HSS.out]⟩
      case measure => simp [intOf]; omega
    · obtain rfl : k = n := by omega
      have hs : sz (xs.take k) = sz xs := by rw [HN.out, List.take_length]
      rw [hs]
      go_wp2
      go_ret
      exact ⟨rfl, below_alloc (Below.refl _ _) _⟩
end Go.Proofs.Ytballojildjbhaa.F
