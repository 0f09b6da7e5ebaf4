/- fifo.Queue: its methods over memory of the call's own; conditions: the queue lies there. -/
import Derived.Test.YtballojildjbhaaQK
namespace Go.Proofs.Ytballojildjbhaa.F
open Go Go.RowKit Go.Proofs.YtballojildjbhaaW.PrintWords Go.Proofs.YtballojildjbhaaW.PrintLast Go.Proofs.YtballojildjbhaaW.PrintMore
set_option linter.unusedVariables false
set_option linter.unusedSimpArgs false

/-- What a push answers: the error, the items, the drops. -/
def pushR (xs : List It) (items bound drops : Int) (x : It) : Int × List It × Int :=
  if x.size < 0 then (2, xs, drops) else if roomB xs.length items (sz xs) bound x.size then (0, xs ++ [x], drops) else (110, xs, drops + 1)

theorem Ok.push {xs : List It} {items bound drops : Int} (ho : Ok xs items bound drops) (x : It) (hd : drops < 18446744073709551615) : Ok (pushR xs items bound drops x).2.1 items bound (pushR xs items bound drops x).2.2 := by
  unfold pushR
  by_cases h1 : x.size < 0
  · rw [if_pos h1]; exact ho
  · rw [if_neg h1]
    by_cases h2 : roomB xs.length items (sz xs) bound x.size = true
    · rw [if_pos h2]
      simp only [roomB, Bool.and_eq_true, decide_eq_true_eq] at h2
      exact ⟨by simp; omega, ho.items, fun y hy => by
        rcases List.mem_append.1 hy with hy | hy
        · exact ho.pos y hy
        · have : y = x := by simpa using hy
          subst this; omega, by rw [sz_snoc]; omega, ho.bound, ho.drops⟩
    · rw [if_neg h2]
      exact ⟨ho.many, ho.items, ho.pos, ho.size, ho.bound, by have := ho.drops; show 0 ≤ drops + 1 ∧ drops + 1 ≤ _; omega⟩
theorem Ok.pop {x : It} {xs : List It} {items bound drops : Int} (ho : Ok (x :: xs) items bound drops) : Ok xs items bound drops := by
  have h1 := ho.pos x (by simp)
  have h2 := ho.many
  have h3 := ho.size
  rw [show sz (x :: xs) = x.size + sz xs from rfl] at h3
  rw [List.length_cons] at h2
  exact ⟨by omega, ho.items, fun y hy => ho.pos y (by simp [hy]), by omega, ho.bound, ho.drops⟩
theorem Ok.clear {xs : List It} {items bound drops : Int} (ho : Ok xs items bound drops) : Ok [] items bound drops := by
  have h1 := ho.many
  have h2 := sz_nonneg ho.pos
  have h3 := ho.size
  exact ⟨by simp; omega, ho.items, fun y hy => by simp at hy, by simp [sz]; omega, ho.bound, ho.drops⟩
theorem Ok.new {items bound : Int} (h : newB items bound = false) (hb : bound ≤ 9223372036854775807) : Ok [] items bound 0 := by
  unfold newB at h
  simp only [Bool.or_eq_false_iff, decide_eq_false_iff_not] at h
  exact ⟨by simp; omega, by omega, fun y hy => by simp at hy, by simp [sz]; omega, hb, by omega⟩
/-- All items' bytes are few. -/
def Few (xs : List It) : Prop := ∀ y, y ∈ xs → y.data.length ≤ 65536
theorem Few.push {xs : List It} {items bound drops : Int} {x : It} (h : Few xs) (hx : x.data.length ≤ 65536) : Few (pushR xs items bound drops x).2.1 := by
  unfold pushR
  split
  · exact h
  · split
    · intro y hy
      rcases List.mem_append.1 hy with hy | hy
      · exact h y hy
      · have : y = x := by simpa using hy
        subst this; exact hx
    · exact h
theorem Few.pop {x : It} {xs : List It} (h : Few (x :: xs)) : Few xs := fun y hy => h y (by simp [hy])
theorem Few.nil : Few [] := fun y hy => by simp at hy

/-- Push, whatever it answers. -/
theorem push_any (D : Nat → Prop) (g : Nat) (xs : List It) (items bound drops : Int) (x : It) (A : Option Addr) (n c : Nat) (w : World) (h : Fq w D g xs items bound drops) (ho : Ok xs items bound drops)
    (hl : Few xs) (hx : x.data.length ≤ 65536) (hd : Dat w (fun k => k ≠ g) A n x.data) (hdr : drops < 18446744073709551615) :
    Calls Try.prog 28 #[.pointer (some ⟨g, 0, none⟩), .agg #[.int .u64 x.no, .int .i64 x.size, .slice A n c]] w fun e w' => e = .returned (.int .i64 (pushR xs items bound drops x).1) ∧
      Fq w' (fun k => D k ∨ w.heap.size ≤ k) g (pushR xs items bound drops x).2.1 items bound (pushR xs items bound drops x).2.2 ∧ KeepD w w' D := by
  unfold pushR
  by_cases h1 : x.size < 0
  · rw [if_pos h1]
    refine (push_arg g x.no x.size A n c w h1).mono ?_
    rintro e w' ⟨rfl, hb⟩
    exact ⟨rfl, h.step fun k hk hD => ⟨hb.block k hk.lt, .inl hD⟩, KeepD.of_below hb D⟩
  · rw [if_neg h1]
    cases h2 : roomB xs.length items (sz xs) bound x.size
    · rw [if_neg (by simp)]
      refine (push_drop D g xs items bound drops x.no x.size A n c w h ho (by omega) h2 hdr).mono ?_
      rintro e w' ⟨rfl, hq, hk⟩
      exact ⟨rfl, hq.step fun k _ hD => ⟨rfl, .inl hD⟩, hk⟩
    · rw [if_pos rfl]
      refine (push_room D g xs items bound drops x A n c w h ho hl hx hd (by omega) h2).mono ?_
      rintro e w' ⟨rfl, hq, hk⟩
      exact ⟨rfl, hq, hk⟩

/-- A queue of the call's own: in blocks from B on. -/
abbrev Fb (W : World) (B g : Nat) (xs : List It) (items bound drops : Int) : Prop := Fq W (fun k => B ≤ k) g xs items bound drops
theorem KeepD.own {B : Nat} {W W' : World} (h : KeepD W W' (fun k => B ≤ k)) (hB : B ≤ W.heap.size) : Below B W W' := h.below hB fun k hk hn => by omega
theorem Fb.kept {B g : Nat} {W W' : World} {xs : List It} {items bound drops : Int} (h : Fb W B g xs items bound drops) (hb : Below W.heap.size W W') : Fb W' B g xs items bound drops := Fq.below h hb

theorem push_b (B g : Nat) (xs : List It) (items bound drops : Int) (x : It) (A : Option Addr) (n c : Nat) (w : World) (h : Fb w B g xs items bound drops) (ho : Ok xs items bound drops) (hB : B ≤ w.heap.size)
    (hl : Few xs) (hx : x.data.length ≤ 65536) (hd : Dat w (fun k => k ≠ g) A n x.data) (hdr : drops < 18446744073709551615) :
    Calls Try.prog 28 #[.pointer (some ⟨g, 0, none⟩), .agg #[.int .u64 x.no, .int .i64 x.size, .slice A n c]] w fun e w' => e = .returned (.int .i64 (pushR xs items bound drops x).1) ∧
      Fb w' B g (pushR xs items bound drops x).2.1 items bound (pushR xs items bound drops x).2.2 ∧ Below B w w' :=
  (push_any _ g xs items bound drops x A n c w h ho hl hx hd hdr).mono fun e w' ⟨he, hq, hk⟩ => ⟨he, hq.step fun k _ hD => ⟨rfl, by rcases hD with h | h <;> omega⟩, hk.own hB⟩

theorem Fq.empty {D : Nat → Prop} {g : Nat} {W : World} {items bound drops : Int} (h : Fq W D g [] items bound drops) : Empty W (some ⟨g, 0, none⟩) := by
  obtain ⟨_, A, len, fr, hq, _⟩ := h
  exact .inr ⟨g, A, len, fr, _, _, _, _, rfl, hq⟩

theorem pop_b (B g : Nat) (x : It) (xs : List It) (items bound drops : Int) (w : World) (h : Fb w B g (x :: xs) items bound drops) (ho : Ok (x :: xs) items bound drops) (hB : B ≤ w.heap.size) (hl : x.data.length ≤ 65536) :
    Calls Try.prog 54 #[.pointer (some ⟨g, 0, none⟩)] w fun e w' => ∃ A n c, e = .returned (.tuple #[.agg #[.int .u64 x.no, .int .i64 x.size, .slice A n c], .bool true]) ∧ Dat w' (fun k => w.heap.size ≤ k ∧ U8 w' k) A n x.data ∧
      Fb w' B g xs items bound drops ∧ Below B w w' :=
  (pop_some _ g x xs items bound drops w h ho hl).mono fun e w' ⟨A, n, c, he, hd, hq, hk⟩ => ⟨A, n, c, he, hd, hq, hk.own hB⟩

theorem clear_any (D : Nat → Prop) (g : Nat) (xs : List It) (items bound drops : Int) (w : World) (h : Fq w D g xs items bound drops) :
    Calls Try.prog 33 #[.pointer (some ⟨g, 0, none⟩)] w fun e w' => e = .returned (.int .i64 xs.length) ∧ Fq w' D g [] items bound drops ∧ KeepD w w' D := by
  cases xs with
  | nil =>
    refine (clear_none _ w h.empty).mono ?_
    rintro e w' ⟨rfl, rfl⟩
    exact ⟨rfl, h, KeepD.of_below (Below.refl _ _) D⟩
  | cons x xs =>
    refine (clear_some D g x xs items bound drops w h).mono ?_
    rintro e w' ⟨rfl, h2, h3⟩
    exact ⟨by rw [List.length_cons]; rfl, h2, h3⟩

theorem dat_nil (W : World) (D : Nat → Prop) : Dat W D none 0 [] := ⟨rfl, fun h => absurd h (by omega)⟩
end Go.Proofs.Ytballojildjbhaa.F
