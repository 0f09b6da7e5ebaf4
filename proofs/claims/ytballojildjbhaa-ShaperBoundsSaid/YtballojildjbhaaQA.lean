/- fifo.Queue: the words for its memory; what Len, Size, Drops, Room, place answer; conditions: the queue lies in memory. -/
import Derived.Test.YtballojildjbhaaProg
import Derived.Below
import Derived.Deep.Draws
import Derived.Deep.AppendLies
import Derived.Maps.AppendAt
import Derived.OwnWalk
import Derived.Laws.BytesArg
import Derived.Laws.MakeOwn
import Derived.Laws.OwnMore
import Derived.Deep.OwnRows
import Derived.Tactics
import Derived.Lib.ConvBytes
import Derived.Laws.Slices
import Derived.WalkKit
import Derived.WalkSpells
import Derived.RangeFuncOwn
import Derived.KernelRfl
import Derived.RowKit3
import Derived.Deep.LoopGhost
import Derived.Deep.QuietTactic
import Derived.BigQuiet
import Derived.WideLaws
import Derived.Deep.DeepCutAuto
import Derived.Deep.CutBlock
import Derived.Deep.RegionHeld3
import Derived.RegionTactic
import Derived.ChangeAlike
import Derived.Laws.Rows
import Derived.Laws.CopyRow
import Derived.Lib.AppendStr
import Derived.ArgAppend
import Derived.Laws.IdiomCopy
import Derived.OrdersHeld
import Derived.Laws.BitsLemmas
import Derived.RowKit
import Derived.Outline
import Derived.Test.YtballojildjbhaaWWords
import Derived.Test.YtballojildjbhaaWLast
import Derived.Test.YtballojildjbhaaWMore
namespace Go.Proofs.Ytballojildjbhaa.F
open Go.RowKit Go.Proofs.YtballojildjbhaaW.PrintWords Go.Proofs.YtballojildjbhaaW.PrintLast Go.Proofs.YtballojildjbhaaW.PrintMore
set_option linter.unusedVariables false
set_option linter.unusedSimpArgs false

/-- An item, as it is told. -/
structure It where
  no : Int
  size : Int
  data : List UInt8
deriving DecidableEq

def byteV (x : UInt8) : Value := .int .u8 x.toNat

/-- A slice of bytes reads as a list; its block is one of D. -/
def Dat (W : World) (D : Nat → Prop) (A : Option Addr) (n : Nat) (l : List UInt8) : Prop :=
  n = l.length ∧ (0 < n → ∃ ad : Addr, A = some ad ∧ D ad.block ∧ ∀ j x, l[j]? = some x → W.cell? (ad.add j) = some (byteV x))

theorem ad_block (a : Addr) (n : Nat) : (a.add n).block = a.block := by unfold Addr.add; split <;> rfl

theorem heap_far {W : World} {g k i : Nat} {v : Value} (h : k ≠ g) : (W.setCell ⟨g, i, none⟩ v).heap[k]? = W.heap[k]? := Below.heap_setCell W ⟨g, i, none⟩ v k h

theorem Dat.step {W W' : World} {D D' : Nat → Prop} {A : Option Addr} {n : Nat} {l : List UInt8} (h : Dat W D A n l)
    (hk : ∀ k, k < W.heap.size → D k → W'.heap[k]? = W.heap[k]? ∧ D' k) : Dat W' D' A n l := by
  refine ⟨h.1, fun hn => ?_⟩
  obtain ⟨ad, rfl, hD, hc⟩ := h.2 hn
  have hlt : ad.block < W.heap.size := by
    have hl : 0 < l.length := by have := h.1; omega
    have := hc 0 l[0] (List.getElem?_eq_getElem hl)
    obtain ⟨o, ho, _⟩ := cells_of_cell this
    rw [ad_block] at ho
    exact blk_lt ho
  obtain ⟨hb, hD'⟩ := hk _ hlt hD
  exact ⟨ad, rfl, hD', fun j x hx => (World.cell?_of_block (w := W) (by rw [ad_block]; exact hb)).trans (hc j x hx)⟩

/-- A block of bytes. -/
def U8 (W : World) (k : Nat) : Prop := ∃ cs, W.heap[k]? = some (.cells cs 5 (0, 0))
theorem U8.same {W W' : World} {k : Nat} (h : U8 W k) (e : W'.heap[k]? = W.heap[k]?) : U8 W' k := by
  obtain ⟨cs, hc⟩ := h
  exact ⟨cs, e.trans hc⟩
theorem U8.lt {W : World} {k : Nat} (h : U8 W k) : k < W.heap.size := by
  obtain ⟨cs, hc⟩ := h
  exact blk_lt hc
theorem U8.ne_ {W : World} {k g : Nat} {cs : Array Value} {t : TypeId} (h : U8 W k) (hg : W.heap[g]? = some (.cells cs t (0, 0))) (ht : 5 ≠ t) : k ≠ g := by
  obtain ⟨cs', hc⟩ := h
  exact blk_ne hc hg ht

/-- The item x, as the three cells from place p on. -/
def ItAt (W : World) (D : Nat → Prop) (cs : Array Value) (p : Nat) (x : It) : Prop :=
  ∃ A n c, cs[3 * p]? = some (.int .u64 x.no) ∧ cs[3 * p + 1]? = some (.int .i64 x.size) ∧ cs[3 * p + 2]? = some (.slice A n c) ∧ Dat W (fun k => D k ∧ U8 W k) A n x.data

def Ring (W : World) (D : Nat → Prop) (A : Option Addr) (len fr : Nat) (xs : List It) : Prop :=
  (A = none ∧ len = 0 ∧ fr = 0 ∧ xs = []) ∨
  ∃ r cs, A = some ⟨r, 0, none⟩ ∧ D r ∧ W.heap[r]? = some (.cells cs 25 (0, 0)) ∧ cs.size = len * 3 ∧ fr < len ∧ xs.length ≤ len ∧ len ≤ 131072 ∧
    ∀ i x, xs[i]? = some x → ItAt W D cs ((fr + i) % len) x

/-- The sum of the sizes. -/
def sz (xs : List It) : Int := (xs.map (·.size)).sum

/-- The block of a queue. -/
def Qb (W : World) (g : Nat) (A : Option Addr) (len fr : Nat) (many size items bound drops : Int) : Prop :=
  W.heap[g]? = some (.cells #[.slice A len len, .int .i64 fr, .int .i64 many, .int .i64 size, .int .i64 items, .int .i64 bound, .int .u64 drops] 125 (0, 0))

/-- A queue in memory, all of whose blocks are of D. -/
def Fq (W : World) (D : Nat → Prop) (g : Nat) (xs : List It) (items bound drops : Int) : Prop :=
  D g ∧ ∃ A len fr, Qb W g A len fr xs.length (sz xs) items bound drops ∧ Ring W D A len fr xs

/-- What a queue is as long as it lives. -/
structure Ok (xs : List It) (items bound drops : Int) : Prop where
  many : (xs.length : Int) ≤ items
  items : items ≤ 65536
  pos : ∀ x, x ∈ xs → 0 ≤ x.size
  size : sz xs ≤ bound
  bound : bound ≤ 9223372036854775807
  drops : 0 ≤ drops ∧ drops ≤ 18446744073709551615

theorem ItAt.step {W W' : World} {D D' : Nat → Prop} {cs : Array Value} {p : Nat} {x : It} (h : ItAt W D cs p x)
    (hk : ∀ k, U8 W k → D k → W'.heap[k]? = W.heap[k]? ∧ D' k) : ItAt W' D' cs p x := by
  obtain ⟨A, n, c, h0, h1, h2, hd⟩ := h
  exact ⟨A, n, c, h0, h1, h2, hd.step fun k hk' hD => ⟨(hk k hD.2 hD.1).1, (hk k hD.2 hD.1).2, hD.2.same (hk k hD.2 hD.1).1⟩⟩
/-- A block of cells, none frozen. -/
def Cel (W : World) (k : Nat) : Prop := ∃ cs t, W.heap[k]? = some (.cells cs t (0, 0))
theorem Cel.lt {W : World} {k : Nat} (h : Cel W k) : k < W.heap.size := by
  obtain ⟨cs, t, hc⟩ := h
  exact blk_lt hc
theorem U8.cel {W : World} {k : Nat} (h : U8 W k) : Cel W k := by
  obtain ⟨cs, hc⟩ := h
  exact ⟨cs, _, hc⟩
theorem Ring.step {W W' : World} {D D' : Nat → Prop} {A : Option Addr} {len fr : Nat} {xs : List It} (h : Ring W D A len fr xs)
    (hk : ∀ k, Cel W k → D k → W'.heap[k]? = W.heap[k]? ∧ D' k) : Ring W' D' A len fr xs := by
  rcases h with h | ⟨r, cs, h1, h2, h3, h4, h5, h6, h7, h8⟩
  · exact .inl h
  · obtain ⟨hb, hD⟩ := hk r ⟨_, _, h3⟩ h2
    exact .inr ⟨r, cs, h1, hD, hb.trans h3, h4, h5, h6, h7, fun i x hx => (h8 i x hx).step fun k hu hD => hk k hu.cel hD⟩
theorem Fq.step {W W' : World} {D D' : Nat → Prop} {g : Nat} {xs : List It} {items bound drops : Int} (h : Fq W D g xs items bound drops)
    (hk : ∀ k, Cel W k → D k → W'.heap[k]? = W.heap[k]? ∧ D' k) : Fq W' D' g xs items bound drops := by
  obtain ⟨hD, A, len, fr, hb, hr⟩ := h
  obtain ⟨hg, hD'⟩ := hk g ⟨_, _, hb⟩ hD
  exact ⟨hD', A, len, fr, hg.trans hb, hr.step hk⟩
theorem Fq.below {W W' : World} {D : Nat → Prop} {g : Nat} {xs : List It} {items bound drops : Int} (h : Fq W D g xs items bound drops) (hb : Below W.heap.size W W') : Fq W' D g xs items bound drops :=
  h.step fun k hk hD => ⟨hb.block k hk.lt, hD⟩
theorem Fq.drewN {W : World} {D : Nat → Prop} {g : Nat} {xs : List It} {items bound drops : Int} (h : Fq W D g xs items bound drops) (n : Nat) : Fq (W.drewN n) D g xs items bound drops :=
  h.step fun k hk hD => ⟨rfl, hD⟩
theorem Fq.lt {W : World} {D : Nat → Prop} {g : Nat} {xs : List It} {items bound drops : Int} (h : Fq W D g xs items bound drops) : g < W.heap.size := by
  obtain ⟨hD, A, len, fr, hb, hr⟩ := h
  exact blk_lt hb

/-- Nothing has turned but what is new, or of D. -/
structure KeepD (W W' : World) (D : Nat → Prop) : Prop where
  os : W'.os = W.os
  tape : W'.tape = W.tape
  output : W'.output = W.output
  size : W.heap.size ≤ W'.heap.size
  block : ∀ k, k < W.heap.size → ¬ D k → W'.heap[k]? = W.heap[k]?
theorem KeepD.of_below {W W' : World} (h : Below W.heap.size W W') (D : Nat → Prop) : KeepD W W' D := ⟨h.os, h.tape, h.output, h.size, fun k hk _ => h.block k hk⟩
theorem KeepD.trans {W W1 W2 : World} {D D' : Nat → Prop} (h : KeepD W W1 D) (k : KeepD W1 W2 D') (hD : ∀ k, k < W.heap.size → D' k → D k) : KeepD W W2 D :=
  ⟨k.os.trans h.os, k.tape.trans h.tape, k.output.trans h.output, Nat.le_trans h.size k.size, fun i hi hn => (k.block i (Nat.lt_of_lt_of_le hi h.size) (fun hd => hn (hD i hi hd))).trans (h.block i hi hn)⟩
theorem KeepD.drew {W W1 : World} {D : Nat → Prop} (h : KeepD W W1 D) : KeepD W W1.drew D := ⟨h.os, h.tape, h.output, h.size, h.block⟩
theorem KeepD.mono {W W1 : World} {D D' : Nat → Prop} (h : KeepD W W1 D) (hD : ∀ k, D k → D' k) : KeepD W W1 D' := ⟨h.os, h.tape, h.output, h.size, fun k hk hn => h.block k hk fun hd => hn (hD k hd)⟩
theorem KeepD.below {B : Nat} {W W' : World} {D : Nat → Prop} (h : KeepD W W' D) (hB : B ≤ W.heap.size) (hD : ∀ k, k < B → ¬ D k) : Below B W W' :=
  ⟨h.os, h.tape, h.output, h.size, fun k hk => h.block k (Nat.lt_of_lt_of_le hk hB) (hD k hk)⟩
theorem KeepD.set_ {W W1 : World} {D : Nat → Prop} (h : KeepD W W1 D) {g i : Nat} {v : Value} (hg : W.heap.size ≤ g ∨ D g) : KeepD W (W1.setCell ⟨g, i, none⟩ v) D :=
  ⟨h.os, h.tape, h.output, by simpa [World.setCell] using h.size, fun k hk hn => (heap_far (by rintro rfl; rcases hg with hg | hg; omega; exact hn hg)).trans (h.block k hk hn)⟩

theorem sz_nonneg {xs : List It} (h : ∀ x, x ∈ xs → 0 ≤ x.size) : 0 ≤ sz xs := by
  unfold sz
  induction xs with
  | nil => simp
  | cons x l ih =>
    have := h x (by simp)
    have := ih fun y hy => h y (by simp [hy])
    simp only [List.map_cons, List.sum_cons]; omega

section
variable {W : World} {g : Nat} {A : Option Addr} {len fr : Nat} {many size items bound drops : Int} (h : Qb W g A len fr many size items bound drops)
include h
theorem Qb.c0 : W.cell? ⟨g, 0, none⟩ = some (.slice A len len) := by rw [blk_cell h]; rfl
theorem Qb.c1 : W.cell? ⟨g, 1, none⟩ = some (.int .i64 fr) := by rw [blk_cell h]; rfl
theorem Qb.c2 : W.cell? ⟨g, 2, none⟩ = some (.int .i64 many) := by rw [blk_cell h]; rfl
theorem Qb.c3 : W.cell? ⟨g, 3, none⟩ = some (.int .i64 size) := by rw [blk_cell h]; rfl
theorem Qb.c4 : W.cell? ⟨g, 4, none⟩ = some (.int .i64 items) := by rw [blk_cell h]; rfl
theorem Qb.c5 : W.cell? ⟨g, 5, none⟩ = some (.int .i64 bound) := by rw [blk_cell h]; rfl
theorem Qb.c6 : W.cell? ⟨g, 6, none⟩ = some (.int .u64 drops) := by rw [blk_cell h]; rfl
theorem Qb.fz (i : Nat) : W.frozen? ⟨g, i, none⟩ = false := blk_frozen h i
end

set_option maxHeartbeats 400000 in
theorem len_qb (g : Nat) (A : Option Addr) (len fr : Nat) (many size items bound drops : Int) (w : World) (h : Qb w g A len fr many size items bound drops) :
    Calls Try.prog 58 #[.pointer (some ⟨g, 0, none⟩)] w fun e w' => e = .returned (.int .i64 many) ∧ w = w' := by
  have c2 := h.c2
  clear h
  go_enter Try.func58, Try.ntmps58
  go_wp2
  go_ret
  exact ⟨rfl, rfl⟩
theorem len_any (D : Nat → Prop) (g : Nat) (xs : List It) (items bound drops : Int) (w : World) (h : Fq w D g xs items bound drops) :
    Calls Try.prog 58 #[.pointer (some ⟨g, 0, none⟩)] w fun e w' => e = .returned (.int .i64 xs.length) ∧ w = w' := by
  obtain ⟨_, A, len, fr, hb, _⟩ := h
  exact len_qb _ _ _ _ _ _ _ _ _ _ hb
def roomB (many items size bound q : Int) : Bool := decide (0 ≤ q) && (decide (many < items) && decide (q ≤ bound - size))

set_option maxHeartbeats 1000000 in
theorem room_qb (g : Nat) (A : Option Addr) (len fr : Nat) (many size items bound drops q : Int) (w : World) (h : Qb w g A len fr many size items bound drops)
    (hs : 0 ≤ size) (hsb : size ≤ bound) (hb : bound ≤ 9223372036854775807) :
    Calls Try.prog 49 #[.pointer (some ⟨g, 0, none⟩), .int .i64 q] w fun e w' => e = .returned (.bool (roomB many items size bound q)) ∧ Below w.heap.size w w' := by
  have c2 := h.c2
  have c3 := h.c3
  have c4 := h.c4
  have c5 := h.c5
  have hlt := blk_lt h
  have hw : IntKind.i64.wrap (bound - size) = bound - size := IntWalk.i64_in _ (by omega)
  clear h
  unfold roomB
  by_cases h0 : 0 ≤ q
  · have d0 : decide (0 ≤ q) = true := decide_eq_true h0
    by_cases h1 : many < items
    · have d1 : decide (many < items) = true := decide_eq_true h1
      rw [d0, d1]
      clear h0 h1 hs hsb hb
      go_enter Try.func49, Try.ntmps49
      go_wp2
      go_quiet (fail)
      go_wp2
      go_ret
      exact ⟨by simp, pw_below_drewN (Below.refl _ _) _⟩
    · have d1 : decide (many < items) = false := decide_eq_false h1
      rw [d0, d1]
      clear h0 h1 hs hsb hb
      go_enter Try.func49, Try.ntmps49
      go_wp2
      go_quiet (fail)
      go_wp2
      go_ret
      exact ⟨by simp, pw_below_drewN (Below.refl _ _) _⟩
  · have d0 : decide (0 ≤ q) = false := decide_eq_false h0
    rw [d0]
    clear h0 hs hsb hb
    go_enter Try.func49, Try.ntmps49
    go_wp2
    go_quiet (fail)
    go_wp2
    go_ret
    exact ⟨by simp, pw_below_drewN (Below.refl _ _) _⟩
end Go.Proofs.Ytballojildjbhaa.F
