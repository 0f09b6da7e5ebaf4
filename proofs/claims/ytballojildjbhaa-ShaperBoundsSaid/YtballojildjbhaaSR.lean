/- ShaperEarly's walk; conditions: the classes and the acts lie in memory. -/
import Derived.Test.YtballojildjbhaaSQ
import Derived.Deep.RegionHeld3
namespace Go.Proofs.Ytballojildjbhaa.S
open Go Go.RowKit Go.Proofs.YtballojildjbhaaW.PrintWords Go.Proofs.YtballojildjbhaaW.PrintLast Go.Proofs.YtballojildjbhaaW.PrintMore Go.Proofs.Ytballojildjbhaa.F
set_option linter.unusedVariables false
set_option linter.unusedSimpArgs false

/-- Two shapers of the call's own, apart. -/
structure Two (w0 W : World) (O1 O2 : Nat → Nat) (s1 s2 : Nat) (t1 : Int) (ls1 : List Ls) (t2 : Int) (ls2 : List Ls) (m : Nat) : Prop where
  a : Sq w0 W O1 s1 t1 ls1 m
  b : Sq w0 W O2 s2 t2 ls2 m
  d : ∀ k, O1 k ≠ 0 → O2 k = 0
theorem Two.d2 {w0 W : World} {O1 O2 : Nat → Nat} {s1 s2 : Nat} {t1 : Int} {ls1 : List Ls} {t2 : Int} {ls2 : List Ls} {m : Nat} (h : Two w0 W O1 O2 s1 s2 t1 ls1 t2 ls2 m) : ∀ k, O2 k ≠ 0 → O1 k = 0 :=
  fun k hk => Classical.byContradiction fun hn => hk (h.d k hn)
theorem Two.below {w0 W W' : World} {O1 O2 : Nat → Nat} {s1 s2 : Nat} {t1 : Int} {ls1 : List Ls} {t2 : Int} {ls2 : List Ls} {m : Nat} (h : Two w0 W O1 O2 s1 s2 t1 ls1 t2 ls2 m) (hb : Below W.heap.size W W') : Two w0 W' O1 O2 s1 s2 t1 ls1 t2 ls2 m :=
  ⟨h.a.below hb, h.b.below hb, h.d⟩
theorem Sq.up {w0 W : World} {O : Nat → Nat} {s : Nat} {tick : Int} {ls : List Ls} {m : Nat} (h : Sq w0 W O s tick ls m) : Sq w0 W O s tick ls (m + 1) :=
  ⟨h.sh, h.new, h.bel, ⟨h.inv.ok, h.inv.len, by have := h.inv.cnt; omega, fun l hl => by have := h.inv.drops l hl; omega⟩, h.tu⟩

/-- An offer to both. -/
theorem Two.offer1 {w0 W : World} {O1 O2 : Nat → Nat} {s1 s2 : Nat} {t : Int} {ls : List Ls} {m : Nat} (h : Two w0 W O1 O2 s1 s2 t ls t ls m) (i : Int) (x : It) (A : Option Addr) (n c : Nat) (hx : x.data.length ≤ 65536) (hm : m < 65536)
    (hd : Dat W (fun k => k < w0.heap.size) A n x.data) :
    Calls Try.prog 11 #[.pointer (some ⟨s1, 0, none⟩), .int .i64 i, .agg #[.int .u64 x.no, .int .i64 x.size, .slice A n c]] W fun e w' => e = .returned (.int .i64 (offS ls i x).1) ∧ ∃ O1', Two w0 w' O1' O2 s1 s2 t (offS ls i x).2 t ls (m + 1) := by
  refine (offer_any w0 O1 s1 t ls m i x A n c W h.a hx hm (hd.step fun k hk hD => ⟨rfl, Classical.byContradiction fun hn => by have := h.a.new k hn; omega⟩)).mono ?_
  rintro e w' ⟨rfl, O1', ha, hg⟩
  obtain ⟨hb, hdis⟩ := h.b.other hg h.d h.a.new
  exact ⟨rfl, O1', ha, hb.up, hdis⟩
theorem Two.offer2 {w0 W : World} {O1 O2 : Nat → Nat} {s1 s2 : Nat} {t : Int} {ls ls2 : List Ls} {m : Nat} (h : Two w0 W O1 O2 s1 s2 t ls2 t ls (m + 1)) (hi : Inv m ls) (i : Int) (x : It) (A : Option Addr) (n c : Nat) (hx : x.data.length ≤ 65536) (hm : m < 65536)
    (hd : Dat W (fun k => k < w0.heap.size) A n x.data) :
    Calls Try.prog 11 #[.pointer (some ⟨s2, 0, none⟩), .int .i64 i, .agg #[.int .u64 x.no, .int .i64 x.size, .slice A n c]] W fun e w' => e = .returned (.int .i64 (offS ls i x).1) ∧ ∃ O2', Two w0 w' O1 O2' s1 s2 t ls2 t (offS ls i x).2 (m + 1) := by
  refine (offer_any w0 O2 s2 t ls m i x A n c W ⟨h.b.sh, h.b.new, h.b.bel, hi, h.b.tu⟩ hx hm (hd.step fun k hk hD => ⟨rfl, Classical.byContradiction fun hn => by have := h.b.new k hn; omega⟩)).mono ?_
  rintro e w' ⟨rfl, O2', hb, hg⟩
  obtain ⟨ha, hdis⟩ := h.a.other hg h.d2 h.b.new
  exact ⟨rfl, O2', ha, hb, fun k hk => Classical.byContradiction fun hn => hk (hdis k hn)⟩

/-- Offers, one behind the other. -/
def offs (ls : List Ls) : List Ac → List Ls
  | [] => ls
  | a :: r => offs (offS ls a.cls a.it).2 r
theorem offs_snoc {ls : List Ls} {l : List Ac} {a : Ac} : offs ls (l ++ [a]) = (offS (offs ls l) a.cls a.it).2 := by
  induction l generalizing ls with
  | nil => rfl
  | cons b r ih => exact ih
theorem offs_take {ls : List Ls} {l : List Ac} {k : Nat} {a : Ac} (h : l[k]? = some a) : offs ls (l.take (k + 1)) = (offS (offs ls (l.take k)) a.cls a.it).2 := by
  rw [List.take_add_one, h]
  exact offs_snoc

/-- Ticks released one by one: t of them from p on. -/
def ticksF (p : Int) (ls : List Ls) : Nat → List Ot × List Ls
  | 0 => ([], ls)
  | t + 1 => ((ticksF p ls t).1 ++ (relS (p + t) (p + t) (ticksF p ls t).2).1, (relS (p + t) (p + t) (ticksF p ls t).2).2)
/-- One by one is at once. -/
theorem ticksF_eq (p : Int) (ls : List Ls) : ∀ t : Nat, ticksF p ls (t + 1) = relS (p + t) p ls ∧ ((nextS (p + t) (relS (p + t) p ls).2).ok = false ∨ p + t < (nextS (p + t) (relS (p + t) p ls).2).at_)
  | 0 => by
    refine ⟨?_, relS_stop (by omega)⟩
    show ([] ++ (relS (p + (0 : Nat)) (p + (0 : Nat)) ls).1, (relS (p + (0 : Nat)) (p + (0 : Nat)) ls).2) = relS (p + (0 : Nat)) p ls
    rw [List.nil_append, show p + ((0 : Nat) : Int) = p by omega]
  | t + 1 => by
    obtain ⟨h1, h2⟩ := ticksF_eq p ls t
    refine ⟨?_, relS_stop (by omega)⟩
    rw [ticksF, h1]
    have h3 := relS_two (T1 := p + t) (T2 := p + ((t + 1 : Nat) : Int)) (t := p) (ls := ls) (by omega) (by omega)
    have h4 := relS_from (T := p + ((t + 1 : Nat) : Int)) (t := p + t) (ls := (relS (p + t) p ls).2) (by omega) (by rcases h2 with h | h; exact .inl h; exact .inr (by omega))
    rw [← h4]
    exact h3.symm
/-- What goes out at a tick that is the shaper's. -/
theorem relS_now {T : Int} {ls : List Ls} : (∀ o, o ∈ (relS T T ls).1 → o.at_ = T) ∧ Rise (relS T T ls).1 := by
  obtain ⟨t1, h1, _⟩ := relS_rel T T ls
  refine ⟨fun o ho => ?_, (h1.rise rfl).1⟩
  have := (h1.tick_le (Int.le_refl _)).2.2 o ho
  omega
theorem ticksF_inv {p : Int} {ls : List Ls} {m : Nat} (h : Inv m ls) (hp : 0 ≤ p) : ∀ t : Nat, p + t ≤ 18446744073709551615 → Inv m (ticksF p ls t).2 ∧ (ticksF p ls t).1.length + cnt (ticksF p ls t).2 = cnt ls
  | 0, _ => ⟨h, by simp [ticksF]⟩
  | t + 1, hb => by
    obtain ⟨h1, h2⟩ := ticksF_inv h hp t (by omega)
    obtain ⟨t', h3, _⟩ := relS_rel (p + t) (p + t) (ticksF p ls t).2
    have h4 := h3.inv h1 ⟨by omega, by omega⟩ (by omega)
    have h5 := h3.cnt
    refine ⟨h4.1, ?_⟩
    rw [ticksF, List.length_append]
    show (ticksF p ls t).1.length + (relS (p + t) (p + t) (ticksF p ls t).2).1.length + cnt (relS (p + t) (p + t) (ticksF p ls t).2).2 = cnt ls
    omega
end Go.Proofs.Ytballojildjbhaa.S
