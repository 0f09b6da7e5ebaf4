/- How an argument that reads as data reads by the print's kinds: whole numbers, Bools, strings, structs of one to four fields, slices of any of them. -/
import Derived.Test.YtballojildjbhaaWWords
import Derived.ProofKit
import Derived.Deep.Slices
namespace Go.Proofs.Ytballojildjbhaa.Opens
open Go.RowKit Go.ChangeShapes Go.WideShapes Go.ChangeAt Go.Proofs.YtballojildjbhaaW.PrintWords

/-- What reads as data of type T reads by the kind d, and is ok. -/
def Opens {α : Type} (P : Program) (T : TypeId) (d : Kd α) (ok : α → Prop) : Prop :=
  ∀ (H : Type) (enc : TypeId × Value → H) (w : World) (base : Nat) (spare : Nat → Bool) (held : Bool) (fuel : Nat) (cs : List Value) (x : DataW H × List MemPlace),
    DataW.trod enc P w base spare held fuel T cs = some x → ∃ v, ok v ∧ d.K w v cs

theorem opens_int {P : Program} {T : TypeId} {k : IntKind} (h : P.underlying T = some (.int k)) : Opens P T (Kd.int k) (fun n => (Lit.int k n).wf = true) := by
  intro H enc w base spare held fuel cs x ht
  obtain ⟨n, rfl, _, hw⟩ := DataW.trod_int h ht
  exact ⟨n, hw, rfl⟩
theorem opens_bool {P : Program} {T : TypeId} (h : P.underlying T = some .bool) : Opens P T Kd.bool (fun _ => True) := by
  intro H enc w base spare held fuel cs x ht
  obtain ⟨b, rfl, _⟩ := DataW.trod_bool h ht
  exact ⟨b, trivial, rfl⟩
theorem opens_string {P : Program} {T : TypeId} (h : P.underlying T = some .string) : Opens P T Kd.string (fun s => s.size ≤ maxLen) := by
  intro H enc w base spare held fuel cs x ht
  obtain ⟨s, rfl, _, hs⟩ := DataW.trod_string h ht
  exact ⟨s, hs, rfl⟩

theorem opens_iso {α β : Type} {P : Program} {T : TypeId} {d : Kd β} {ok : β → Prop} (f : α → β) (g : β → α) (hfg : ∀ b, f (g b) = b) (h : Opens P T d ok) : Opens P T (Kd.iso d f) (fun a => ok (f a)) := by
  intro H enc w base spare held fuel cs x ht
  obtain ⟨v, hv, hK⟩ := h H enc w base spare held fuel cs x ht
  exact ⟨g v, by show ok (f (g v)); rw [hfg]; exact hv, by show d.K w (f (g v)) cs; rw [hfg]; exact hK⟩

theorem cut2 (cs : List Value) (n : Nat) : cs = cs.take n ++ cs.drop n := (List.take_append_drop n cs).symm

theorem opens_struct1 {α : Type} {P : Program} {T : TypeId} {f0 : Field} {d0 : Kd α} {ok0 : α → Prop} (h : P.underlying T = some (.struct #[f0])) (o0 : f0.offset = 0) (c0 : P.cellsOf f0.type = P.cellsOf T)
    (h0 : Opens P f0.type d0 ok0) : Opens P T d0 ok0 := by
  intro H enc w base spare held fuel cs x ht
  obtain ⟨xs, n, _, _, hl, hs, hf⟩ := DataW.trod_struct h ht
  have e0 := hf 0 f0 rfl
  rw [o0, List.drop_zero, c0, List.take_of_length_le (by omega)] at e0
  match xs, hs with
  | [y0], _ => exact h0 H enc w base spare held n cs y0 e0

theorem opens_struct2 {α β : Type} {P : Program} {T : TypeId} {f0 f1 : Field} {d0 : Kd α} {d1 : Kd β} {ok0 : α → Prop} {ok1 : β → Prop} {s0 s1 : Nat} (h : P.underlying T = some (.struct #[f0, f1])) (o0 : f0.offset = 0) (o1 : f1.offset = s0)
    (c0 : P.cellsOf f0.type = s0) (c1 : P.cellsOf f1.type = s1) (cT : P.cellsOf T = s0 + s1)
    (h0 : Opens P f0.type d0 ok0) (h1 : Opens P f1.type d1 ok1) : Opens P T (Kd.pair d0 d1) (fun v => ok0 v.1 ∧ ok1 v.2) := by
  intro H enc w base spare held fuel cs x ht
  obtain ⟨xs, n, _, _, hl, hs, hf⟩ := DataW.trod_struct h ht
  have e0 := hf 0 f0 rfl
  have e1 := hf 1 f1 rfl
  rw [o0, List.drop_zero, c0] at e0
  rw [o1, c1, List.take_of_length_le (by simp; omega)] at e1
  match xs, hs with
  | [y0, y1], _ =>
    obtain ⟨v0, k0, K0⟩ := h0 H enc w base spare held n _ y0 e0
    obtain ⟨v1, k1, K1⟩ := h1 H enc w base spare held n _ y1 e1
    exact ⟨(v0, v1), ⟨k0, k1⟩, _, _, cut2 cs s0, K0, K1⟩

theorem opens_struct3 {α β γ : Type} {P : Program} {T : TypeId} {f0 f1 f2 : Field} {d0 : Kd α} {d1 : Kd β} {d2 : Kd γ} {ok0 : α → Prop} {ok1 : β → Prop} {ok2 : γ → Prop} {s0 s1 s2 : Nat} (h : P.underlying T = some (.struct #[f0, f1, f2])) (o0 : f0.offset = 0) (o1 : f1.offset = s0) (o2 : f2.offset = s0 + s1)
    (c0 : P.cellsOf f0.type = s0) (c1 : P.cellsOf f1.type = s1) (c2 : P.cellsOf f2.type = s2) (cT : P.cellsOf T = s0 + s1 + s2)
    (h0 : Opens P f0.type d0 ok0) (h1 : Opens P f1.type d1 ok1) (h2 : Opens P f2.type d2 ok2) : Opens P T (Kd.pair d0 (Kd.pair d1 d2)) (fun v => ok0 v.1 ∧ ok1 v.2.1 ∧ ok2 v.2.2) := by
  intro H enc w base spare held fuel cs x ht
  obtain ⟨xs, n, _, _, hl, hs, hf⟩ := DataW.trod_struct h ht
  have e0 := hf 0 f0 rfl
  have e1 := hf 1 f1 rfl
  have e2 := hf 2 f2 rfl
  rw [o0, List.drop_zero, c0] at e0
  rw [o1, c1] at e1
  rw [o2, c2, ← List.drop_drop, List.take_of_length_le (by simp; omega)] at e2
  match xs, hs with
  | [y0, y1, y2], _ =>
    obtain ⟨v0, k0, K0⟩ := h0 H enc w base spare held n _ y0 e0
    obtain ⟨v1, k1, K1⟩ := h1 H enc w base spare held n _ y1 e1
    obtain ⟨v2, k2, K2⟩ := h2 H enc w base spare held n _ y2 e2
    exact ⟨(v0, v1, v2), ⟨k0, k1, k2⟩, _, _, cut2 cs s0, K0, _, _, cut2 _ s1, K1, K2⟩

theorem opens_struct4 {α β γ δ : Type} {P : Program} {T : TypeId} {f0 f1 f2 f3 : Field} {d0 : Kd α} {d1 : Kd β} {d2 : Kd γ} {d3 : Kd δ} {ok0 : α → Prop} {ok1 : β → Prop} {ok2 : γ → Prop} {ok3 : δ → Prop} {s0 s1 s2 s3 : Nat} (h : P.underlying T = some (.struct #[f0, f1, f2, f3])) (o0 : f0.offset = 0) (o1 : f1.offset = s0) (o2 : f2.offset = s0 + s1) (o3 : f3.offset = s0 + s1 + s2)
    (c0 : P.cellsOf f0.type = s0) (c1 : P.cellsOf f1.type = s1) (c2 : P.cellsOf f2.type = s2) (c3 : P.cellsOf f3.type = s3) (cT : P.cellsOf T = s0 + s1 + s2 + s3)
    (h0 : Opens P f0.type d0 ok0) (h1 : Opens P f1.type d1 ok1) (h2 : Opens P f2.type d2 ok2) (h3 : Opens P f3.type d3 ok3) : Opens P T (Kd.pair d0 (Kd.pair d1 (Kd.pair d2 d3))) (fun v => ok0 v.1 ∧ ok1 v.2.1 ∧ ok2 v.2.2.1 ∧ ok3 v.2.2.2) := by
  intro H enc w base spare held fuel cs x ht
  obtain ⟨xs, n, _, _, hl, hs, hf⟩ := DataW.trod_struct h ht
  have e0 := hf 0 f0 rfl
  have e1 := hf 1 f1 rfl
  have e2 := hf 2 f2 rfl
  have e3 := hf 3 f3 rfl
  rw [o0, List.drop_zero, c0] at e0
  rw [o1, c1] at e1
  rw [o2, c2, ← List.drop_drop] at e2
  rw [o3, c3, ← List.drop_drop, ← List.drop_drop, List.take_of_length_le (by simp; omega)] at e3
  match xs, hs with
  | [y0, y1, y2, y3], _ =>
    obtain ⟨v0, k0, K0⟩ := h0 H enc w base spare held n _ y0 e0
    obtain ⟨v1, k1, K1⟩ := h1 H enc w base spare held n _ y1 e1
    obtain ⟨v2, k2, K2⟩ := h2 H enc w base spare held n _ y2 e2
    obtain ⟨v3, k3, K3⟩ := h3 H enc w base spare held n _ y3 e3
    exact ⟨(v0, v1, v2, v3), ⟨k0, k1, k2, k3⟩, _, _, cut2 cs s0, K0, _, _, cut2 _ s1, K1, _, _, cut2 _ s2, K2, K3⟩

theorem list_of {α : Type} {n : Nat} {p : Nat → α → Prop} (h : ∀ i, i < n → ∃ x, p i x) : ∃ xs : List α, xs.length = n ∧ ∀ i x, xs[i]? = some x → p i x := by
  induction n with
  | zero => exact ⟨[], rfl, fun i x hx => by simp at hx⟩
  | succ n ih =>
    obtain ⟨xs, hl, hx⟩ := ih (fun i hi => h i (by omega))
    obtain ⟨y, hy⟩ := h n (by omega)
    refine ⟨xs ++ [y], by simp [hl], fun i x hxi => ?_⟩
    by_cases e : i < n
    · rw [List.getElem?_append_left (by omega)] at hxi; exact hx i x hxi
    · by_cases e2 : i = n
      · subst e2
        rw [List.getElem?_append_right (by omega)] at hxi
        simp [hl] at hxi
        subst hxi; exact hy
      · rw [List.getElem?_eq_none (by simp; omega)] at hxi; cases hxi

theorem opens_slice {α : Type} {P : Program} {T e : TypeId} {d : Kd α} {ok : α → Prop} (h : P.underlying T = some (.slice e)) (hc : P.cellsOf e = d.sz) (he : Opens P e d ok) :
    Opens P T (Kd.slice e d) (fun xs => xs.length ≤ maxLen ∧ ∀ x ∈ xs, ok x) := by
  intro H enc w base spare held fuel cs x ht
  rcases Deep.open_slice h ht with ⟨rfl, _⟩ | ⟨a, len, cap, m, n, D, Pl, rfl, _, hl, hm, hmm, _, hel⟩
  · exact ⟨[], ⟨Nat.zero_le _, fun x hx => by simp at hx⟩, none, 0, rfl, Nat.le_refl _, rfl, Nat.zero_le _, fun h => absurd h (Nat.lt_irrefl 0)⟩
  · have hlm : len ≤ m := by rw [hmm]; split <;> omega
    obtain ⟨xs, hxl, hxs⟩ := list_of (n := len) (p := fun i v => ok v ∧ ∃ cs', w.cells? base (a.add (i * P.cellsOf e)) (P.cellsOf e) = some cs' ∧ d.K w v cs') (fun i hi => by
      obtain ⟨cs', h1, h2⟩ := hel i (by omega)
      obtain ⟨v, hv, hK⟩ := he H enc w base spare held n cs' _ h2
      exact ⟨v, hv, cs', h1, hK⟩)
    refine ⟨xs, ⟨by omega, fun x hx => ?_⟩, some a, cap, by rw [hxl], by omega, by rw [hxl], by unfold maxLen at hm; omega, fun _ => ⟨a, rfl, fun j p hp => ?_⟩⟩
    · obtain ⟨i, hi⟩ := List.mem_iff_getElem?.1 hx
      exact (hxs i x hi).1
    · obtain ⟨_, cs', h1, hK⟩ := hxs j p hp
      obtain ⟨_, hlen, hcell⟩ := World.cells?_some h1
      refine ⟨cs', by rw [hlen, hc], hK, fun i u hu => ?_⟩
      have hi : i < P.cellsOf e := by rw [← hlen]; exact (List.getElem?_eq_some_iff.1 hu).1
      have := hcell i hi
      rw [Deep.add_add, hc] at this
      rw [this]; exact hu

/-- A whole argument. -/
theorem Opens.arg {α : Type} {P : Program} {T : TypeId} {d : Kd α} {ok : α → Prop} (ho : Opens P T d ok) {H : Type} {enc : TypeId × Value → H} {w : World} {base : Nat} {spare : Nat → Bool} {held : Bool} {v : Value} {y : DataW H} {ps : List MemPlace}
    (h : DataW.Trod enc P w base spare held T v y ps) : ∃ x, ok x ∧ d.K w x v.cells.toList := by
  obtain ⟨fuel, hf⟩ := h
  exact ho H enc w base spare held fuel _ _ hf
end Go.Proofs.Ytballojildjbhaa.Opens
