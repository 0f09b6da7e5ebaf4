/- ShaperBounds: THE ROW: whatever the input: true; the arguments read behind the call as they read before. No condition. -/
import Derived.Test.YtballojildjbhaaRows
import Derived.Test.YtballojildjbhaaTE
import Derived.Test.YtballojildjbhaaOpens
import Derived.WalkKit
import Derived.ProofKit
import Derived.OpenShut
import Derived.ShutString
import Derived.ChangeOld
import Derived.Below
import Derived.SizedLaws
namespace Go.Proofs.Ytballojildjbhaa.S
open Go Go.RowKit Go.Proofs.YtballojildjbhaaW.PrintWords Go.Proofs.YtballojildjbhaaW.PrintLast Go.Proofs.YtballojildjbhaaW.PrintMore Go.Proofs.Ytballojildjbhaa.F

theorem clWf_row {xs : List (Int × Int × Int × Int)} (h : ∀ x, x ∈ xs → (Lit.int .u64 x.1).wf = true ∧ (Lit.int .u64 x.2.1).wf = true ∧ (Lit.int .i64 x.2.2.1).wf = true ∧ (Lit.int .i64 x.2.2.2).wf = true) : ClWf (xs.map toCl) := by
  intro y hy
  obtain ⟨x, hx, rfl⟩ := List.mem_map.1 hy
  obtain ⟨h1, h2, _, h4⟩ := h x hx
  exact ⟨u64_wf h1, u64_wf h2, (i64_wf h4).2⟩

theorem bounds_row (A : Option Addr) (c : Nat) (xs : List (Int × Int × Int × Int)) (A2 : Option Addr) (c2 : Nat) (ys : List (Int × Int × (Int × Int × List Int) × Int)) (W : World) (hC : Kd.C kCl W A xs.length xs) (hc : xs.length ≤ maxLen)
    (ho : ∀ x, x ∈ xs → (Lit.int .u64 x.1).wf = true ∧ (Lit.int .u64 x.2.1).wf = true ∧ (Lit.int .i64 x.2.2.1).wf = true ∧ (Lit.int .i64 x.2.2.2).wf = true)
    (hC2 : Kd.C kAct W A2 ys.length ys) (hc2 : ys.length ≤ maxLen) (hb : ∀ x, x ∈ ys → (∀ i, i ∈ x.2.2.1.2.2 → (Lit.int .u8 i).wf = true) ∧ (Lit.int .u64 x.2.2.2).wf = true) :
    Calls Try.prog 6 #[.slice A xs.length c, .slice A2 ys.length c2] W fun e w' => e = .returned (.bool true) ∧ Below W.heap.size W w' := by
  refine bounds_any A xs.length c _ A2 ys.length c2 _ W (cls_of_C hC) (clWf_row ho) (acts_of_C hC2 fun x hx i hi => byte_wf ((hb x hx).1 i hi)) (fun a ha => ?_) hc hc2
  obtain ⟨x, hx, rfl⟩ := List.mem_map.1 ha
  exact u64_wf (hb x hx).2
end Go.Proofs.Ytballojildjbhaa.S
namespace Go.Proofs.Ytballojildjbhaa.shaperBounds
open Go.ChangeShapes Go.WideShapes Go.ChangeAt Go.RowKit Go.Proofs.YtballojildjbhaaW.PrintWords
open Go.ChangeMaps (open_string shut_string)
open Go.Proofs.Ytballojildjbhaa.Opens
set_option linter.unusedVariables false
theorem own : ownKnob Try.prog.godebug = none := by kernel_rfl
theorem laidOut : laidOutB Try.prog = true := by kernel_rfl
set_option maxRecDepth 100000 in
theorem lifted (os : Os) (started : os.Started) (H : Type) (enc : TypeId × Value → H) :
    ReturnsInHanded {} Try.checked os 6 .any (Rows.shaperBoundsSpec.pre6 enc Try.prog Try.f6 Rows.shaperBoundsRow.domain false) (Rows.shaperBoundsSpec.post enc Try.prog Try.f6 false true false false) := by
  refine returnsInHanded_of_change_sized (C := Try.checked) own started (by kernel_rfl) Try.func6
    (ChangeSpec.witness6 (enc := enc) (C := Try.checked) false ⟨#[], #[.slice none 0 0, .slice none 0 0], []⟩ 8 (by kernel_rfl) (by kernel_rfl) (by kernel_rfl) (by kernel_rfl)) ?_
  intro W base args ds gs before hval0 hW hcnd hsz0 _
  have hval : ∀ (j : Nat) t v, Try.f6.params[j]? = some t → args[j]? = some v → Value.okWide Try.prog W .any base t v := hval0
  have hW' := hW
  obtain ⟨p, q, hA0, hV, rfl, hfz, hnd⟩ := hW
  have hA : DataW.TrodAll enc Try.prog W 0 (fun _ => true) true Try.f6.params.toList args.toList ds p := hA0
  rw [Try.params6] at hA hval
  obtain ⟨v0, vs0, d0, ds0, p0, q0, hargs, rfl, rfl, h0, r0⟩ := trodAll_cons hA
  obtain ⟨v1, vs1, d1, ds1, p1, q1, rfl, rfl, rfl, h1, r1⟩ := trodAll_cons r0
  obtain ⟨rfl, rfl, rfl⟩ := trodAll_nil r1
  obtain rfl : args = #[v0, v1] := by cases args; simp_all
  obtain ⟨rfl, rfl⟩ := trodVars_none hV
  have k0 := h0
  have lt0 : ∀ x ∈ p0, x.block < W.heap.size := by obtain ⟨m, hm⟩ := k0; exact DataW.trod_lt m _ _ _ hm
  obtain ⟨a0, len0, cap0, rfl⟩ := okWide_slice Try.underlying46 (hval 0 46 v0 rfl rfl)
  obtain ⟨x0, o0, A0, c0, e0, hc0, hC0⟩ := Opens.arg (opens_slice (d := S.kCl) Try.underlying46 (by kernel_rfl) (opens_struct4 (s0 := 1) (s1 := 1) (s2 := 1) (s3 := 1) Try.underlying48 rfl rfl rfl rfl (by kernel_rfl) (by kernel_rfl) (by kernel_rfl) (by kernel_rfl) (by kernel_rfl) (opens_int Try.underlying22) (opens_int Try.underlying22) (opens_int Try.underlying3) (opens_int Try.underlying3))) h0
  obtain ⟨rfl, rfl, rfl⟩ : a0 = A0 ∧ len0 = x0.length ∧ cap0 = c0 := by simpa [Value.cells] using e0
  have k1 := h1
  have lt1 : ∀ x ∈ p1, x.block < W.heap.size := by obtain ⟨m, hm⟩ := k1; exact DataW.trod_lt m _ _ _ hm
  obtain ⟨a1, len1, cap1, rfl⟩ := okWide_slice Try.underlying29 (hval 1 29 v1 rfl rfl)
  obtain ⟨x1, o1, A1, c1, e1, hc1, hC1⟩ := Opens.arg (opens_slice (d := S.kAct) Try.underlying29 (by kernel_rfl) (opens_struct4 (s0 := 1) (s1 := 1) (s2 := 3) (s3 := 1) Try.underlying27 rfl rfl rfl rfl (by kernel_rfl) (by kernel_rfl) (by kernel_rfl) (by kernel_rfl) (by kernel_rfl) (opens_int Try.underlying3) (opens_int Try.underlying3) (opens_struct3 (s0 := 1) (s1 := 1) (s2 := 1) Try.underlying25 rfl rfl rfl (by kernel_rfl) (by kernel_rfl) (by kernel_rfl) (by kernel_rfl) (opens_int Try.underlying22) (opens_int Try.underlying3) (opens_slice Try.underlying23 (by kernel_rfl) (opens_int Try.underlying5))) (opens_int Try.underlying22))) h1
  obtain ⟨rfl, rfl, rfl⟩ : a1 = A1 ∧ len1 = x1.length ∧ cap1 = c1 := by simpa [Value.cells] using e1
  clear hA0 hval0 hsz0
  refine (S.bounds_row a0 cap0 x0 a1 cap1 x1 W hC0 o0.1 (fun x hx => o0.2 x hx) hC1 o1.1 (fun x hx => ⟨(o1.2 x hx).2.2.1.2.2.2, (o1.2 x hx).2.2.2⟩)).mono fun e W' ⟨he, bel⟩ => ?_
  subst he
  exact ⟨_, rfl, _, _, _, [], _, [], hW', trodAll_mk1 (shut_bool Try.underlying4 _), (trodAll_cons_mk (Below.trod laidOut (by kernel_rfl) (of_decide_eq_true (by kernel_rfl)) k0 bel lt0) (trodAll_cons_mk (Below.trod laidOut (by kernel_rfl) (of_decide_eq_true (by kernel_rfl)) k1 bel lt1) trodAll_mk0)), rfl, bel.frame _, fun h => by cases h⟩
theorem over : Rows.shaperBoundsRow.holds Try.pinned (OpenSpec.ofChange Rows.shaperBoundsSpec) :=
  OpenClaim.holds_of_wide 6 Try.f6 rfl rfl rfl rfl rfl rfl rfl ⟨rfl, rfl, rfl, rfl, rfl⟩ rfl rfl rfl rfl rfl (by kernel_rfl) Try.func6 (by kernel_rfl)
    (of_decide_eq_true (by kernel_rfl)) (by unfold Func.isWrapper; first | (rw [if_pos (by decide +kernel)]; kernel_rfl) | (rw [if_neg (by decide +kernel)]; exact ⟨rfl, rfl⟩))
    (fun os started H enc _ => lifted os started H enc)
theorem proved : Rows.ShaperBoundsSaid := over
#print axioms proved
end Go.Proofs.Ytballojildjbhaa.shaperBounds
namespace Go.Proofs.Ytballojildjbhaa
/-- The row, under a short name, for the claim. -/
theorem shaperBounds_holds : Rows.ShaperBoundsSaid := shaperBounds.proved
end Go.Proofs.Ytballojildjbhaa
