/- ShaperNone: THE ROW: whatever the input: true; the arguments read behind the call as they read before. No condition. -/
import Derived.Test.YtballojildjbhaaRows
import Derived.Test.YtballojildjbhaaSO
import Derived.Test.YtballojildjbhaaOpens
import Derived.WalkKit
import Derived.ProofKit
import Derived.OpenShut
import Derived.ShutString
import Derived.ChangeOld
import Derived.Below
import Derived.SizedLaws
namespace Go.Proofs.Ytballojildjbhaa.shaperNone
open Go.ChangeShapes Go.WideShapes Go.ChangeAt Go.RowKit Go.Proofs.YtballojildjbhaaW.PrintWords
open Go.ChangeMaps (open_string shut_string)
open Go.Proofs.Ytballojildjbhaa.Opens
set_option linter.unusedVariables false
theorem own : ownKnob Try.prog.godebug = none := by kernel_rfl
theorem laidOut : laidOutB Try.prog = true := by kernel_rfl
set_option maxRecDepth 100000 in
theorem lifted (os : Os) (started : os.Started) (H : Type) (enc : TypeId × Value → H) :
    ReturnsInHanded {} Try.checked os 3 .any (Rows.shaperNoneSpec.pre6 enc Try.prog Try.f3 Rows.shaperNoneRow.domain false) (Rows.shaperNoneSpec.post enc Try.prog Try.f3 false true false false) := by
  refine returnsInHanded_of_change_sized (C := Try.checked) own started (by kernel_rfl) Try.func3
    (ChangeSpec.witness6 (enc := enc) (C := Try.checked) false ⟨#[], #[.agg #[.int .i64 0, .int .i64 0, .int .u64 0, .int .i64 0, .slice none 0 0, .int .u64 0]], []⟩ 8 (by kernel_rfl) (by kernel_rfl) (by kernel_rfl) (by kernel_rfl)) ?_
  intro W base args ds gs before hval0 hW hcnd hsz0 _
  have hval : ∀ (j : Nat) t v, Try.f3.params[j]? = some t → args[j]? = some v → Value.okWide Try.prog W .any base t v := hval0
  have hW' := hW
  obtain ⟨p, q, hA0, hV, rfl, hfz, hnd⟩ := hW
  have hA : DataW.TrodAll enc Try.prog W 0 (fun _ => true) true Try.f3.params.toList args.toList ds p := hA0
  rw [Try.params3] at hA hval
  obtain ⟨v0, vs0, d0, ds0, p0, q0, hargs, rfl, rfl, h0, r0⟩ := trodAll_cons hA
  obtain ⟨rfl, rfl, rfl⟩ := trodAll_nil r0
  obtain rfl : args = #[v0] := by cases args; simp_all
  obtain ⟨rfl, rfl⟩ := trodVars_none hV
  have k0 := h0
  have lt0 : ∀ x ∈ p0, x.block < W.heap.size := by obtain ⟨m, hm⟩ := k0; exact DataW.trod_lt m _ _ _ hm
  obtain ⟨cs0, rfl, -⟩ := okWide_struct Try.underlying27 (hval 0 27 v0 rfl rfl)
  obtain ⟨x0, o0, K0⟩ := Opens.arg (opens_struct4 (s0 := 1) (s1 := 1) (s2 := 3) (s3 := 1) Try.underlying27 rfl rfl rfl rfl (by kernel_rfl) (by kernel_rfl) (by kernel_rfl) (by kernel_rfl) (by kernel_rfl) (opens_int Try.underlying3) (opens_int Try.underlying3) (opens_struct3 (s0 := 1) (s1 := 1) (s2 := 1) Try.underlying25 rfl rfl rfl (by kernel_rfl) (by kernel_rfl) (by kernel_rfl) (by kernel_rfl) (opens_int Try.underlying22) (opens_int Try.underlying3) (opens_slice Try.underlying23 (by kernel_rfl) (opens_int Try.underlying5))) (opens_int Try.underlying22)) h0
  obtain ⟨l1_0, l2_0, e1_0, rfl, l3_0, l4_0, rfl, rfl, l5_0, l6_0, rfl, ⟨m1_0, m2_0, rfl, rfl, m3_0, m4_0, rfl, rfl, A0, c0, rfl, hc0, hC0⟩, rfl⟩ := K0
  obtain rfl : cs0 = #[.int .i64 x0.1, .int .i64 x0.2.1, .int .u64 x0.2.2.1.1, .int .i64 x0.2.2.1.2.1, .slice A0 x0.2.2.1.2.2.length c0, .int .u64 x0.2.2.2] := by
    apply Array.toList_inj.1
    simpa [Value.cells] using e1_0
  clear hA0 hval0 hsz0
  refine (S.none_row x0 A0 c0 W hC0 (fun i hi => o0.2.2.1.2.2.2 i hi)).mono fun e W' ⟨he, bel⟩ => ?_
  subst he
  exact ⟨_, rfl, _, _, _, [], _, [], hW', trodAll_mk1 (shut_bool Try.underlying4 _), (trodAll_cons_mk (Below.trod laidOut (by kernel_rfl) (of_decide_eq_true (by kernel_rfl)) k0 bel lt0) trodAll_mk0), rfl, bel.frame _, fun h => by cases h⟩
theorem over : Rows.shaperNoneRow.holds Try.pinned (OpenSpec.ofChange Rows.shaperNoneSpec) :=
  OpenClaim.holds_of_wide 3 Try.f3 rfl rfl rfl rfl rfl rfl rfl ⟨rfl, rfl, rfl, rfl, rfl⟩ rfl rfl rfl rfl rfl (by kernel_rfl) Try.func3 (by kernel_rfl)
    (of_decide_eq_true (by kernel_rfl)) (by unfold Func.isWrapper; first | (rw [if_pos (by decide +kernel)]; kernel_rfl) | (rw [if_neg (by decide +kernel)]; exact ⟨rfl, rfl⟩))
    (fun os started H enc _ => lifted os started H enc)
theorem proved : Rows.ShaperNoneSaid := over
#print axioms proved
end Go.Proofs.Ytballojildjbhaa.shaperNone
namespace Go.Proofs.Ytballojildjbhaa
/-- The row, under a short name, for the claim. -/
theorem shaperNone_holds : Rows.ShaperNoneSaid := shaperNone.proved
end Go.Proofs.Ytballojildjbhaa
