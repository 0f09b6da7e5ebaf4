/- ShaperEarly: the row's form. -/
import Derived.Test.YtballojildjbhaaSS
namespace Go.Proofs.Ytballojildjbhaa.S
open Go Go.RowKit Go.Proofs.YtballojildjbhaaW.PrintWords Go.Proofs.YtballojildjbhaaW.PrintLast Go.Proofs.YtballojildjbhaaW.PrintMore Go.Proofs.Ytballojildjbhaa.F

theorem clWf_of {xs : List (Int × Int × Int × Int)} (h : ∀ x, x ∈ xs → (Lit.int .u64 x.1).wf = true ∧ (Lit.int .u64 x.2.1).wf = true ∧ (Lit.int .i64 x.2.2.1).wf = true ∧ (Lit.int .i64 x.2.2.2).wf = true) : ClWf (xs.map toCl) := by
  intro y hy
  obtain ⟨x, hx, rfl⟩ := List.mem_map.1 hy
  obtain ⟨h1, h2, _, h4⟩ := h x hx
  exact ⟨u64_wf h1, u64_wf h2, (i64_wf h4).2⟩

theorem early_row (A : Option Addr) (c : Nat) (xs : List (Int × Int × Int × Int)) (A2 : Option Addr) (c2 : Nat) (ys : List (Int × Int × (Int × Int × List Int) × Int)) (t : Int) (W : World) (hC : Kd.C kCl W A xs.length xs) (hc : xs.length ≤ maxLen)
    (ho : ∀ x, x ∈ xs → (Lit.int .u64 x.1).wf = true ∧ (Lit.int .u64 x.2.1).wf = true ∧ (Lit.int .i64 x.2.2.1).wf = true ∧ (Lit.int .i64 x.2.2.2).wf = true)
    (hC2 : Kd.C kAct W A2 ys.length ys) (hc2 : ys.length ≤ maxLen) (hb : ∀ x, x ∈ ys → ∀ i, i ∈ x.2.2.1.2.2 → (Lit.int .u8 i).wf = true) (ht : (Lit.int .u8 t).wf = true) :
    Calls Try.prog 5 #[.slice A xs.length c, .slice A2 ys.length c2, .int .u8 t] W fun e w' => e = .returned (.bool true) ∧ Below W.heap.size W w' := by
  have h8 := byte_wf ht
  exact early_any A xs.length c _ A2 ys.length c2 _ t W (cls_of_C hC) (clWf_of ho) (acts_of_C hC2 fun x hx i hi => byte_wf (hb x hx i hi)) hc hc2 h8.1 (by omega)
end Go.Proofs.Ytballojildjbhaa.S
