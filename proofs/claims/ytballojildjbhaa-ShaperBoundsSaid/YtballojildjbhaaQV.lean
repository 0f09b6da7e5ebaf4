/- octroilaw11.item: an item as the reference has it; what of two equal ones '!=' answers; conditions: its bytes lie in memory. -/
import Derived.Test.YtballojildjbhaaQU
import Derived.Test.YtballojildjbhaaWEqStruct
import Derived.Lib.BufferRead
namespace Go.Proofs.Ytballojildjbhaa.F
open Go Go.RowKit Go.Proofs.YtballojildjbhaaW.PrintWords Go.Proofs.YtballojildjbhaaW.PrintLast Go.Proofs.YtballojildjbhaaW.PrintMore
set_option linter.unusedVariables false
set_option linter.unusedSimpArgs false

theorem conv_dat {W : World} {D : Nat → Prop} {A : Option Addr} {n c : Nat} {l : List UInt8} (h : Dat W D A n l) : (convert 23 9 (.slice A n c)).run Try.prog W = .ok (.string (strOf l)) W := by
  obtain ⟨rfl, h2⟩ := h
  cases A with
  | none =>
    have hl : l.length = 0 := by
      rcases Nat.eq_zero_or_pos l.length with h | h
      · exact h
      · obtain ⟨ad, e, _⟩ := h2 h; cases e
    have : l = [] := List.eq_nil_of_length_eq_zero hl
    subst this
    exact Lib.run_convert_nil_bytes W 23 9 5 c Try.underlying23 Try.underlying5 Try.underlying9
  | some ad =>
    refine run_convert_bytes_back W 23 9 5 ad c l Try.underlying23 Try.underlying5 Try.underlying9 fun j hj => ?_
    obtain ⟨ad', e, _, hc⟩ := h2 (by omega)
    cases e
    exact hc j l[j] (List.getElem?_eq_getElem hj)

/-- A reference's item, as a value. -/
abbrev riV (x : It) : Value := .agg #[.int .u64 x.no, .int .i64 x.size, .string (strOf x.data)]

set_option maxHeartbeats 400000 in
theorem item_any (D : Nat → Prop) (A : Option Addr) (n c : Nat) (x : It) (w : World) (h : Dat w D A n x.data) :
    Calls Try.prog 18 #[.agg #[.int .u64 x.no, .int .i64 x.size, .slice A n c]] w fun e w' => e = .returned (riV x) ∧ Below w.heap.size w w' := by
  have hcv := conv_dat (c := c) (h.below (below_alloc (below_alloc (Below.refl _ w) (.cells #[.int .u64 x.no, .int .i64 x.size, .slice A n c] 25)) (.cells #[.int .u64 0, .int .i64 0, .string ⟨#[]⟩] 57)))
  have HD := Aside0.mk h
  clear h
  go_enter Try.func18, Try.ntmps18
  go_wp2
  exact bodyPost_ret (v := riV x) (by simp [results, Try.results18, go_sem]) rfl ⟨rfl, below_alloc (below_alloc (Below.refl _ _) _) _⟩

theorem eq_item (d : Nat) (w : World) (x0 y0 : Int) (x1 y1 : Int) (x2 y2 : ByteArray) :
    (Op.equalIn (d + 2) 57 (.agg #[.int .u64 x0, .int .i64 x1, .string x2]) (.agg #[.int .u64 y0, .int .i64 y1, .string y2])).run Try.prog w = .ok (x0 == y0 && (x1 == y1 && (x2.toList == y2.toList))) w := by
  refine eqA_of Try.underlying57 (by kernel_rfl) ?_
  refine eqf_cons (by rfl) (by go_simp; rfl) (by go_simp; rfl) (by go_simp) ?_
  refine eqf_cons (by rfl) (by go_simp; rfl) (by go_simp; rfl) (by go_simp) ?_
  exact eqf_last (by rfl) (by go_simp; rfl) (by go_simp; rfl) (by go_simp)
theorem neq_same (x : It) (w : World) : (binOp .neq 57 (riV x) (riV x)).run Try.prog w = .ok (.bool false) w := by
  have := eq_item 9998 w x.no x.no x.size x.size (strOf x.data) (strOf x.data)
  simp only [beq_self_eq_true, Bool.and_self] at this
  simp [binOp, Op.equal, Op.maxDepth, this]
theorem eql_same (x : It) (w : World) : (binOp .eql 57 (riV x) (riV x)).run Try.prog w = .ok (.bool true) w := by
  have := eq_item 9998 w x.no x.no x.size x.size (strOf x.data) (strOf x.data)
  simp only [beq_self_eq_true, Bool.and_self] at this
  simp [binOp, Op.equal, Op.maxDepth, this]
end Go.Proofs.Ytballojildjbhaa.F
