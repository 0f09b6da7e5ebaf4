/- The acts of octroilaw11 as an argument: how they read; conditions: as they stand. -/
import Derived.Test.YtdipihaefiobiaaQP
import Derived.Test.YtdipihaefiobiaaOpens
namespace Go.Proofs.Ytdipihaefiobiaa.F
open Go Go.RowKit Go.Proofs.YtdipihaefiobiaaW.PrintWords Go.Proofs.YtdipihaefiobiaaW.PrintLast Go.Proofs.YtdipihaefiobiaaW.PrintMore
set_option linter.unusedVariables false
set_option linter.unusedSimpArgs false

/-- The kind of an act. -/
abbrev kAct : Kd (Int × Int × Int × List Int) := Kd.pair (Kd.int .i64) (Kd.pair (Kd.int .u64) (Kd.pair (Kd.int .i64) (Kd.slice 5 (Kd.int .u8))))
def toByte (i : Int) : UInt8 := UInt8.ofNat i.toNat
def toAc (x : Int × Int × Int × List Int) : Ac := ⟨x.1, x.2.1, x.2.2.1, x.2.2.2.map toByte⟩
theorem byteV_toByte {i : Int} (h : 0 ≤ i ∧ i < 256) : byteV (toByte i) = .int .u8 i := by
  unfold byteV toByte
  have : (UInt8.ofNat i.toNat).toNat = i.toNat := by rw [UInt8.toNat_ofNat']; exact Nat.mod_eq_of_lt (by omega)
  rw [this]
  congr 1
  omega

theorem cell_lt {W : World} {a : Addr} {v : Value} (h : W.cell? a = some v) : a.block < W.heap.size := by
  obtain ⟨o, ho, _⟩ := cells_of_cell h
  exact blk_lt ho

theorem dat_of_C {W : World} {A : Option Addr} {l : List Int} (h : Kd.C (Kd.int .u8) W A l.length l) (hb : ∀ i, i ∈ l → 0 ≤ i ∧ i < 256) : Dat W (fun k => k < W.heap.size) A l.length (l.map toByte) := by
  refine ⟨by simp, fun hn => ?_⟩
  obtain ⟨_, _, h2⟩ := h
  obtain ⟨ad, rfl, hc⟩ := h2 hn
  have cell : ∀ j x, l[j]? = some x → W.cell? (ad.add j) = some (.int .u8 x) := by
    intro j x hx
    obtain ⟨c, _, hK, hcc⟩ := hc j x hx
    have hK' : c = [.int .u8 x] := hK
    subst hK'
    have := hcc 0 _ rfl
    rw [show (Kd.int .u8).sz = 1 from rfl, Nat.mul_one, Nat.add_zero] at this
    exact this
  refine ⟨ad, rfl, ?_, fun j x hx => ?_⟩
  · have := cell_lt (cell 0 l[0] (List.getElem?_eq_getElem (by omega)))
    rwa [ad_block] at this
  · rw [List.getElem?_map] at hx
    cases hj : l[j]? with
    | none => rw [hj] at hx; cases hx
    | some y =>
      rw [hj] at hx
      cases hx
      rw [byteV_toByte (hb y (List.mem_of_getElem? hj))]
      exact cell j y hj

theorem acts_of_C {W : World} {A : Option Addr} {xs : List (Int × Int × Int × List Int)} (h : Kd.C kAct W A xs.length xs) (hb : ∀ x, x ∈ xs → ∀ i, i ∈ x.2.2.2 → 0 ≤ i ∧ i < 256) : Acts W W.heap.size A xs.length (xs.map toAc) := by
  refine ⟨by simp, fun hn => ?_⟩
  obtain ⟨_, _, h2⟩ := h
  obtain ⟨ad, rfl, hc⟩ := h2 hn
  have key : ∀ i x, xs[i]? = some x → AcAt W W.heap.size (ad.add (i * 4)) (toAc x) := by
    intro i x hx
    obtain ⟨c, _, hK, hcc⟩ := hc i x hx
    obtain ⟨a0, a1, rfl, rfl, b0, b1, rfl, rfl, c0, c1, rfl, rfl, A', n', rfl, hl, hC⟩ := hK
    have cc : ∀ j u, ([.int .i64 x.1, .int .u64 x.2.1, .int .i64 x.2.2.1, .slice A' x.2.2.2.length n'] : List Value)[j]? = some u → W.cell? (ad.add (i * 4 + j)) = some u := fun j u hu => hcc j u (by simpa using hu)
    have e : ∀ j, 0 < j → ad.add (i * 4 + j) = ⟨(ad.add (i * 4)).block, (ad.add (i * 4)).off + j, none⟩ := by
      intro j hj
      rw [← Go.Deep.add_add]
      show (if j = 0 then _ else _) = _
      rw [if_neg (by omega)]
    refine ⟨A', x.2.2.2.length, n', ?_, ?_, ?_, ?_, dat_of_C hC (hb x (List.mem_of_getElem? hx))⟩
    · have := cc 0 _ rfl; rwa [Nat.add_zero] at this
    · have := cc 1 _ rfl; rwa [e 1 (by omega)] at this
    · have := cc 2 _ rfl; rwa [e 2 (by omega)] at this
    · have := cc 3 _ rfl; rwa [e 3 (by omega)] at this
  refine ⟨ad, rfl, ?_, fun i a ha => ?_⟩
  · obtain ⟨_, _, _, hc0, _⟩ := key 0 xs[0] (List.getElem?_eq_getElem (by omega))
    have := cell_lt hc0
    rwa [ad_block] at this
  · rw [List.getElem?_map] at ha
    cases hj : xs[i]? with
    | none => rw [hj] at ha; cases ha
    | some y =>
      rw [hj] at ha
      cases ha
      exact key i y hj

theorem byte_wf {i : Int} (h : (Lit.int .u8 i).wf = true) : 0 ≤ i ∧ i < 256 := by
  simp only [Lit.wf, Bool.and_eq_true, decide_eq_true_eq] at h
  have h1 : (IntKind.u8.min) = 0 := by decide
  have h2 : (IntKind.u8.max) = 255 := by decide
  omega
theorem order_row (i0 s0 : Int) (A : Option Addr) (c : Nat) (xs : List (Int × Int × Int × List Int)) (W : World) (hC : Kd.C kAct W A xs.length xs) (hc : xs.length ≤ maxLen)
    (ho : ∀ x, x ∈ xs → ∀ i, i ∈ x.2.2.2 → (Lit.int .u8 i).wf = true) :
    Calls Try.prog 4 #[.int .i64 i0, .int .i64 s0, .slice A xs.length c] W fun e w' => e = .returned (.bool true) ∧ Below W.heap.size W w' :=
  order_any i0 s0 A xs.length c (xs.map toAc) W (acts_of_C hC fun x hx i hi => byte_wf (ho x hx i hi)) hc
end Go.Proofs.Ytdipihaefiobiaa.F
