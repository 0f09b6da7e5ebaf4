/- The acts and classes of octroilaw12 as arguments: how they read; conditions: as they stand. -/
import Derived.Test.YtballojildjbhaaSN
import Derived.Test.YtballojildjbhaaOpens
namespace Go.Proofs.Ytballojildjbhaa.S
open Go Go.RowKit Go.Proofs.YtballojildjbhaaW.PrintWords Go.Proofs.YtballojildjbhaaW.PrintLast Go.Proofs.YtballojildjbhaaW.PrintMore Go.Proofs.Ytballojildjbhaa.F
set_option linter.unusedVariables false
set_option linter.unusedSimpArgs false

/-- The kinds of an item, an act, a class. -/
abbrev kItem : Kd (Int × Int × List Int) := Kd.pair (Kd.int .u64) (Kd.pair (Kd.int .i64) (Kd.slice 5 (Kd.int .u8)))
abbrev kAct : Kd (Int × Int × (Int × Int × List Int) × Int) := Kd.pair (Kd.int .i64) (Kd.pair (Kd.int .i64) (Kd.pair kItem (Kd.int .u64)))
abbrev kCl : Kd (Int × Int × Int × Int) := Kd.pair (Kd.int .u64) (Kd.pair (Kd.int .u64) (Kd.pair (Kd.int .i64) (Kd.int .i64)))
def toByte (i : Int) : UInt8 := UInt8.ofNat i.toNat
def toAc (x : Int × Int × (Int × Int × List Int) × Int) : Ac := ⟨x.1, x.2.1, ⟨x.2.2.1.1, x.2.2.1.2.1, x.2.2.1.2.2.map toByte⟩, x.2.2.2⟩
def toCl (x : Int × Int × Int × Int) : Cl := ⟨x.1, x.2.1, x.2.2.1, x.2.2.2⟩
theorem byteV_toByte {i : Int} (h : 0 ≤ i ∧ i < 256) : byteV (toByte i) = .int .u8 i := by
  unfold byteV toByte
  have : (UInt8.ofNat i.toNat).toNat = i.toNat := by rw [UInt8.toNat_ofNat']; exact Nat.mod_eq_of_lt (by omega)
  rw [this]
  congr 1
  omega

theorem dat_of_C {W : World} {A : Option Addr} {l : List Int} (h : Kd.C (Kd.int .u8) W A l.length l) (hb : ∀ i, i ∈ l → 0 ≤ i ∧ i < 256) : Dat W (fun k => k < W.heap.size) A l.length (l.map toByte) := by
  refine ⟨by simp, fun hn => ?_⟩
  obtain ⟨_, _, h2⟩ := h
  obtain ⟨ad, rfl, hc⟩ := h2 hn
  have cell : ∀ j x, l[j]? = some x → W.cell? (ad.add j) = some (.int .u8 x) := by
    intro j x hx
    obtain ⟨c, _, hK, hcc⟩ := hc j x hx
    have hK' : c = [.int .u8 x] := hK
    subst hK'
    have := hcc 0 _ rfl
    rw [show (Kd.int .u8).sz = 1 from rfl, Nat.mul_one, Nat.add_zero] at this
    exact this
  refine ⟨ad, rfl, ?_, fun j x hx => ?_⟩
  · have := cell_lt0 (cell 0 l[0] (List.getElem?_eq_getElem (by omega)))
    rwa [ad_block] at this
  · rw [List.getElem?_map] at hx
    cases hj : l[j]? with
    | none => rw [hj] at hx; cases hx
    | some y =>
      rw [hj] at hx
      cases hx
      rw [byteV_toByte (hb y (List.mem_of_getElem? hj))]
      exact cell j y hj

theorem add_at_ (ad : Addr) (a j : Nat) (hj : 0 < j) : ad.add (a + j) = ⟨(ad.add a).block, (ad.add a).off + j, none⟩ := by
  rw [← Go.Deep.add_add]
  show (if j = 0 then _ else _) = _
  rw [if_neg (by omega)]

theorem acts_of_C {W : World} {A : Option Addr} {xs : List (Int × Int × (Int × Int × List Int) × Int)} (h : Kd.C kAct W A xs.length xs) (hb : ∀ x, x ∈ xs → ∀ i, i ∈ x.2.2.1.2.2 → 0 ≤ i ∧ i < 256) : Acts W W.heap.size A xs.length (xs.map toAc) := by
  refine ⟨by simp, fun hn => ?_⟩
  obtain ⟨_, _, h2⟩ := h
  obtain ⟨ad, rfl, hc⟩ := h2 hn
  have key : ∀ i x, xs[i]? = some x → AcAt W W.heap.size (ad.add (i * 6)) (toAc x) := by
    intro i x hx
    obtain ⟨c, _, hK, hcc⟩ := hc i x hx
    obtain ⟨l1, l2, rfl, rfl, l3, l4, rfl, rfl, l5, l6, rfl, ⟨m1, m2, rfl, rfl, m3, m4, rfl, rfl, A', n', rfl, hl, hC⟩, rfl⟩ := hK
    have cc : ∀ j u, ([.int .i64 x.1, .int .i64 x.2.1, .int .u64 x.2.2.1.1, .int .i64 x.2.2.1.2.1, .slice A' x.2.2.1.2.2.length n', .int .u64 x.2.2.2] : List Value)[j]? = some u → W.cell? (ad.add (i * 6 + j)) = some u := fun j u hu => hcc j u (by simpa using hu)
    refine ⟨A', x.2.2.1.2.2.length, n', ?_, ?_, ?_, ?_, ?_, ?_, dat_of_C hC (hb x (List.mem_of_getElem? hx))⟩
    · have := cc 0 _ rfl; rwa [Nat.add_zero] at this
    · have := cc 1 _ rfl; rwa [add_at_ _ _ 1 (by omega)] at this
    · have := cc 2 _ rfl; rwa [add_at_ _ _ 2 (by omega)] at this
    · have := cc 3 _ rfl; rwa [add_at_ _ _ 3 (by omega)] at this
    · have := cc 4 _ rfl; rwa [add_at_ _ _ 4 (by omega)] at this
    · have := cc 5 _ rfl; rwa [add_at_ _ _ 5 (by omega)] at this
  refine ⟨ad, rfl, ?_, fun i a ha => ?_⟩
  · obtain ⟨_, _, _, hc0, _⟩ := key 0 xs[0] (List.getElem?_eq_getElem (by omega))
    have := cell_lt0 hc0
    rwa [ad_block] at this
  · rw [List.getElem?_map] at ha
    cases hj : xs[i]? with
    | none => rw [hj] at ha; cases ha
    | some y =>
      rw [hj] at ha
      cases ha
      exact key i y hj

theorem cls_of_C {W : World} {A : Option Addr} {xs : List (Int × Int × Int × Int)} (h : Kd.C kCl W A xs.length xs) : Cls W W.heap.size A xs.length (xs.map toCl) := by
  refine ⟨by simp, fun hn => ?_⟩
  obtain ⟨_, _, h2⟩ := h
  obtain ⟨ad, rfl, hc⟩ := h2 hn
  have key : ∀ i x, xs[i]? = some x → ClAt W (ad.add (i * 4)) (toCl x) := by
    intro i x hx
    obtain ⟨c, _, hK, hcc⟩ := hc i x hx
    obtain ⟨l1, l2, rfl, rfl, l3, l4, rfl, rfl, l5, l6, rfl, rfl, rfl⟩ := hK
    have cc : ∀ j u, ([.int .u64 x.1, .int .u64 x.2.1, .int .i64 x.2.2.1, .int .i64 x.2.2.2] : List Value)[j]? = some u → W.cell? (ad.add (i * 4 + j)) = some u := fun j u hu => hcc j u (by simpa using hu)
    refine ⟨?_, ?_, ?_, ?_⟩
    · have := cc 0 _ rfl; rwa [Nat.add_zero] at this
    · have := cc 1 _ rfl; rwa [add_at_ _ _ 1 (by omega)] at this
    · have := cc 2 _ rfl; rwa [add_at_ _ _ 2 (by omega)] at this
    · have := cc 3 _ rfl; rwa [add_at_ _ _ 3 (by omega)] at this
  refine ⟨ad, rfl, ?_, fun i a ha => ?_⟩
  · have := cell_lt0 (key 0 xs[0] (List.getElem?_eq_getElem (by omega))).c0
    rwa [ad_block] at this
  · rw [List.getElem?_map] at ha
    cases hj : xs[i]? with
    | none => rw [hj] at ha; cases ha
    | some y =>
      rw [hj] at ha
      cases ha
      exact key i y hj

theorem byte_wf {i : Int} (h : (Lit.int .u8 i).wf = true) : 0 ≤ i ∧ i < 256 := by
  simp only [Lit.wf, Bool.and_eq_true, decide_eq_true_eq] at h
  have h1 : (IntKind.u8.min) = 0 := by decide
  have h2 : (IntKind.u8.max) = 255 := by decide
  omega
theorem u64_wf {i : Int} (h : (Lit.int .u64 i).wf = true) : B.U64 i := by
  simp only [Lit.wf, Bool.and_eq_true, decide_eq_true_eq] at h
  have h1 : (IntKind.u64.min) = 0 := by decide
  have h2 : (IntKind.u64.max) = 18446744073709551615 := by decide
  exact ⟨by omega, by omega⟩
theorem i64_wf {i : Int} (h : (Lit.int .i64 i).wf = true) : -9223372036854775808 ≤ i ∧ i ≤ 9223372036854775807 := by
  simp only [Lit.wf, Bool.and_eq_true, decide_eq_true_eq] at h
  have h1 : (IntKind.i64.min) = -9223372036854775808 := by decide
  have h2 : (IntKind.i64.max) = 9223372036854775807 := by decide
  omega

theorem none_row (x : Int × Int × (Int × Int × List Int) × Int) (A : Option Addr) (c : Nat) (W : World) (hC : Kd.C (Kd.int .u8) W A x.2.2.1.2.2.length x.2.2.1.2.2) (hb : ∀ i, i ∈ x.2.2.1.2.2 → (Lit.int .u8 i).wf = true) :
    Calls Try.prog 3 #[.agg #[.int .i64 x.1, .int .i64 x.2.1, .int .u64 x.2.2.1.1, .int .i64 x.2.2.1.2.1, .slice A x.2.2.1.2.2.length c, .int .u64 x.2.2.2]] W fun e w' => e = .returned (.bool true) ∧ Below W.heap.size W w' :=
  none_any _ _ _ _ _ A _ c (x.2.2.1.2.2.map toByte) W (dat_of_C hC fun i hi => byte_wf (hb i hi))
end Go.Proofs.Ytballojildjbhaa.S
