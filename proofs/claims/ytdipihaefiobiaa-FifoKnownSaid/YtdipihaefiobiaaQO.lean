/- The acts of octroilaw11 in memory; few, Pick; conditions: the acts lie in memory. -/
import Derived.Test.YtdipihaefiobiaaQN
namespace Go.Proofs.Ytdipihaefiobiaa.F
open Go Go.RowKit Go.Proofs.YtdipihaefiobiaaW.PrintWords Go.Proofs.YtdipihaefiobiaaW.PrintLast Go.Proofs.YtdipihaefiobiaaW.PrintMore
set_option linter.unusedVariables false
set_option linter.unusedSimpArgs false

theorem tmod_mod (n m : Int) (hm : 0 < m) : (n.tmod m + m).tmod m = n % m := by
  have h1 : -m < n.tmod m := Int.lt_tmod_of_pos n hm
  rw [Int.tmod_eq_emod_of_nonneg (by omega), Int.add_emod_right]
  have h2 := Int.tmod_add_mul_tdiv n m
  have h3 : n = n.tmod m + m * n.tdiv m := h2.symm
  rw [h3, Int.add_mul_emod_self_left, ← h3]

set_option maxHeartbeats 400000 in
theorem pick_any (n m : Int) (hm : 0 < m) (hm2 : m ≤ 65536) (w : World) : Calls Try.prog 11 #[.int .i64 n, .int .i64 m] w fun e w' => e = .returned (.int .i64 (n % m)) ∧ w = w' := by
  have h1 : -m < n.tmod m := Int.lt_tmod_of_pos n hm
  have h2 : n.tmod m < m := Int.tmod_lt_of_pos n hm
  have e := tmod_mod n m hm
  have h3 : 0 ≤ n % m := Int.emod_nonneg _ (by omega)
  have h4 : n % m < m := Int.emod_lt_of_pos _ hm
  have w1 : IntKind.i64.wrap (n.tmod m) = n.tmod m := IntWalk.i64_in _ (by omega)
  have w2 : IntKind.i64.wrap (n.tmod m + m) = n.tmod m + m := IntWalk.i64_in _ (by omega)
  have w3 : IntKind.i64.wrap (n % m) = n % m := IntWalk.i64_in _ (by omega)
  have hz : ¬ m = 0 := by omega
  have hd : decide (m ≤ 0) = false := decide_eq_false (by omega)
  generalize n % m = r at *
  clear h1 h2 h3 h4 hm hm2
  go_enter Try.func11, Try.ntmps11
  go_wp2
  go_ret
  exact ⟨rfl, rfl⟩

/-- An act, as it is told. -/
structure Ac where
  do_ : Int
  no : Int
  size : Int
  data : List UInt8

/-- An act in memory, from address ad on. -/
def AcAt (W : World) (B : Nat) (ad : Addr) (a : Ac) : Prop :=
  ∃ A n c, W.cell? ad = some (.int .i64 a.do_) ∧ W.cell? ⟨ad.block, ad.off + 1, none⟩ = some (.int .u64 a.no) ∧ W.cell? ⟨ad.block, ad.off + 1 + 1, none⟩ = some (.int .i64 a.size) ∧ W.cell? ⟨ad.block, ad.off + 1 + 2, none⟩ = some (.slice A n c) ∧ Dat W (fun k => k < B) A n a.data
def Acts (W : World) (B : Nat) (A : Option Addr) (n : Nat) (l : List Ac) : Prop :=
  n = l.length ∧ (0 < n → ∃ ad : Addr, A = some ad ∧ ad.block < B ∧ ∀ i a, l[i]? = some a → AcAt W B (ad.add (i * 4)) a)

/-- few's answer. -/
def fewB (l : List Ac) : Bool := (l.take 61).all (fun a => decide (a.data.length ≤ 60)) && decide (l.length ≤ 60)
theorem fewB_true {l : List Ac} (h : fewB l = true) : l.length ≤ 60 ∧ ∀ a, a ∈ l → a.data.length ≤ 60 := by
  simp only [fewB, Bool.and_eq_true, List.all_eq_true, decide_eq_true_eq] at h
  refine ⟨h.2, fun a ha => h.1 a ?_⟩
  rw [List.take_of_length_le (by omega)]
  exact ha
theorem all_take {l : List Ac} {k : Nat} (h : ∀ (j : Nat) (a : Ac), j < k → l[j]? = some a → a.data.length ≤ 60) : (l.take k).all (fun a => decide (a.data.length ≤ 60)) = true := by
  simp only [List.all_eq_true, decide_eq_true_eq]
  intro a ha
  obtain ⟨j, hj⟩ := List.mem_iff_getElem?.1 ha
  rw [List.getElem?_take] at hj
  split at hj
  · exact h j a (by assumption) hj
  · cases hj

set_option maxHeartbeats 400000 in
theorem few_any (B : Nat) (A : Option Addr) (n c : Nat) (l : List Ac) (w : World) (h : Acts w B A n l) (hn : n ≤ maxLen) :
    Calls Try.prog 7 #[.slice A n c] w fun e w' => e = .returned (.bool (fewB l)) ∧ w = w' := by
  unfold maxLen at hn
  have HN := Aside0.mk h.1
  go_enter Try.func7, Try.ntmps7
  go_wp2
  go_loop [3] (fun i => ∃ k : Nat, i = .int .i64 k ∧ k ≤ n ∧ k ≤ 61 ∧ ∀ j a, j < k → l[j]? = some a → a.data.length ≤ 60) (fun i => 61 - (intOf i).toNat)
  case atStart => exact ⟨0, rfl, Nat.zero_le _, by omega, fun j a hj => by omega⟩
  case round =>
    obtain ⟨k, rfl, hk, hk61, hall⟩ := hrel
    have HALL := Aside0.mk hall
    have HA := Aside0.mk h
    clear hall h
    by_cases hlt : k < n
    · by_cases h61 : k < 61
      · obtain ⟨ad, rfl, hadb, hacts⟩ := HA.out.2 (by omega)
        have hkl : k < l.length := by have := HA.out.1; omega
        obtain ⟨A', n', c', x0, x1, x2, x3, hd⟩ := hacts k l[k] (List.getElem?_eq_getElem hkl)
        have HD := Aside0.mk hd
        clear hacts hd
        by_cases h60 : 60 < n'
        · go_wp2
          go_ret
          refine ⟨congrArg (fun b => Ending.returned (.bool b)) ?_, rfl⟩
          have hdn := HD.out.1
          symm
          rw [fewB, Bool.and_eq_false_iff]
          left
          rw [List.all_eq_false]
          refine ⟨l[k], ?_, by simp; omega⟩
          rw [List.mem_iff_getElem?]
          exact ⟨k, by rw [List.getElem?_take, if_pos h61]; exact List.getElem?_eq_getElem hkl⟩
        · go_wp2
          go_round
          case rel =>
            refine ⟨k + 1, by go_num, by omega, by omega, fun j a hj ha => ?_⟩
            by_cases hjk : j < k
            · exact HALL.out j a hjk ha
            · obtain rfl : j = k := by omega
              rw [List.getElem?_eq_getElem hkl] at ha
              cases ha
              have := HD.out.1
              omega
          case measure => simp [intOf]; omega
      · obtain rfl : k = 61 := by omega
        have hl : decide ((n : Int) ≤ 60) = false := decide_eq_false (by omega)
        go_wp2
        go_ret
        refine ⟨congrArg (fun b => Ending.returned (.bool b)) ?_, rfl⟩
        symm
        rw [fewB, Bool.and_eq_false_iff]
        right
        have := HN.out
        simp; omega
    · obtain rfl : k = n := by omega
      go_wp2
      go_ret
      refine ⟨congrArg (fun b => Ending.returned (.bool b)) ?_, rfl⟩
      have hn := HN.out
      rw [fewB]
      have := all_take (l := l) (k := k) HALL.out
      rw [List.take_of_length_le (by omega)] at this
      rw [List.take_of_length_le (by omega), this]
      rw [Bool.true_and]
      exact decide_eq_decide.2 (by omega)
end Go.Proofs.Ytdipihaefiobiaa.F
