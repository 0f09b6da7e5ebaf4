/- Bucket.Level, Take, Tick, Copy: what they answer and leave; conditions: the block holds the four numbers, all of 64 bits. -/
import Derived.Test.YtdaiabgdlopfiaaBl
namespace Go.Proofs.Ytdaiabgdlopfiaa.B
open Go.RowKit Go.Proofs.YtdaiabgdlopfiaaW.PrintWords Go.Proofs.YtdaiabgdlopfiaaW.PrintLast Go.Proofs.YtdaiabgdlopfiaaW.PrintMore
set_option linter.unusedVariables false
set_option linter.unusedSimpArgs false

/-- A number of 64 bits. -/
def U64 (x : Int) : Prop := 0 ≤ x ∧ x ≤ 18446744073709551615
/-- A bucket's numbers, as they may be. -/
structure Ok (s0 s1 s2 s3 : Int) : Prop where
  r : U64 s0
  b : U64 s1
  t : U64 s2
  k : U64 s3
/-- Its tick and its tokens, filled up to a tick. -/
def tickV (s2 t : Int) : Int := if t ≤ s2 then s2 else t
def tokV (s0 s1 s2 s3 t : Int) : Int := if t ≤ s2 then s3 else mn s1 (s3 + s0 * (t - s2))

theorem Ok.fill {s0 s1 s2 s3 t : Int} (h : Ok s0 s1 s2 s3) (ht : U64 t) : Ok s0 s1 (tickV s2 t) (tokV s0 s1 s2 s3 t) := by
  obtain ⟨⟨r0, r1⟩, ⟨b0, b1⟩, ⟨t0, t1⟩, ⟨k0, k1⟩⟩ := h
  refine ⟨⟨r0, r1⟩, ⟨b0, b1⟩, ?_, ?_⟩
  · unfold tickV
    split
    · exact ⟨t0, t1⟩
    · exact ht
  · unfold tokV
    split
    · exact ⟨k0, k1⟩
    · have : 0 ≤ s0 * (t - s2) := Int.mul_nonneg r0 (by omega)
      unfold mn U64
      split <;> omega

theorem fill_any (g : Nat) (s0 s1 s2 s3 t : Int) (w : World) (hI : Bk w g s0 s1 s2 s3) (ho : Ok s0 s1 s2 s3) (ht : U64 t) :
    Calls Try.prog 17 #[.pointer (some ⟨g, 0, none⟩), .int .u64 t] w fun e w' => e = .returned (.tuple #[]) ∧ Bk w' g s0 s1 (tickV s2 t) (tokV s0 s1 s2 s3 t) ∧ w.grownBy w' (some g) := by
  obtain ⟨⟨r0, r1⟩, ⟨b0, b1⟩, ⟨t0, t1⟩, ⟨k0, k1⟩⟩ := ho
  obtain ⟨u0, u1⟩ := ht
  unfold tickV tokV
  by_cases h : t ≤ s2
  · rw [if_pos h, if_pos h]
    refine (fill_no g s0 s1 s2 s3 t w hI (decide_eq_true h)).mono ?_
    rintro e w' ⟨rfl, hb⟩
    exact ⟨rfl, blk_below hI hb, grown_of_below hb _⟩
  · rw [if_neg h, if_neg h]
    have := fill_go g s0 s1 s2 s3 t w hI ⟨r0, by omega⟩ b1 k0 (decide_eq_false h)
    rw [show IntKind.u64.wrap (t - s2) = t - s2 by simp only [IntKind.wrap_u64]; omega] at this
    exact this

set_option maxHeartbeats 400000 in
theorem level_any (g : Nat) (s0 s1 s2 s3 t : Int) (w : World) (hI : Bk w g s0 s1 s2 s3) (ho : Ok s0 s1 s2 s3) (ht : U64 t) :
    Calls Try.prog 11 #[.pointer (some ⟨g, 0, none⟩), .int .u64 t] w fun e w' => e = .returned (.int .u64 (tokV s0 s1 s2 s3 t)) ∧ Bk w' g s0 s1 (tickV s2 t) (tokV s0 s1 s2 s3 t) ∧ w.grownBy w' (some g) := by
  have HF := Aside0.mk (fill_any g s0 s1 s2 s3 t w hI ho ht)
  clear hI ho ht
  go_enter Try.func11, Try.ntmps11
  go_wp2_with fail
  refine HF.out.mono ?_
  rintro e w1 ⟨rfl, hk, hg⟩
  have c3 := cellS47_3 hk
  have HK := Aside0.mk hk
  have HG := Aside0.mk hg
  clear hk hg HF
  go_wp2
  go_ret
  exact ⟨rfl, HK.out, HG.out⟩

def subV (k n : Int) : Int := if k < n then k else k - n
set_option maxHeartbeats 400000 in
theorem take_any (g : Nat) (s0 s1 s2 s3 t n : Int) (w : World) (hI : Bk w g s0 s1 s2 s3) (ho : Ok s0 s1 s2 s3) (ht : U64 t) (hn : U64 n) :
    Calls Try.prog 10 #[.pointer (some ⟨g, 0, none⟩), .int .u64 t, .int .u64 n] w fun e w' => e = .returned (.bool (decide (n ≤ tokV s0 s1 s2 s3 t))) ∧ Bk w' g s0 s1 (tickV s2 t) (subV (tokV s0 s1 s2 s3 t) n) ∧ w.grownBy w' (some g) := by
  have ok2 := ho.fill ht
  have HF := Aside0.mk (level_any g s0 s1 s2 s3 t w hI ho ht)
  clear hI ho ht
  generalize tokV s0 s1 s2 s3 t = k at *
  unfold subV
  by_cases h : k < n
  · rw [if_pos h, show decide (n ≤ k) = false from decide_eq_false (by omega)]
    have hb : decide (k < n) = true := decide_eq_true h
    clear h ok2 hn
    go_enter Try.func10, Try.ntmps10
    go_wp2_with fail
    refine HF.out.mono ?_
    rintro e w1 ⟨rfl, hk, hg⟩
    have HK := Aside0.mk hk
    have HG := Aside0.mk hg
    clear hk hg HF
    go_wp2
    go_ret
    exact ⟨rfl, HK.out, HG.out⟩
  · rw [if_neg h, show decide (n ≤ k) = true from decide_eq_true (by omega)]
    have hb : decide (k < n) = false := decide_eq_false h
    have hw : IntKind.u64.wrap (k - n) = k - n := by
      obtain ⟨-, -, -, ⟨k0, k1⟩⟩ := ok2
      obtain ⟨n0, n1⟩ := hn
      simp only [IntKind.wrap_u64]; omega
    clear h ok2 hn
    go_enter Try.func10, Try.ntmps10
    go_wp2_with fail
    refine HF.out.mono ?_
    rintro e w1 ⟨rfl, hk, hg⟩
    have c3 := cellS47_3 hk
    have f3 := blk_frozen hk 3
    have HK := Aside0.mk hk
    have HG := Aside0.mk hg
    clear hk hg HF
    go_wp2
    go_ret
    exact ⟨rfl, blk_put HK.out 3 _ rfl, grown_set HG.out _ _⟩

set_option maxHeartbeats 400000 in
theorem tick_any (g : Nat) (s0 s1 s2 s3 : Int) (w : World) (hI : Bk w g s0 s1 s2 s3) :
    Calls Try.prog 15 #[.pointer (some ⟨g, 0, none⟩)] w fun e w' => e = .returned (.int .u64 s2) ∧ w = w' := by
  have c2 := cellS47_2 hI
  clear hI
  go_enter Try.func15, Try.ntmps15
  go_wp2
  go_ret
  exact ⟨rfl, rfl⟩

set_option maxHeartbeats 400000 in
theorem copy_any (g : Nat) (s0 s1 s2 s3 : Int) (w : World) (hI : Bk w g s0 s1 s2 s3) :
    Calls Try.prog 13 #[.pointer (some ⟨g, 0, none⟩)] w fun e w' => e = .returned (.pointer (some ⟨w.heap.size, 0, none⟩)) ∧ Bk w' w.heap.size s0 s1 s2 s3 ∧ Below w.heap.size w w' := by
  have hu47 := Try.underlying47
  have c0 := cellS47_0 hI
  have c1 := cellS47_1 hI
  have c2 := cellS47_2 hI
  have c3 := cellS47_3 hI
  clear hI
  go_enter Try.func13, Try.ntmps13
  go_wp2
  go_ret
  exact ⟨rfl, blk_new _ _, below_alloc (Below.refl _ _) _⟩
end Go.Proofs.Ytdaiabgdlopfiaa.B
