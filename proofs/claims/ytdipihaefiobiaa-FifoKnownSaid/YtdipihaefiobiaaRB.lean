/- FifoKnown's walk: it answers true; no condition. -/
import Derived.Test.YtdipihaefiobiaaRA
import Derived.Test.YtdipihaefiobiaaQY
namespace Go.Proofs.Ytdipihaefiobiaa.F
open Go Go.RowKit Go.Proofs.YtdipihaefiobiaaW.PrintWords Go.Proofs.YtdipihaefiobiaaW.PrintLast Go.Proofs.YtdipihaefiobiaaW.PrintMore
set_option linter.unusedVariables false
set_option linter.unusedSimpArgs false

/-- The last four acts. -/
theorem big_acts (W : World) : Acts (W.alloc (Obj.cells #[Value.int IntKind.i64 0, Value.int IntKind.u64 0, Value.int IntKind.i64 2305843009213693952, Value.slice none 0 0,
      Value.int IntKind.i64 0, Value.int IntKind.u64 0, Value.int IntKind.i64 2305843009213693952, Value.slice none 0 0,
      Value.int IntKind.i64 6, Value.int IntKind.u64 0, Value.int IntKind.i64 4611686018427387904, Value.slice none 0 0,
      Value.int IntKind.i64 0, Value.int IntKind.u64 0, Value.int IntKind.i64 (-9223372036854775808), Value.slice none 0 0] 39))
    (W.alloc (Obj.cells #[Value.int IntKind.i64 0, Value.int IntKind.u64 0, Value.int IntKind.i64 2305843009213693952, Value.slice none 0 0,
      Value.int IntKind.i64 0, Value.int IntKind.u64 0, Value.int IntKind.i64 2305843009213693952, Value.slice none 0 0,
      Value.int IntKind.i64 6, Value.int IntKind.u64 0, Value.int IntKind.i64 4611686018427387904, Value.slice none 0 0,
      Value.int IntKind.i64 0, Value.int IntKind.u64 0, Value.int IntKind.i64 (-9223372036854775808), Value.slice none 0 0] 39)).heap.size
    (some ⟨W.heap.size, 0, none⟩) 4 [⟨0, 0, 2305843009213693952, []⟩, ⟨0, 0, 2305843009213693952, []⟩, ⟨6, 0, 4611686018427387904, []⟩, ⟨0, 0, -9223372036854775808, []⟩] := by
  have hb := blk_new W (Obj.cells #[Value.int IntKind.i64 0, Value.int IntKind.u64 0, Value.int IntKind.i64 2305843009213693952, Value.slice none 0 0,
      Value.int IntKind.i64 0, Value.int IntKind.u64 0, Value.int IntKind.i64 2305843009213693952, Value.slice none 0 0,
      Value.int IntKind.i64 6, Value.int IntKind.u64 0, Value.int IntKind.i64 4611686018427387904, Value.slice none 0 0,
      Value.int IntKind.i64 0, Value.int IntKind.u64 0, Value.int IntKind.i64 (-9223372036854775808), Value.slice none 0 0] 39)
  refine ⟨rfl, fun _ => ⟨_, rfl, by simp, fun i a ha => ?_⟩⟩
  rw [add_at, Nat.zero_add]
  have z : ∀ B, Dat (W.alloc (Obj.cells #[Value.int IntKind.i64 0, Value.int IntKind.u64 0, Value.int IntKind.i64 2305843009213693952, Value.slice none 0 0,
      Value.int IntKind.i64 0, Value.int IntKind.u64 0, Value.int IntKind.i64 2305843009213693952, Value.slice none 0 0,
      Value.int IntKind.i64 6, Value.int IntKind.u64 0, Value.int IntKind.i64 4611686018427387904, Value.slice none 0 0,
      Value.int IntKind.i64 0, Value.int IntKind.u64 0, Value.int IntKind.i64 (-9223372036854775808), Value.slice none 0 0] 39)) (fun k => k < B) none 0 [] := fun B => ⟨rfl, fun h => absurd h (by omega)⟩
  rcases i with _ | _ | _ | _ | i
  · cases ha; exact ⟨none, 0, 0, (blk_cell hb 0).trans rfl, (blk_cell hb 1).trans rfl, (blk_cell hb 2).trans rfl, (blk_cell hb 3).trans rfl, z _⟩
  · cases ha; exact ⟨none, 0, 0, (blk_cell hb 4).trans rfl, (blk_cell hb 5).trans rfl, (blk_cell hb 6).trans rfl, (blk_cell hb 7).trans rfl, z _⟩
  · cases ha; exact ⟨none, 0, 0, (blk_cell hb 8).trans rfl, (blk_cell hb 9).trans rfl, (blk_cell hb 10).trans rfl, (blk_cell hb 11).trans rfl, z _⟩
  · cases ha; exact ⟨none, 0, 0, (blk_cell hb 12).trans rfl, (blk_cell hb 13).trans rfl, (blk_cell hb 14).trans rfl, (blk_cell hb 15).trans rfl, z _⟩
  · simp at ha

set_option maxRecDepth 100000 in
set_option maxHeartbeats 2000000 in
theorem known_any (w : World) : Calls Try.prog 6 #[] w fun e w' => e = .returned (.bool true) ∧ Below w.heap.size w w' := by
  obtain ⟨i0, hi0, hz0, hz1, hz2⟩ := info_parts info_act
  go_enter Try.func6, Try.ntmps6
  go_wp2_with fail
  go_loopw [1] (fun i wr => ∃ k : Nat, k ≤ 50 ∧ i = .int .i64 k ∧ Below w.heap.size w wr) (fun i _ => 50 - (intOf i).toNat)
  case atStart => exact ⟨0, by omega, rfl, Below.refl _ _⟩
  case round =>
    obtain ⟨i, hi, rfl, hb⟩ := hrel
    have HB := Aside0.mk hb
    clear hb
    by_cases hlt : i < 50
    · have h50 : decide ((i : Int) < 50) = true := decide_eq_true (by omega)
      go_wp2_with fail
      obtain ⟨wo, rfl⟩ : ∃ wo : World, wo = wr := ⟨_, rfl⟩
      go_loopw [2, 3, 4] (fun v kk nn wr => ∃ n : Nat, ∃ k : Int, ∃ cs A c, n ≤ 60 ∧ nn = .int .i64 n ∧ 0 ≤ k ∧ k < 100003 ∧ kk = .int .i64 k ∧ v = .slice A n c ∧ AR w wr (.slice A n c) n cs) (fun _ _ nn _ => 60 - (intOf nn).toNat)
      case atStart => exact ⟨0, i, [], none, 0, by omega, rfl, by omega, by omega, rfl, rfl, AR.nil HB.out⟩
      case round =>
        obtain ⟨n, k, cs, A, c, hn, rfl, hk0, hk1, rfl, rfl, hr⟩ := hrel
        have HR := Aside0.mk hr
        clear hr
        by_cases hn6 : n < 60
        · go_wp2_with (at_builtin; go_must (refine wpList_append_lies _ rfl (.tmp 15) (.tmp 34) 22 rfl w.heap.size 39 i0 _ 4 48 Try.underlying22 hi0 hz0 hz1 hz2 rfl (by decide) (.slice A n c) n cs rfl ((HR.out.row.alloc _).alloc _) ⟨wr.heap.size + 1, 0, none⟩ 1 1 [.int .i64 (k % 8), .int .u64 (k % 40), .int .i64 (k / 8 % 14 - 1), .slice (some ⟨wr.heap.size, 0, none⟩) (k % 4 % 3).toNat 3] rfl rfl (news4 _ _ _ _ _ _ _) (by simp [Value.oneCell']) (by omega) (by unfold maxLen; omega) (by omega) (by have := HR.out.bel.size; simp; omega) _ rfl ?_); intro g cap w1 hown hgrow _ _)
          have hs := HR.out.below (below_alloc (below_alloc (Below.refl _ wr) (Obj.cells #[Value.int IntKind.u8 (k % 256), Value.int IntKind.u8 2, Value.int IntKind.u8 3] 5)) (Obj.cells #[Value.int IntKind.i64 (k % 8), Value.int IntKind.u64 (k % 40), Value.int IntKind.i64 (k / 8 % 14 - 1), Value.slice (some ⟨wr.heap.size, 0, none⟩) (k % 4 % 3).toNat 3] 39))
          obtain ⟨data, hd⟩ := dat3 wr w.heap.size (k % 256) (k % 4 % 3).toNat (Obj.cells #[Value.int IntKind.i64 (k % 8), Value.int IntKind.u64 (k % 40), Value.int IntKind.i64 (k / 8 % 14 - 1), Value.slice (some ⟨wr.heap.size, 0, none⟩) (k % 4 % 3).toNat 3] 39) (by omega) (by omega) HR.out.bel.size
          have HN := Aside0.mk (hs.snoc (k % 8) (k % 40) (k / 8 % 14 - 1) _ _ 3 data hown hgrow hd)
          clear hs hd hown hgrow HR
          go_roundw
          case rel => exact ⟨n + 1, _, _, _, _, by omega, by go_num, by omega, by omega, rfl, rfl, HN.out⟩
          case measure => simp [intOf]; omega
        · obtain rfl : n = 60 := by omega
          obtain ⟨ad, c', l, e, hc, ha⟩ := HR.out.acts (by omega)
          injection e with e1 e2 e3
          subst e1
          subst e3
          have HA := Aside0.mk ha
          clear ha
          go_wp2_with fail
          refine (plays_any _ _ (by omega) (some ad) 60 c l wr HA.out (by unfold maxLen; omega)).mono ?_
          rintro e w1 ⟨rfl, b1⟩
          have HR1 := Aside0.mk (HR.out.below b1)
          have HA1 := Aside0.mk (HA.out.below b1)
          clear b1 HR HA
          go_wp2_with fail
          refine (order_any _ _ (some ad) 60 c l w1 HA1.out (by unfold maxLen; omega)).mono ?_
          rintro e w2 ⟨rfl, b2⟩
          have HR2 := Aside0.mk (HR1.out.below b2)
          have HA2 := Aside0.mk (HA1.out.below b2)
          clear b2 HR1 HA1
          go_wp2_with fail
          refine (plays_any _ _ (by omega) (some ad) 20 _ (l.take 20) w2 (HA2.out.take (by omega) (by omega)) (by unfold maxLen; omega)).mono ?_
          rintro e w3 ⟨rfl, b3⟩
          have HR3 := Aside0.mk (HR2.out.below b3)
          have HA3 := Aside0.mk (HA2.out.below b3)
          clear b3 HR2 HA2
          have hil : i < l.length := by have := HA3.out.1; omega
          obtain ⟨ad', ead, hadb, hacts⟩ := HA3.out.2 (by omega)
          cases ead
          obtain ⟨A', n', c', x0, x1, x2, x3, hd⟩ := hacts i l[i] (List.getElem?_eq_getElem hil)
          clear hacts hd
          go_wp2_with fail
          refine (none_any _ _ _ _ _ w3).mono ?_
          rintro e w4 ⟨rfl, b4⟩
          have HR4 := Aside0.mk (HR3.out.below b4)
          clear b4 HR3 HA3
          go_wp2_with fail
          go_roundw
          case rel => exact ⟨i + 1, by omega, by go_num, HR4.out.bel⟩
          case measure => simp [intOf]; omega
    · go_wp2_with fail
      have HA := Aside0.mk (big_acts wr)
      refine (plays_any _ _ (by omega) _ 4 4 _ _ HA.out (by unfold maxLen; omega)).mono ?_
      rintro e w1 ⟨rfl, b1⟩
      have HB1 := Aside0.mk (below_step (below_alloc HB.out _) b1)
      have HA1 := Aside0.mk (HA.out.below b1)
      clear b1 HA HB
      go_wp2_with fail
      refine (plays_any _ _ (by omega) none 0 0 [] _ ⟨rfl, fun h => absurd h (by omega)⟩ (by unfold maxLen; omega)).mono ?_
      rintro e w2 ⟨rfl, b2⟩
      have HB2 := Aside0.mk (below_step HB1.out b2)
      have HA2 := Aside0.mk (HA1.out.below b2)
      clear b2 HA1 HB1
      go_wp2_with fail
      refine (plays_any _ _ (by omega) _ 4 4 _ _ HA2.out (by unfold maxLen; omega)).mono ?_
      rintro e w3 ⟨rfl, b3⟩
      have HB3 := Aside0.mk (below_step HB2.out b3)
      clear b3 HA2 HB2
      go_wp2_with fail
      refine (works_any _).mono ?_
      rintro e w4 ⟨rfl, b4⟩
      have HB4 := Aside0.mk (below_step HB3.out b4)
      clear b4 HB3
      go_wp2_with fail
      go_ret
      exact ⟨rfl, HB4.out⟩
end Go.Proofs.Ytdipihaefiobiaa.F
