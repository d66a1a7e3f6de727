/- DomNone: for every input the law returns true, and each argument reads behind the call as it read before. -/
import Derived.Test.YtmkakofnabfinaaZDN7
import Derived.Test.YtmkakofnabfinaaZDN18
import Derived.LaidEqlPtr
section
set_option linter.unusedVariables false
set_option linter.unusedSimpArgs false
namespace Go.Proofs.Ytmkakofnabfinaa.P
open Go.RowKit Go.Proofs.YtmkakofnabfinaaW.PrintWords Go.Proofs.YtmkakofnabfinaaW.PrintLast Go.Proofs.YtmkakofnabfinaaW.PrintMore
set_option linter.unusedVariables false
set_option linter.unusedSimpArgs false
theorem info67 : ∃ j, Try.prog.info? 67 = some j := by
  have h : (Try.prog.info? 67).isSome = true := by kernel_rfl
  exact Option.isSome_iff_exists.1 h
end Go.Proofs.Ytmkakofnabfinaa.P
end
section
set_option linter.unusedVariables false
set_option linter.unusedSimpArgs false
namespace Go.Proofs.Ytmkakofnabfinaa.P
open Go.RowKit Go.Proofs.YtmkakofnabfinaaW.PrintWords Go.Proofs.YtmkakofnabfinaaW.PrintLast Go.Proofs.YtmkakofnabfinaaW.PrintMore
attribute [local go_sem] max2_int min2_int max_two min_two max_three min_three max_four min_four
set_option linter.unusedVariables false
set_option linter.unusedSimpArgs false
set_option maxHeartbeats 4000000 in
set_option maxRecDepth 100000 in
theorem none_act (k : Nat) (hk : k < 5) (v : Value) (a b c : Int) (s t : ByteArray) (w : World) (h : NoneD w v) : Calls Try.prog 22 #[v, .agg #[.int .i64 k, .int .i64 a, .int .i64 b, .int .i64 c, .string s, .string t]] w fun e w' => e = .returned (.tuple #[v, .int .i64 0, .int .i64 9]) ∧ Below w.heap.size w w' := by
  have HD := Aside0.mk (h.below (below_alloc (Below.refl _ w) (.cells #[.int .i64 k, .int .i64 a, .int .i64 b, .int .i64 c, .string s, .string t] 44)))
  have HB0 : Aside0 (Below w.heap.size w (w.alloc (.cells #[.int .i64 k, .int .i64 a, .int .i64 b, .int .i64 c, .string s, .string t] 44))) := ⟨below_alloc (Below.refl _ _) _⟩
  have hu44 := Try.underlying44
  clear h
  rcases (show k = 0 ∨ k = 1 ∨ k = 2 ∨ k = 3 ∨ k = 4 by omega) with rfl | rfl | rfl | rfl | rfl
  · clear hk
    go_enter Try.func22, Try.ntmps22
    go_wp2_with (first | (go_at_call 14; refine (none_ins v a b s _ HD.out).mono ?_; rintro e W1 ⟨rfl, hb1⟩; have HB1 := Aside0.mk (below_then HB0.out HB0.out.size hb1); clear hb1) | fail)
    go_ret3
    exact ⟨rfl, HB1.out⟩
  · clear hk
    go_enter Try.func22, Try.ntmps22
    go_wp2_with (first | (go_at_call 25; refine (none_rem v a _ HD.out).mono ?_; rintro e W1 ⟨rfl, hb1⟩; have HB1 := Aside0.mk (below_then HB0.out HB0.out.size hb1); clear hb1) | fail)
    go_ret3
    exact ⟨rfl, HB1.out⟩
  · clear hk
    go_enter Try.func22, Try.ntmps22
    go_wp2_with (first | (go_at_call 16; refine (none_mov v a b c _ HD.out).mono ?_; rintro e W1 ⟨rfl, hb1⟩; have HB1 := Aside0.mk (below_then HB0.out HB0.out.size hb1); clear hb1) | fail)
    go_ret3
    exact ⟨rfl, HB1.out⟩
  · clear hk
    go_enter Try.func22, Try.ntmps22
    go_wp2_with (first | (go_at_call 62; refine (none_set v a s t _ HD.out).mono ?_; rintro e W1 ⟨rfl, hb1⟩; have HB1 := Aside0.mk (below_then HB0.out HB0.out.size hb1); clear hb1) | fail)
    go_ret3
    exact ⟨rfl, HB1.out⟩
  · clear hk
    go_enter Try.func22, Try.ntmps22
    go_wp2_with (first | (go_at_call 63; refine (none_drop v a s _ HD.out).mono ?_; rintro e W1 ⟨rfl, hb1⟩; have HB1 := Aside0.mk (below_then HB0.out HB0.out.size hb1); clear hb1) | fail)
    go_ret3
    exact ⟨rfl, HB1.out⟩
theorem doc_neq (a : Addr) (w : World) : (binOp .neq 23 (.pointer (some a)) (.pointer (some a))).run Try.prog w = .ok (.bool false) w := by
  obtain ⟨j, hj⟩ := info67
  have h : ∀ d : Nat, (Op.equalIn (d + 1) 23 (.pointer (some a)) (.pointer (some a))).run Try.prog w = .ok true w := fun d => by
    simp [Op.equalIn, run_underlying Try.underlying23, sizeOf, typeInfo, hj, run_sameAddr_same]
  simp only [binOp]
  simp [Op.equal, Op.maxDepth, h 9999]
theorem idx68_0 (p q : Option Addr) (w : World) : (Instr.index 68 (.agg #[.pointer p, .pointer q]) (.int .i64 0)).run Try.prog w = .ok (.pointer p) w := by kernel_rfl
theorem idx68_1 (p q : Option Addr) (w : World) : (Instr.index 68 (.agg #[.pointer p, .pointer q]) (.int .i64 1)).run Try.prog w = .ok (.pointer q) w := by kernel_rfl
theorem doc_nil_neq (w : World) : (binOp .neq 23 (.pointer none) (.pointer none)).run Try.prog w = .ok (.bool false) w := by kernel_rfl
set_option maxHeartbeats 4000000 in
set_option maxRecDepth 100000 in
theorem none_law (k a b c : Int) (s t : ByteArray) (w : World) : Calls Try.prog 9 #[.agg #[.int .i64 k, .int .i64 a, .int .i64 b, .int .i64 c, .string s, .string t]] w fun e w' => e = .returned (.bool true) ∧ Below w.heap.size w w' := by
  have hu44 := Try.underlying44
  have hu67 := Try.underlying67
  have hu56 := Try.underlying56
  go_enter Try.func9, Try.ntmps9
  go_upto_region 2 with (fail)
  have HA0 : Aside0 (((w.alloc (.cells #[.int .i64 k, .int .i64 a, .int .i64 b, .int .i64 c, .string s, .string t] 44)).alloc (.cells #[.pointer none, .int .i64 0] 67)).heap[w.heap.size]? = some (.cells #[.int .i64 k, .int .i64 a, .int .i64 b, .int .i64 c, .string s, .string t] 44 (0, 0))) := ⟨blk_alloc (blk_new _ _) _⟩
  have HZ0 : Aside0 (((w.alloc (.cells #[.int .i64 k, .int .i64 a, .int .i64 b, .int .i64 c, .string s, .string t] 44)).alloc (.cells #[.pointer none, .int .i64 0] 67)).heap[w.heap.size + 1]? = some (.cells #[.pointer none, .int .i64 0] 67 (0, 0))) := ⟨heap_alloc2_new _ _ _⟩
  have HB0 : Aside0 (Below w.heap.size w ((w.alloc (.cells #[.int .i64 k, .int .i64 a, .int .i64 b, .int .i64 c, .string s, .string t] 44)).alloc (.cells #[.pointer none, .int .i64 0] 67))) := ⟨below_alloc (below_alloc (Below.refl _ _) _) _⟩
  generalize ((w.alloc (.cells #[.int .i64 k, .int .i64 a, .int .i64 b, .int .i64 c, .string s, .string t] 44)).alloc (.cells #[.pointer none, .int .i64 0] 67)) = W0 at HA0 HZ0 HB0 ⊢
  go_wp2_with fail
  go_loopg [5, 6, 7, 8, 9, 10, 11, 12, 13, 15] 3 (fun kq v5 v6 v7 v8 v9 v10 v11 v12 v13 v15 w' => ∃ (i : Nat) (kd : Int), v15 = .int .i64 i ∧ (i + kq = 3 ∧ i ≤ 2) ∧ Aside0 (w'.heap[w.heap.size]? = some (.cells #[.int .i64 kd, .int .i64 a, .int .i64 b, .int .i64 c, .string s, .string t] 44 (0, 0))) ∧ Aside0 (w'.heap[w.heap.size + 1]? = some (.cells #[.pointer none, .int .i64 0] 67 (0, 0))) ∧ Aside0 (Below w.heap.size w w'))
  case atStart => exact ⟨0, k, rfl, by omega, HA0, HZ0, HB0⟩
  case round =>
    clear HA0 HZ0 HB0
    obtain ⟨i, kd, rfl, hi, HA, HZ, HB⟩ := hrel
    rcases i with _ | _ | _ | i
    · obtain rfl : gk = 3 := by omega
      have a1 := (blk_cell HA.out 1).trans (show _ = some (.int .i64 a) from rfl)
      have hix := idx68_0 none (some ⟨w.heap.size + 1, 0, none⟩)
      go_upto_region 6 with (first
        | (go_at_call 29; refine (none_copy (.pointer none) a _ (.inl rfl)).mono ?_; rintro e W1 ⟨cs, rfl, hM, hb1⟩; obtain ⟨A3, c3, A4, c4, rfl⟩ := k56_cellsM (x := z56) hM; have HA1 := Aside0.mk (blk_below HA.out hb1); have HZ1 := Aside0.mk (blk_below HZ.out hb1); have HB1 := Aside0.mk (below_then HB.out HB.out.size hb1); clear hb1 hM)
        | fail)
      have HA2 : Aside0 ((W1.alloc (.cells #[.int .i64 z56.f0, .string z56.f1, .int .i64 z56.f2, .slice A3 z56.f3.length c3, .slice A4 z56.f4.length c4] 56)).heap[w.heap.size]? = some (.cells #[.int .i64 kd, .int .i64 a, .int .i64 b, .int .i64 c, .string s, .string t] 44 (0, 0))) := ⟨blk_alloc HA1.out _⟩
      have HZ2 : Aside0 ((W1.alloc (.cells #[.int .i64 z56.f0, .string z56.f1, .int .i64 z56.f2, .slice A3 z56.f3.length c3, .slice A4 z56.f4.length c4] 56)).heap[w.heap.size + 1]? = some (.cells #[.pointer none, .int .i64 0] 67 (0, 0))) := ⟨blk_alloc HZ1.out _⟩
      have HB2 : Aside0 (Below w.heap.size w (W1.alloc (.cells #[.int .i64 z56.f0, .string z56.f1, .int .i64 z56.f2, .slice A3 z56.f3.length c3, .slice A4 z56.f4.length c4] 56))) := ⟨below_alloc HB1.out _⟩
      generalize W1.alloc (.cells #[.int .i64 z56.f0, .string z56.f1, .int .i64 z56.f2, .slice A3 z56.f3.length c3, .slice A4 z56.f4.length c4] 56) = W2 at HA2 HZ2 HB2 ⊢
      clear a1
      have a1 := (blk_cell HA2.out 1).trans (show _ = some (.int .i64 a) from rfl)
      have a4 := (blk_cell HA2.out 4).trans (show _ = some (.string s) from rfl)
      go_wp2_with (first
        | (go_at_call 30; refine (none_attr (.pointer none) a s _ (.inl rfl)).mono ?_; rintro e W3 ⟨rfl, hb3⟩; have HA3 := Aside0.mk (blk_below HA2.out hb3); have HZ3 := Aside0.mk (blk_below HZ2.out hb3); have HB3 := Aside0.mk (below_then HB2.out HB2.out.size hb3); clear hb3)
        | (go_at_call 26; refine (none_len (.pointer none) _ (.inl rfl)).mono ?_; rintro e W4 ⟨rfl, hb4⟩; have HA4 := Aside0.mk (blk_below HA3.out hb4); have HZ4 := Aside0.mk (blk_below HZ3.out hb4); have HB4 := Aside0.mk (below_then HB3.out HB3.out.size hb4); clear hb4)
        | (go_at_call 27; refine (none_next (.pointer none) _ (.inl rfl)).mono ?_; rintro e W5 ⟨rfl, hb5⟩; have HA5 := Aside0.mk (blk_below HA4.out hb5); have HZ5 := Aside0.mk (blk_below HZ4.out hb5); have HB5 := Aside0.mk (below_then HB4.out HB4.out.size hb5); clear hb5)
        | fail)
      clear a1 a4
      go_loopg [10, 11, 12, 13] 6 (fun kq v10 v11 v12 v13 w' => ∃ (j : Nat) (kd : Int), v10 = .int .i64 j ∧ (j + kq = 6 ∧ j ≤ 5) ∧ Aside0 (w'.heap[w.heap.size]? = some (.cells #[.int .i64 kd, .int .i64 a, .int .i64 b, .int .i64 c, .string s, .string t] 44 (0, 0))) ∧ Aside0 (w'.heap[w.heap.size + 1]? = some (.cells #[.pointer none, .int .i64 0] 67 (0, 0))) ∧ Aside0 (Below w.heap.size w w'))
      case atStart => exact ⟨0, kd, rfl, by omega, HA5, HZ5, HB5⟩
      case round =>
        clear HA HZ HB HA1 HZ1 HB1 HA2 HZ2 HB2 HA3 HZ3 HB3 HA4 HZ4 HB4 HA5 HZ5 HB5
        obtain ⟨j, kd2, rfl, hj, HA, HZ, HB⟩ := hrel
        by_cases cj : j < 5
        · have d1 : decide (j < 5) = true := decide_eq_true cj
          have d1' : decide ((j : Int) < 5) = true := decide_eq_true (by omega)
          have a0 := (blk_cell HA.out 0).trans (show _ = some (.int .i64 kd2) from rfl)
          have f0 := blk_frozen HA.out 0
          have heq := doc_nil_neq
          go_upto_region 13 with (fail)
          have HA1 := Aside0.mk (blk_put (cs := #[.int .i64 kd2, .int .i64 a, .int .i64 b, .int .i64 c, .string s, .string t]) HA.out 0 (.int .i64 j) rfl)
          have HZ1 := Aside0.mk (blk_far HZ.out (p := ⟨w.heap.size, 0, none⟩) (Nat.succ_ne_self _) (.int .i64 j))
          have HB1 : Aside0 (Below w.heap.size w (wr.setCell ⟨w.heap.size, 0, none⟩ (.int .i64 j))) := ⟨below_set HB.out (Nat.le_refl _)⟩
          clear a0 f0
          generalize wr.setCell ⟨w.heap.size, 0, none⟩ (.int .i64 j) = W6 at HA1 HZ1 HB1 ⊢
          have a0 := (blk_cell HA1.out 0).trans (show _ = some (.int .i64 (j : Int)) from rfl)
          have a1 := (blk_cell HA1.out 1).trans (show _ = some (.int .i64 a) from rfl)
          have a2 := (blk_cell HA1.out 2).trans (show _ = some (.int .i64 b) from rfl)
          have a3 := (blk_cell HA1.out 3).trans (show _ = some (.int .i64 c) from rfl)
          have a4 := (blk_cell HA1.out 4).trans (show _ = some (.string s) from rfl)
          have a5 := (blk_cell HA1.out 5).trans (show _ = some (.string t) from rfl)
          have HCJ := Aside0.mk (And.intro cj hj)
          clear cj hj
          go_wp2_with (first
            | (go_at_call 22; refine (none_act j HCJ.out.1 (.pointer none) a b c s t _ (.inl rfl)).mono ?_; rintro e W7 ⟨rfl, hb7⟩; have HA7 := Aside0.mk (blk_below HA1.out hb7); have HZ7 := Aside0.mk (blk_below HZ1.out hb7); have HB7 := Aside0.mk (below_then HB1.out HB1.out.size hb7); clear hb7)
            | fail)
          have hjr := HCJ.out
          obtain ⟨g0, rfl⟩ : ∃ g0, gk = g0 + 1 := ⟨gk - 1, by omega⟩
          go_roundg g0
          case measure => omega
          case rel => exact ⟨j + 1, j, by (rw [show wrap64 ((j : Int) + 1) = ((j + 1 : Nat) : Int) by unfold wrap64; omega]), by omega, HA7, HZ7, HB7⟩
        · have d1 : decide (j < 5) = false := decide_eq_false cj
          have d1' : decide ((j : Int) < 5) = false := decide_eq_false (by omega)
          go_wp2_with fail
          go_roundg 2
          case measure => omega
          case rel => exact ⟨1, kd2, rfl, by omega, HA, HZ, HB⟩
    · obtain rfl : gk = 2 := by omega
      have a1 := (blk_cell HA.out 1).trans (show _ = some (.int .i64 a) from rfl)
      have hix := idx68_1 none (some ⟨w.heap.size + 1, 0, none⟩)
      go_upto_region 6 with (first
        | (go_at_call 29; refine (none_copy (.pointer (some ⟨w.heap.size + 1, 0, none⟩)) a _ (.inr ⟨_, rfl, HZ.out⟩)).mono ?_; rintro e W1 ⟨cs, rfl, hM, hb1⟩; obtain ⟨A3, c3, A4, c4, rfl⟩ := k56_cellsM (x := z56) hM; have HA1 := Aside0.mk (blk_below HA.out hb1); have HZ1 := Aside0.mk (blk_below HZ.out hb1); have HB1 := Aside0.mk (below_then HB.out HB.out.size hb1); clear hb1 hM)
        | fail)
      have HA2 : Aside0 ((W1.alloc (.cells #[.int .i64 z56.f0, .string z56.f1, .int .i64 z56.f2, .slice A3 z56.f3.length c3, .slice A4 z56.f4.length c4] 56)).heap[w.heap.size]? = some (.cells #[.int .i64 kd, .int .i64 a, .int .i64 b, .int .i64 c, .string s, .string t] 44 (0, 0))) := ⟨blk_alloc HA1.out _⟩
      have HZ2 : Aside0 ((W1.alloc (.cells #[.int .i64 z56.f0, .string z56.f1, .int .i64 z56.f2, .slice A3 z56.f3.length c3, .slice A4 z56.f4.length c4] 56)).heap[w.heap.size + 1]? = some (.cells #[.pointer none, .int .i64 0] 67 (0, 0))) := ⟨blk_alloc HZ1.out _⟩
      have HB2 : Aside0 (Below w.heap.size w (W1.alloc (.cells #[.int .i64 z56.f0, .string z56.f1, .int .i64 z56.f2, .slice A3 z56.f3.length c3, .slice A4 z56.f4.length c4] 56))) := ⟨below_alloc HB1.out _⟩
      generalize W1.alloc (.cells #[.int .i64 z56.f0, .string z56.f1, .int .i64 z56.f2, .slice A3 z56.f3.length c3, .slice A4 z56.f4.length c4] 56) = W2 at HA2 HZ2 HB2 ⊢
      clear a1
      have a1 := (blk_cell HA2.out 1).trans (show _ = some (.int .i64 a) from rfl)
      have a4 := (blk_cell HA2.out 4).trans (show _ = some (.string s) from rfl)
      go_wp2_with (first
        | (go_at_call 30; refine (none_attr (.pointer (some ⟨w.heap.size + 1, 0, none⟩)) a s _ (.inr ⟨_, rfl, HZ2.out⟩)).mono ?_; rintro e W3 ⟨rfl, hb3⟩; have HA3 := Aside0.mk (blk_below HA2.out hb3); have HZ3 := Aside0.mk (blk_below HZ2.out hb3); have HB3 := Aside0.mk (below_then HB2.out HB2.out.size hb3); clear hb3)
        | (go_at_call 26; refine (none_len (.pointer (some ⟨w.heap.size + 1, 0, none⟩)) _ (.inr ⟨_, rfl, HZ3.out⟩)).mono ?_; rintro e W4 ⟨rfl, hb4⟩; have HA4 := Aside0.mk (blk_below HA3.out hb4); have HZ4 := Aside0.mk (blk_below HZ3.out hb4); have HB4 := Aside0.mk (below_then HB3.out HB3.out.size hb4); clear hb4)
        | (go_at_call 27; refine (none_next (.pointer (some ⟨w.heap.size + 1, 0, none⟩)) _ (.inr ⟨_, rfl, HZ4.out⟩)).mono ?_; rintro e W5 ⟨rfl, hb5⟩; have HA5 := Aside0.mk (blk_below HA4.out hb5); have HZ5 := Aside0.mk (blk_below HZ4.out hb5); have HB5 := Aside0.mk (below_then HB4.out HB4.out.size hb5); clear hb5)
        | fail)
      clear a1 a4
      go_loopg [10, 11, 12, 13] 6 (fun kq v10 v11 v12 v13 w' => ∃ (j : Nat) (kd : Int), v10 = .int .i64 j ∧ (j + kq = 6 ∧ j ≤ 5) ∧ Aside0 (w'.heap[w.heap.size]? = some (.cells #[.int .i64 kd, .int .i64 a, .int .i64 b, .int .i64 c, .string s, .string t] 44 (0, 0))) ∧ Aside0 (w'.heap[w.heap.size + 1]? = some (.cells #[.pointer none, .int .i64 0] 67 (0, 0))) ∧ Aside0 (Below w.heap.size w w'))
      case atStart => exact ⟨0, kd, rfl, by omega, HA5, HZ5, HB5⟩
      case round =>
        clear HA HZ HB HA1 HZ1 HB1 HA2 HZ2 HB2 HA3 HZ3 HB3 HA4 HZ4 HB4 HA5 HZ5 HB5
        obtain ⟨j, kd2, rfl, hj, HA, HZ, HB⟩ := hrel
        by_cases cj : j < 5
        · have d1 : decide (j < 5) = true := decide_eq_true cj
          have d1' : decide ((j : Int) < 5) = true := decide_eq_true (by omega)
          have a0 := (blk_cell HA.out 0).trans (show _ = some (.int .i64 kd2) from rfl)
          have f0 := blk_frozen HA.out 0
          have heq := doc_neq ⟨w.heap.size + 1, 0, none⟩
          go_upto_region 13 with (fail)
          have HA1 := Aside0.mk (blk_put (cs := #[.int .i64 kd2, .int .i64 a, .int .i64 b, .int .i64 c, .string s, .string t]) HA.out 0 (.int .i64 j) rfl)
          have HZ1 := Aside0.mk (blk_far HZ.out (p := ⟨w.heap.size, 0, none⟩) (Nat.succ_ne_self _) (.int .i64 j))
          have HB1 : Aside0 (Below w.heap.size w (wr.setCell ⟨w.heap.size, 0, none⟩ (.int .i64 j))) := ⟨below_set HB.out (Nat.le_refl _)⟩
          clear a0 f0
          generalize wr.setCell ⟨w.heap.size, 0, none⟩ (.int .i64 j) = W6 at HA1 HZ1 HB1 ⊢
          have a0 := (blk_cell HA1.out 0).trans (show _ = some (.int .i64 (j : Int)) from rfl)
          have a1 := (blk_cell HA1.out 1).trans (show _ = some (.int .i64 a) from rfl)
          have a2 := (blk_cell HA1.out 2).trans (show _ = some (.int .i64 b) from rfl)
          have a3 := (blk_cell HA1.out 3).trans (show _ = some (.int .i64 c) from rfl)
          have a4 := (blk_cell HA1.out 4).trans (show _ = some (.string s) from rfl)
          have a5 := (blk_cell HA1.out 5).trans (show _ = some (.string t) from rfl)
          have HCJ := Aside0.mk (And.intro cj hj)
          clear cj hj
          go_wp2_with (first
            | (go_at_call 22; refine (none_act j HCJ.out.1 (.pointer (some ⟨w.heap.size + 1, 0, none⟩)) a b c s t _ (.inr ⟨_, rfl, HZ1.out⟩)).mono ?_; rintro e W7 ⟨rfl, hb7⟩; have HA7 := Aside0.mk (blk_below HA1.out hb7); have HZ7 := Aside0.mk (blk_below HZ1.out hb7); have HB7 := Aside0.mk (below_then HB1.out HB1.out.size hb7); clear hb7)
            | fail)
          have hjr := HCJ.out
          obtain ⟨g0, rfl⟩ : ∃ g0, gk = g0 + 1 := ⟨gk - 1, by omega⟩
          go_roundg g0
          case measure => omega
          case rel => exact ⟨j + 1, j, by (rw [show wrap64 ((j : Int) + 1) = ((j + 1 : Nat) : Int) by unfold wrap64; omega]), by omega, HA7, HZ7, HB7⟩
        · have d1 : decide (j < 5) = false := decide_eq_false cj
          have d1' : decide ((j : Int) < 5) = false := decide_eq_false (by omega)
          go_wp2_with fail
          go_roundg 1
          case measure => omega
          case rel => exact ⟨2, kd2, rfl, by omega, HA, HZ, HB⟩
    · obtain rfl : gk = 1 := by omega
      go_wp2_with (first | (go_at_call 15; refine (lives_calls _).mono ?_; rintro e W9 ⟨rfl, hb9⟩; have HB9 := Aside0.mk (below_then HB.out HB.out.size hb9); clear hb9) | fail)
      go_ret
      exact ⟨rfl, HB9.out⟩
    · omega
theorem pure_DomNone (k a b c : Int) (s t : ByteArray) : ∃ k : Unit, True := ⟨(), trivial⟩
theorem lawDomNone.calls (u : Unit) (k a b c : Int) (s t : ByteArray) (r : Bool) (w : World) (h : True) : Calls Try.prog 9 #[.agg #[.int .i64 k, .int .i64 a, .int .i64 b, .int .i64 c, .string s, .string t]] w fun e w' => e = .returned (.bool true) ∧ Below w.heap.size w w' := none_law k a b c s t w
end Go.Proofs.Ytmkakofnabfinaa.P
end
