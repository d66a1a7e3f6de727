/- WalkOnce: for every input the law returns true, and each argument reads behind the call as it read before. -/
import Derived.Test.YtpnlbmeeihbjaaaZWC12
import Derived.Shelf.Spec.SlicesGrow
section
set_option linter.unusedVariables false
set_option linter.unusedSimpArgs false
namespace Go.Proofs.Ytpnlbmeeihbjaaa.P
open Go.RowKit Go.Proofs.YtpnlbmeeihbjaaaW.PrintWords Go.Proofs.YtpnlbmeeihbjaaaW.PrintLast Go.Proofs.YtpnlbmeeihbjaaaW.PrintMore
attribute [local go_sem] max2_int min2_int max_two min_two max_three min_three max_four min_four
set_option linter.unusedVariables false
set_option linter.unusedSimpArgs false
def grRen : Go.Shelf.Ren := ⟨fun | 4 => 105 | n => n, fun | 22 => 29 | 25 => 3 | n => n, fun n => n⟩
theorem grLays : Go.Proofs.Lays8.n4 Try.prog grRen := {
  mixed := by kernel_rfl
  f4 := ⟨"slices.Grow[[]int,int]", by kernel_rfl, by kernel_rfl⟩
  t0 := by kernel_rfl
  a0 := fun w => by kernel_rfl
  z0 := fun w => by kernel_rfl
  v0 := fun w => by kernel_rfl
  t3 := by kernel_rfl
  a3 := fun w => by kernel_rfl
  z3 := fun w => by kernel_rfl
  v3 := fun w => by kernel_rfl
  t4 := by kernel_rfl
  a4 := fun w => by kernel_rfl
  z4 := fun w => by kernel_rfl
  v4 := fun w => by kernel_rfl
  t9 := by kernel_rfl
  a9 := fun w => by kernel_rfl
  z9 := fun w => by kernel_rfl
  v9 := fun w => by kernel_rfl
  t20 := by kernel_rfl
  a20 := fun w => by kernel_rfl
  z20 := fun w => by kernel_rfl
  v20 := fun w => by kernel_rfl
  t22 := by kernel_rfl
  a22 := fun w => by kernel_rfl
  z22 := fun w => by kernel_rfl
  v22 := fun w => by kernel_rfl }
theorem gr_info : ∃ i0, Try.prog.info? 3 = some i0 ∧ i0.zero = some (.int .i64 0) ∧ i0.size = 1 ∧ i0.bytes = 8 := by
  have h := info3
  cases e : Try.prog.info? 3 with
  | none => rw [e] at h; cases h
  | some i =>
    rw [e] at h
    have h := Option.some.inj h
    injection h with h1 h2
    injection h2 with h2 h3
    exact ⟨i, rfl, h1, h2, h3⟩
set_option maxHeartbeats 4000000 in
theorem grow_calls (n : Nat) (w : World) (hn : n ≤ 4398046511104) :
    Calls Try.prog 105 #[.slice none 0 0, .int .i64 n] w fun e w' => ∃ v, e = .returned v ∧ Kd.R (Kd.int .i64) 3 w' w.heap.size (fun _ => True) v [] ∧ Below w.heap.size w w' := by
  cases n with
  | zero =>
    refine (Any8.slices_Grow_room grLays none 0 0 0 w (Nat.le_refl _) (by decide) (by decide) (Nat.le_refl _)).mono ?_
    rintro e w' ⟨rfl, rfl⟩
    exact ⟨_, rfl, Kd.R_nil _ _ _ _ _, Below.refl _ _⟩
  | succ n =>
    obtain ⟨i0, e0, e1, e2, e3⟩ := gr_info
    refine (Any8.slices_Grow_grow grLays i0 (.int .i64 0) e0 e1 (by rw [e2]; decide) none 0 0 (n + 1) [] w (Nat.le_refl _) (by omega) (by rw [e3]; omega) (by omega) (by simp) (fun _ => rfl) (fun a h => by cases h)).mono ?_
    rintro e w' ⟨rfl, rfl⟩
    have hg := grownCap_ge w (0 + (n + 1)) 0 3
    obtain ⟨C, hC⟩ : ∃ C, C = grownCap w (0 + (n + 1)) 0 3 := ⟨_, rfl⟩
    rw [show grownCap w (0 + (n + 1)) 0 (grRen.t 25) = C from hC.symm]
    rw [← hC] at hg
    have hCm : C ≤ maxLen := by rw [hC]; exact grownCap_le_maxLen _ _ _ _ (by unfold maxLen; omega)
    refine ⟨_, rfl, own_laid (Nat.le_refl _) (heap_alloc_new w.drew _) rfl (by simp) hCm ?_ rfl (fun _ => True) trivial, (below_drew1 (Below.refl _ _)).trans (below_alloc (Below.refl _ w.drew) _)⟩
    rw [Array.size_append, Array.size_append, size_zeroCells, size_zeroCells]
    show 0 + (0 + (n + 1) - 0) * 1 + (C - (0 + (n + 1))) * 1 = C
    omega
set_option maxHeartbeats 8000000 in
set_option maxRecDepth 100000 in
theorem concat_calls (l m : List Int) (A B : Option Addr) (c d gb : Nat) (w : World) (hb : w.heap[gb]? = some (.cells #[.slice A l.length c, .slice B m.length d] 29 (0, 0))) (hA : Kd.C (Kd.int .i64) w A l.length l) (hB : Kd.C (Kd.int .i64) w B m.length m) (hn : l.length + m.length ≤ 1099511627776) :
    Calls Try.prog 88 #[.slice (some ⟨gb, 0, none⟩) 2 2] w fun e w' => ∃ v, e = .returned v ∧ Kd.R (Kd.int .i64) 3 w' w.heap.size (fun _ => True) v (l ++ m) ∧ Below w.heap.size w w' := by
  have HBK := Aside0.mk hb
  have HA := Aside0.mk hA
  have HM := Aside0.mk hB
  have HN := Aside0.mk hn
  clear hb hA hB hn
  go_enter Try.func88, Try.ntmps88
  go_wp2_with fail
  go_loopg [3, 5, 11] 3 (fun kq v3 v5 v11 w' => ∃ (i t : Nat), v11 = .int .i64 i ∧ v3 = .int .i64 t ∧ (i + kq = 3 ∧ i ≤ 2) ∧ w' = w ∧ Aside0 (t = if i = 0 then 0 else if i = 1 then l.length else l.length + m.length))
  case atStart => exact ⟨0, 0, rfl, rfl, by omega, rfl, ⟨rfl⟩⟩
  case round =>
    obtain ⟨i, t, rfl, rfl, hi, hwr, HT⟩ := hrel
    have hwr2 := hwr.symm
    clear hwr
    subst hwr2
    have k0 := (blk_cell HBK.out 0).trans (show _ = some (.slice A l.length c) from rfl)
    have k1 := (blk_cell HBK.out 1).trans (show _ = some (.slice B m.length d) from rfl)
    have hl1 : wrap64 (l.length : Int) = l.length := by have := HN.out; unfold wrap64; omega
    have hl2 : wrap64 ((l.length : Int) + (m.length : Int)) = (l.length : Int) + (m.length : Int) := by have := HN.out; unfold wrap64; omega
    have hl2n : decide ((l.length : Int) + (m.length : Int) < 0) = false := decide_eq_false (by omega)
    rcases i with _ | _ | _ | i
    · obtain rfl : t = 0 := by simpa using HT.out
      obtain rfl : gk = 3 := by omega
      go_wp2_with fail
      go_roundg 2
      case measure => omega
      case rel => exact ⟨1, l.length, rfl, rfl, by omega, rfl, ⟨rfl⟩⟩
    · obtain rfl : t = l.length := by simpa using HT.out
      obtain rfl : gk = 2 := by omega
      go_wp2_with fail
      go_roundg 1
      case measure => omega
      case rel => exact ⟨2, l.length + m.length, rfl, by rw [Int.natCast_add], by omega, rfl, ⟨rfl⟩⟩
    · have HT2 : Aside0 (t = l.length + m.length) := ⟨by simpa using HT.out⟩
      obtain rfl : gk = 1 := by omega
      clear hl1 hl2 hl2n k0 k1 HT
      go_wp2_with (first | (go_at_call 105; refine (grow_calls t _ (by have := HN.out; have := HT2.out; omega)).mono ?_; rintro e W1 ⟨v1, rfl, hR1, hb1⟩; have HR1 := Aside0.mk hR1; have HB1 := Aside0.mk hb1; clear hR1 hb1) | fail)
      go_loopg [6, 8, 27] 3 (fun kq v6 v8 v27 w' => ∃ (i : Nat), v27 = .int .i64 i ∧ (i + kq = 3 ∧ i ≤ 2) ∧ Aside0 (Kd.R (Kd.int .i64) 3 w' w.heap.size (fun _ => True) v6 (if i = 0 then [] else if i = 1 then l else l ++ m)) ∧ Aside0 (Below w.heap.size w w'))
      case atStart => exact ⟨0, rfl, by omega, HR1, HB1⟩
      case round =>
        clear HR1 HB1
        obtain ⟨i, rfl, hi2, HR, HB⟩ := hrel
        have k0 := (blk_cell (blk_below HBK.out HB.out) 0).trans (show _ = some (.slice A l.length c) from rfl)
        have k1 := (blk_cell (blk_below HBK.out HB.out) 1).trans (show _ = some (.slice B m.length d) from rfl)
        rcases i with _ | _ | _ | i
        · obtain rfl : gk = 3 := by omega
          rw [if_pos rfl] at HR
          go_wp2_with (first | ((with_reducible refine gate_builtin (b := .append) rfl ?_); at_builtin; refine Kd.R_append_row (w0 := w) (Value.int .i64) (0 : Int) (h1 := fun _ => rfl) w.heap.size rfl (.tmp 31) (.tmp 32) 29 3 (.int .i64 0) 8 rfl Try.underlying29 info3 rfl (by decide) _ [] l A l.length c (fun _ => True) rfl rfl (fun _ _ => trivial) HR.out (Kd.C_below HA.out HB.out) HB.out HB.out.size (by have := HN.out; simp; omega) ?_; intro v7 w7 hR hb7 _ _; have HR7 := Aside0.mk hR; have HB7 := Aside0.mk hb7; clear hR hb7) | fail)
          go_roundg 2
          case measure => omega
          case rel => exact ⟨1, rfl, by omega, HR7, HB7⟩
        · obtain rfl : gk = 2 := by omega
          rw [if_neg (by decide), if_pos rfl] at HR
          go_wp2_with (first | ((with_reducible refine gate_builtin (b := .append) rfl ?_); at_builtin; refine Kd.R_append_row (w0 := w) (Value.int .i64) (0 : Int) (h1 := fun _ => rfl) w.heap.size rfl (.tmp 31) (.tmp 32) 29 3 (.int .i64 0) 8 rfl Try.underlying29 info3 rfl (by decide) _ l m B m.length d (fun _ => True) rfl rfl (fun _ _ => trivial) HR.out (Kd.C_below HM.out HB.out) HB.out HB.out.size (by have := HN.out; simp; omega) ?_; intro v7 w7 hR hb7 _ _; have HR7 := Aside0.mk hR; have HB7 := Aside0.mk hb7; clear hR hb7) | fail)
          go_roundg 1
          case measure => omega
          case rel => exact ⟨2, rfl, by omega, HR7, HB7⟩
        · obtain rfl : gk = 1 := by omega
          rw [if_neg (by decide), if_neg (by decide)] at HR
          go_wp2_with fail
          go_ret
          exact ⟨_, rfl, HR.out, HB.out⟩
        · omega
    · omega
end Go.Proofs.Ytpnlbmeeihbjaaa.P
end
