/- The law NthParses (layer 4): the row and its tied card: for every input the law returns true, and the argument reads behind the call as it read before. No condition of ours. -/
import Derived.Test.YtmfnnhmlekdbjaaDoorZNP1
import Derived.Test.YtmfnnhmlekdbjaaDoorZNP4
import Derived.Test.YtmfnnhmlekdbjaaDoorZNP5
import Derived.Test.YtmfnnhmlekdbjaaDoorZNP6
import Derived.Test.YtmfnnhmlekdbjaaDoorProg
import Derived.Below
import Derived.Deep.Draws
import Derived.Deep.AppendLies
import Derived.Maps.AppendAt
import Derived.OwnWalk
import Derived.Laws.BytesArg
import Derived.Laws.MakeOwn
import Derived.Laws.OwnMore
import Derived.Deep.OwnRows
import Derived.Tactics
import Derived.Lib.ConvBytes
import Derived.Laws.Slices
import Derived.WalkKit
import Derived.KernelRfl
import Derived.RowKit3
import Derived.Deep.LoopGhost
import Derived.Deep.QuietTactic
import Derived.BigQuiet
import Derived.WideLaws
import Derived.Deep.DeepCutAuto
import Derived.Deep.CutBlock
import Derived.Deep.RegionHeld3
import Derived.Laws.Rows
import Derived.Lib.AppendStr
import Derived.ArgAppend
import Derived.Laws.IdiomCopy
import Derived.OrdersHeld
import Derived.Laws.BitsLemmas
import Derived.RowKit
import Derived.Laws.StructEq
section
set_option linter.unusedVariables false
set_option linter.unusedSimpArgs false
namespace Go.Proofs.YtmfnnhmlekdbjaaDoor.P
open Go.RowKit Go.Proofs.YtmfnnhmlekdbjaaDoorW.PrintWords Go.Proofs.YtmfnnhmlekdbjaaDoorW.PrintLast Go.Proofs.YtmfnnhmlekdbjaaDoorW.PrintMore
attribute [local go_sem] max2_int min2_int max_two min_two max_three min_three max_four min_four
set_option linter.unusedVariables false
set_option linter.unusedSimpArgs false
def errW : Option Int → Value
  | none => .nilIface
  | some c => .iface 0 (.int .i64 c)
theorem errW_none : errW none = .nilIface := rfl
theorem errW_some (c : Int) : errW (some c) = .iface 0 (.int .i64 c) := rfl
structure S30 where
  f0 : Int
  f1 : ByteArray
  f2 : ByteArray
  f3 : Bool
  f4 : Bool
def z30 : S30 := ⟨(0 : Int), (⟨#[]⟩ : ByteArray), (⟨#[]⟩ : ByteArray), false, false⟩
def k30 : Kd S30 := Kd.iso (Kd.pair (Kd.int .i64) (Kd.pair Kd.string (Kd.pair Kd.string (Kd.pair Kd.bool Kd.bool)))) (fun x : S30 => (x.f0, x.f1, x.f2, x.f3, x.f4))
theorem k30_open {w : World} {x : S30} {cs : List Value} (h : k30.K w x cs) : cs = [.int .i64 x.f0, .string x.f1, .string x.f2, .bool x.f3, .bool x.f4] := by
  obtain ⟨_, _, rfl, rfl, ⟨_, _, rfl, rfl, ⟨_, _, rfl, rfl, ⟨_, _, rfl, rfl, rfl⟩⟩⟩⟩ := h
  exact rfl
theorem k30_mk (w : World) (x : S30)  : k30.K w x [.int .i64 x.f0, .string x.f1, .string x.f2, .bool x.f3, .bool x.f4] := ⟨[.int .i64 x.f0], [.string x.f1, .string x.f2, .bool x.f3, .bool x.f4], rfl, rfl, ⟨[.string x.f1], [.string x.f2, .bool x.f3, .bool x.f4], rfl, rfl, ⟨[.string x.f2], [.bool x.f3, .bool x.f4], rfl, rfl, ⟨[.bool x.f3], [.bool x.f4], rfl, rfl, rfl⟩⟩⟩⟩
structure S32 where
  f0 : S30
  f1 : (List S32)
def z32 : S32 := ⟨z30, ([] : List S32)⟩
def F32 (d : Kd S32) : Kd S32 := Kd.iso (Kd.pair k30 (Kd.slice 32 d)) (fun x : S32 => (x.f0, x.f1))
theorem mono32 : Kd.Mono F32 := Kd.mono_iso _ (Kd.mono_pair (Kd.mono_const _) (Kd.mono_slice 32 Kd.mono_id))
theorem sub32 : Kd.Sub F32 [32] := Kd.sub_iso _ (Kd.sub_pair (Kd.sub_const _ (by decide)) (Kd.sub_slice 32 (by decide) Kd.sub_id))
theorem sz32 : ∀ n, (Kd.upto F32 6 [32] n).sz = 6 := Kd.upto_sz (fun _ => rfl)
def k32 : Kd S32 := Kd.fix F32 6 [32] sz32 (Kd.upto_E sub32)
theorem k32_open {w : World} {x : S32} {cs : List Value} (h : k32.K w x cs) : ∃ A5 c5, cs = [.int .i64 x.f0.f0, .string x.f0.f1, .string x.f0.f2, .bool x.f0.f3, .bool x.f0.f4, .slice A5 x.f1.length c5] ∧ x.f1.length ≤ c5 ∧ k32.C w A5 x.f1.length x.f1 := by
  obtain ⟨n, h⟩ := h
  cases n with
  | zero => exact h.elim
  | succ n =>
    obtain ⟨_, _, rfl, s0, ⟨A5, c5, rfl, l5, g5⟩⟩ := h
    obtain rfl := k30_open s0
    exact ⟨A5, c5, rfl, l5, Kd.fix_C g5⟩
theorem k32_mk (w : World) (x : S32) {A5 : Option Addr} {c5 : Nat} (l5 : x.f1.length ≤ c5) (g5 : k32.C w A5 x.f1.length x.f1) : k32.K w x [.int .i64 x.f0.f0, .string x.f0.f1, .string x.f0.f2, .bool x.f0.f3, .bool x.f0.f4, .slice A5 x.f1.length c5] := by
  obtain ⟨n5, q5⟩ := Kd.fix_C_back mono32 g5
  have r5 := Kd.upto_C_le mono32 sz32 (show n5 ≤ n5 by omega) q5
  exact ⟨n5 + 1, ⟨[.int .i64 x.f0.f0, .string x.f0.f1, .string x.f0.f2, .bool x.f0.f3, .bool x.f0.f4], [.slice A5 x.f1.length c5], rfl, (k30_mk w x.f0 ), ⟨A5, c5, rfl, l5, r5⟩⟩⟩
def rd_T32 (xs : List S32) (i : Int) : S32 := xs.getD i.toNat z32
theorem at_T32 {w : World} {A : Option Addr} {n : Nat} {xs : List S32} (h : Kd.C k32 w A n xs) (i : Int) (h0 : 0 ≤ i) (h1 : i < n) : ∃ ad A5 c5, A = some ad ∧ w.cell? (ad.add (i.toNat * 6)) = some (.int .i64 (rd_T32 xs i).f0.f0) ∧ w.cell? ⟨(ad.add (i.toNat * 6)).block, (ad.add (i.toNat * 6)).off + 1, none⟩ = some (.string (rd_T32 xs i).f0.f1) ∧ w.cell? ⟨(ad.add (i.toNat * 6)).block, (ad.add (i.toNat * 6)).off + 2, none⟩ = some (.string (rd_T32 xs i).f0.f2) ∧ w.cell? ⟨(ad.add (i.toNat * 6)).block, (ad.add (i.toNat * 6)).off + 3, none⟩ = some (.bool (rd_T32 xs i).f0.f3) ∧ w.cell? ⟨(ad.add (i.toNat * 6)).block, (ad.add (i.toNat * 6)).off + 4, none⟩ = some (.bool (rd_T32 xs i).f0.f4) ∧ w.cell? ⟨(ad.add (i.toNat * 6)).block, (ad.add (i.toNat * 6)).off + 5, none⟩ = some (.slice A5 (rd_T32 xs i).f1.length c5) ∧ (rd_T32 xs i).f1.length ≤ c5 ∧ k32.C w A5 (rd_T32 xs i).f1.length (rd_T32 xs i).f1 := by
  obtain ⟨ad, c, e, _, hK, hc0⟩ := Kd.C_get h z32 i h0 h1
  have hc : ∀ j u, c[j]? = some u → w.cell? (ad.add (i.toNat * 6 + j)) = some u := hc0
  obtain ⟨A5, c5, rfl, l5, g5⟩ := k32_open hK
  exact ⟨ad, A5, c5, e, hc 0 _ rfl, by rw [← add_field _ _ 1 (by omega)]; exact hc 1 _ rfl, by rw [← add_field _ _ 2 (by omega)]; exact hc 2 _ rfl, by rw [← add_field _ _ 3 (by omega)]; exact hc 3 _ rfl, by rw [← add_field _ _ 4 (by omega)]; exact hc 4 _ rfl, by rw [← add_field _ _ 5 (by omega)]; exact hc 5 _ rfl, l5, g5⟩
end Go.Proofs.YtmfnnhmlekdbjaaDoor.P
end
section
set_option linter.unusedVariables false
set_option linter.unusedSimpArgs false
namespace Go.Proofs.YtmfnnhmlekdbjaaDoor.P
open Go.RowKit Go.Proofs.YtmfnnhmlekdbjaaDoorW.PrintWords Go.Proofs.YtmfnnhmlekdbjaaDoorW.PrintLast Go.Proofs.YtmfnnhmlekdbjaaDoorW.PrintMore
open Go.Lib
attribute [local go_sem] max2_int min2_int max_two min_two max_three min_three max_four min_four
set_option linter.unusedVariables false
set_option linter.unusedSimpArgs false
def btw (lo hi c : Int) : Bool := decide (lo ≤ c) && decide (c ≤ hi)
set_option maxHeartbeats 8000000 in
set_option maxRecDepth 100000 in
theorem in_calls (lo hi c : Int) (B1 B2 : Nat) (w : World) (h1 : w.cell? ⟨B1, 0, none⟩ = some (.int .i32 lo)) (h2 : w.cell? ⟨B2, 0, none⟩ = some (.int .i32 hi)) :
    Calls Tryd.prog 63 #[.int .i32 c, .pointer (some ⟨B1, 0, none⟩), .pointer (some ⟨B2, 0, none⟩)] w fun e w' => e = .returned (.bool (btw lo hi c)) ∧ Below w.heap.size w w' := by
  unfold btw
  by_cases k : lo ≤ c
  · have k1 : decide (lo ≤ c) = true := decide_eq_true k
    rw [k1]
    clear k
    go_enter Tryd.func63, Tryd.ntmps63
    go_wp2_with fail
    go_ret
    exact ⟨rfl, Below.refl _ _⟩
  · have k1 : decide (lo ≤ c) = false := decide_eq_false k
    rw [k1]
    clear k
    go_enter Tryd.func63, Tryd.ntmps63
    go_wp2_with fail
    go_ret
    exact ⟨rfl, Below.refl _ _⟩
set_option maxHeartbeats 8000000 in
set_option maxRecDepth 100000 in
theorem txwithin_calls (lo hi : Int) (w : World) :
    Calls Tryd.prog 48 #[.int .i32 lo, .int .i32 hi] w fun e w' => ∃ b1 b2, e = .returned (.func (.func 63) #[] #[.pointer (some ⟨b1, 0, none⟩), .pointer (some ⟨b2, 0, none⟩)]) ∧ w'.cell? ⟨b1, 0, none⟩ = some (.int .i32 lo) ∧ w'.cell? ⟨b2, 0, none⟩ = some (.int .i32 hi) ∧ Below w.heap.size w w' := by
  have hmf : ∀ (fn : Fn) (first cap : Array Value) (w : World), (Instr.makeFunc fn first cap).run Tryd.prog w = .ok (.func fn first cap) w := fun _ _ _ _ => rfl
  go_enter Tryd.func48, Tryd.ntmps48
  go_wp2_with fail
  go_ret
  exact ⟨_, _, rfl, (blk_cell (blk_alloc (blk_new _ _) _) 0).trans rfl, (blk_cell (heap_alloc2_new _ _ _) 0).trans rfl, below_alloc (below_alloc (Below.refl _ _) _) _⟩
set_option maxHeartbeats 8000000 in
set_option maxRecDepth 100000 in
theorem digit_calls (c : Int) (w : World) :
    Calls Tryd.prog 35 #[.int .i32 c] w fun e w' => e = .returned (.bool (btw 48 57 c)) ∧ Below w.heap.size w w' := by
  go_enter Tryd.func35, Tryd.ntmps35
  go_wp2_with (first
    | (go_at_call 48; refine (txwithin_calls 48 57 _).mono ?_; rintro e w1 ⟨b1, b2, rfl, h1, h2, hb1⟩; have HB1 := Aside0.mk hb1; have H12 := Aside0.mk (And.intro h1 h2); clear hb1 h1 h2)
    | fail)
  refine (in_calls 48 57 c b1 b2 _ H12.out.1 H12.out.2).mono ?_
  rintro e w2 ⟨rfl, hb2⟩
  have HB2 := Aside0.mk (below_then HB1.out HB1.out.size hb2)
  clear hb2
  go_wp2_with fail
  go_ret
  exact ⟨rfl, HB2.out⟩
def text_Digit.f (a0 : Int) : Option Bool := some (btw 48 57 a0)
theorem text_Digit.calls (a0 : Int) (r : Bool) (w : World) (h : text_Digit.f a0 = some r) :
    Calls Tryd.prog 35 #[.int .i32 a0] w fun e w' => e = .returned (.bool r) ∧ Below w.heap.size w w' := by
  obtain rfl := Option.some.inj h
  exact digit_calls a0 w
end Go.Proofs.YtmfnnhmlekdbjaaDoor.P
end
section
set_option linter.unusedVariables false
set_option linter.unusedSimpArgs false
namespace Go.Proofs.YtmfnnhmlekdbjaaDoor.P
open Go.RowKit Go.Proofs.YtmfnnhmlekdbjaaDoorW.PrintWords Go.Proofs.YtmfnnhmlekdbjaaDoorW.PrintLast Go.Proofs.YtmfnnhmlekdbjaaDoorW.PrintMore
attribute [local go_sem] max2_int min2_int max_two min_two max_three min_three max_four min_four
set_option linter.unusedVariables false
set_option linter.unusedSimpArgs false
mutual
def gouacheref02_Whole.j0 : Nat → ByteArray → Bool → Option (Int × Bool)
  | 0, _, _ => none
  | k + 1, x0, x4 => if (x0.size : Int) > 0 then (if 0 < (x0.size : Int) then (if (bt x0 0) = 45 then (gouacheref02_Whole.j1 k x0 x4 true) else (gouacheref02_Whole.j1 k x0 x4 ((bt x0 0) == 43))) else (none)) else (gouacheref02_Whole.j1 k x0 x4 false)
def gouacheref02_Whole.j1 : Nat → ByteArray → Bool → Bool → Option (Int × Bool)
  | 0, _, _, _ => none
  | k + 1, x0, x4, x27 => if x27 = true then (if 1 ≤ (x0.size : Int) then (gouacheref02_Whole.j2 k (x0.extract 1 x0.size) x4) else (none)) else (gouacheref02_Whole.j2 k x0 x4)
def gouacheref02_Whole.j2 : Nat → ByteArray → Bool → Option (Int × Bool)
  | 0, _, _ => none
  | k + 1, x0, x4 => gouacheref02_Whole.l0 k x0 x4 0 0
def gouacheref02_Whole.l0 : Nat → ByteArray → Bool → Int → Int → Option (Int × Bool)
  | 0, _, _, _, _ => none
  | k + 1, x0, x4, x5, x6 => if x6 < (x0.size : Int) then (if 0 ≤ x6 then (if (bt x0 x6) < 48 then (gouacheref02_Whole.j4 k x0 x4 x5 x6 true) else (gouacheref02_Whole.j4 k x0 x4 x5 x6 (decide ((bt x0 x6) > 57)))) else (none)) else (if x4 = true then (some (wrap64 (-x5), decide ((x0.size : Int) > 0))) else (some (x5, decide ((x0.size : Int) > 0))))
def gouacheref02_Whole.j4 : Nat → ByteArray → Bool → Int → Int → Bool → Option (Int × Bool)
  | 0, _, _, _, _, _ => none
  | k + 1, x0, x4, x5, x6, x45 => if x45 = true then (some (0, false)) else (if 0 ≤ x6 then (if x6 < (x0.size : Int) then (if (wrap64 ((wrap64 (10 * x5)) + (((bt x0 x6) - 48) % 256))) > 1000000 then (gouacheref02_Whole.l0 k x0 x4 1000000 (wrap64 (x6 + 1))) else (gouacheref02_Whole.l0 k x0 x4 (wrap64 ((wrap64 (10 * x5)) + (((bt x0 x6) - 48) % 256))) (wrap64 (x6 + 1)))) else (none)) else (none))
end
def gouacheref02_Whole.f (k : Nat) (a0 : ByteArray) : Option (Int × Bool) := if (a0.size : Int) > 0 then (if 0 < (a0.size : Int) then (gouacheref02_Whole.j0 k a0 ((bt a0 0) == 45)) else (none)) else (gouacheref02_Whole.j0 k a0 false)
set_option maxHeartbeats 8000000 in
set_option maxRecDepth 100000 in
theorem gouacheref02_Whole.calls (k : Nat) (a0 : ByteArray) (r1 : Int) (r2 : Bool) (w : World) (h : gouacheref02_Whole.f k a0 = some (r1, r2)) :
    Calls Tryd.prog 25 #[.string a0] w fun e w' => e = .returned (.tuple #[.int .i64 r1, .bool r2]) ∧ Drawn0 w w' := by
  have H : (if (a0.size : Int) > 0 then (if 0 < (a0.size : Int) then (gouacheref02_Whole.j0 k a0 ((bt a0 0) == 45)) else (none)) else (gouacheref02_Whole.j0 k a0 false)) = some (r1, r2) := h
  clear h
  have HC2 := Aside0.mk H
  clear H
  go_enter Tryd.func25, Tryd.ntmps25
  go_upto_region 1 with (fail)
  go_cut [4] (fun v4 wc => ∃ (kq : Nat) (x4_1 : Bool), v4 = .bool x4_1 ∧ Aside0 (gouacheref02_Whole.j0 kq a0 x4_1 = some (r1, r2)) ∧ Aside0 (kq ≤ k) ∧ Drawn0 w wc)
  case first =>
    have H := HC2.out
    clear HC2
    by_cases c3 : (a0.size : Int) > 0
    · rw [if_pos c3] at H
      have c3b0 : decide (0 < (a0.size : Int)) = true := decide_eq_true c3
      have c3b1 : decide (0 < a0.size) = true := decide_eq_true (by omega)
      clear c3
      (first | rw [c3b0] | (simp only [i64_w, i32_w]; rw [c3b0]) | skip)
      by_cases c4 : 0 < (a0.size : Int)
      · rw [if_pos c4] at H
        have c4b0 : decide (0 < (a0.size : Int)) = true := decide_eq_true c4
        have c4b1 : decide (0 < a0.size) = true := decide_eq_true (by omega)
        clear c4
        have H' := Aside0.mk H
        clear H
        have p5 : 0 ≤ (0 : Int) := (by omega)
        have q5 : 0 < a0.size := (by have : (0 : Int) < (a0.size : Int) := of_decide_eq_true (by first | (with_reducible assumption) | assumption); omega)
        have hx5 : ∀ h : 0 < a0.size, ((a0[0]'h).toNat : Int) = bt a0 0 := bt_at a0 0
        clear p5
        have qi5 : (0 < (a0.size : Int)) = True := eq_true (of_decide_eq_true (by first | (with_reducible assumption) | assumption))
        replace q5 := eq_true q5
        go_wp2
        go_meet
        case rel => exact ⟨_, (((bt a0 0) == 45)), (by first | rfl | (simp; done) | (simp [*]; done)), H', ⟨by first | omega | exact Nat.le_refl _⟩, by repeat (first | exact Drawn0.refl _ | apply Drawn0.step)⟩
      · rw [if_neg c4] at H
        exact absurd H (by simp)
    · rw [if_neg c3] at H
      have c3b0 : decide (0 < (a0.size : Int)) = false := decide_eq_false c3
      have c3b1 : decide (0 < a0.size) = false := decide_eq_false (by omega)
      clear c3
      (first | rw [c3b0] | (simp only [i64_w, i32_w]; rw [c3b0]) | skip)
      have H' := Aside0.mk H
      clear H
      go_wp2
      go_meet
      case rel => exact ⟨_, (false), (by first | rfl | (simp; done) | (simp [*]; done)), H', ⟨by first | omega | exact Nat.le_refl _⟩, by repeat (first | exact Drawn0.refl _ | apply Drawn0.step)⟩
  case rest =>
    clear HC2
    try clear c2
    try clear p2
    try clear c3
    try clear c3b0
    try clear c3b1
    try clear c4
    try clear c4b0
    try clear c4b1
    try clear p5
    try clear q5
    try clear hx5
    try clear qi5
    try clear p5
    try clear q5
    obtain ⟨kq, x4_1, rfl, HA, HJ1, ⟨mc1, rfl⟩⟩ := hcut
    cases kq with
    | zero => exact absurd HA.out (by simp [gouacheref02_Whole.j0])
    | succ kj1 =>
      have H := HA.out
      clear HA
      simp only [gouacheref02_Whole.j0] at H
      have HC6 := Aside0.mk H
      clear H
      go_upto_region 2 with (fail)
      go_cut [27] (fun v27 wc => ∃ (kq : Nat) (x27_5 : Bool), v27 = .bool x27_5 ∧ Aside0 (gouacheref02_Whole.j1 kq a0 x4_1 x27_5 = some (r1, r2)) ∧ Aside0 (kq ≤ kj1) ∧ Drawn0 w wc)
      case first =>
        have H := HC6.out
        clear HC6
        by_cases c7 : (a0.size : Int) > 0
        · rw [if_pos c7] at H
          have c7b0 : decide (0 < (a0.size : Int)) = true := decide_eq_true c7
          have c7b1 : decide (0 < a0.size) = true := decide_eq_true (by omega)
          clear c7
          (first | rw [c7b0] | (simp only [i64_w, i32_w]; rw [c7b0]) | skip)
          by_cases c8 : 0 < (a0.size : Int)
          · rw [if_pos c8] at H
            have c8b0 : decide (0 < (a0.size : Int)) = true := decide_eq_true c8
            have c8b1 : decide (0 < a0.size) = true := decide_eq_true (by omega)
            clear c8
            by_cases c10 : (bt a0 0) = 45
            · rw [if_pos c10] at H
              have c10b0 : ((bt a0 0) == 45) = true := beq_iff_eq.mpr c10
              have c10b1 : ((bt a0 0) != 45) = false := bne_eq_false_iff_eq.mpr c10
              clear c10
              have H' := Aside0.mk H
              clear H
              have p9 : 0 ≤ (0 : Int) := (by omega)
              have q9 : 0 < a0.size := (by have : (0 : Int) < (a0.size : Int) := of_decide_eq_true (by first | (with_reducible assumption) | assumption); omega)
              have hx9 : ∀ h : 0 < a0.size, ((a0[0]'h).toNat : Int) = bt a0 0 := bt_at a0 0
              clear p9
              have qi9 : (0 < (a0.size : Int)) = True := eq_true (of_decide_eq_true (by first | (with_reducible assumption) | assumption))
              replace q9 := eq_true q9
              go_wp2
              go_meet
              case rel => exact ⟨_, (true), (by first | rfl | (simp; done) | (simp [*]; done)), H', ⟨by have := HJ1.out; first | omega | exact Nat.le_refl _⟩, by repeat (first | exact Drawn0.refl _ | apply Drawn0.step)⟩
            · rw [if_neg c10] at H
              have c10b0 : ((bt a0 0) == 45) = false := beq_eq_false_iff_ne.mpr c10
              have c10b1 : ((bt a0 0) != 45) = true := bne_iff_ne.mpr c10
              have H' := Aside0.mk H
              clear H
              have p9 : 0 ≤ (0 : Int) := (by omega)
              have q9 : 0 < a0.size := (by have : (0 : Int) < (a0.size : Int) := of_decide_eq_true (by first | (with_reducible assumption) | assumption); omega)
              have hx9 : ∀ h : 0 < a0.size, ((a0[0]'h).toNat : Int) = bt a0 0 := bt_at a0 0
              clear p9
              have qi9 : (0 < (a0.size : Int)) = True := eq_true (of_decide_eq_true (by first | (with_reducible assumption) | assumption))
              replace q9 := eq_true q9
              have p11 : 0 ≤ (0 : Int) := (by omega)
              have q11 : 0 < a0.size := (by have : (0 : Int) < (a0.size : Int) := of_decide_eq_true (by first | (with_reducible assumption) | assumption); omega)
              have hx11 : ∀ h : 0 < a0.size, ((a0[0]'h).toNat : Int) = bt a0 0 := bt_at a0 0
              clear p11
              have qi11 : (0 < (a0.size : Int)) = True := eq_true (of_decide_eq_true (by first | (with_reducible assumption) | assumption))
              replace q11 := eq_true q11
              go_wp2
              go_meet
              case rel => exact ⟨_, (((bt a0 0) == 43)), (by first | rfl | (simp; done) | (simp [*]; done)), H', ⟨by have := HJ1.out; first | omega | exact Nat.le_refl _⟩, by repeat (first | exact Drawn0.refl _ | apply Drawn0.step)⟩
          · rw [if_neg c8] at H
            exact absurd H (by simp)
        · rw [if_neg c7] at H
          have c7b0 : decide (0 < (a0.size : Int)) = false := decide_eq_false c7
          have c7b1 : decide (0 < a0.size) = false := decide_eq_false (by omega)
          clear c7
          (first | rw [c7b0] | (simp only [i64_w, i32_w]; rw [c7b0]) | skip)
          have H' := Aside0.mk H
          clear H
          go_wp2
          go_meet
          case rel => exact ⟨_, (false), (by first | rfl | (simp; done) | (simp [*]; done)), H', ⟨by have := HJ1.out; first | omega | exact Nat.le_refl _⟩, by repeat (first | exact Drawn0.refl _ | apply Drawn0.step)⟩
      case rest =>
        clear HC6
        try clear c1
        try clear p1
        try clear q1
        try clear hx1
        try clear qi1
        try clear c2
        try clear p2
        try clear c3
        try clear c3b0
        try clear c3b1
        try clear c4
        try clear c4b0
        try clear c4b1
        try clear p5
        try clear q5
        try clear hx5
        try clear qi5
        try clear c7
        try clear c7b0
        try clear c7b1
        try clear c8
        try clear c8b0
        try clear c8b1
        try clear p9
        try clear q9
        try clear hx9
        try clear qi9
        try clear c10
        try clear c10b0
        try clear c10b1
        try clear p11
        try clear q11
        try clear hx11
        try clear qi11
        try clear p11
        try clear p2
        try clear p5
        try clear p9
        try clear q11
        try clear q5
        try clear q9
        obtain ⟨kq, x27_5, rfl, HA, HJ5, ⟨mc5, rfl⟩⟩ := hcut
        cases kq with
        | zero => exact absurd HA.out (by simp [gouacheref02_Whole.j1])
        | succ kj5 =>
          have H := HA.out
          clear HA
          simp only [gouacheref02_Whole.j1] at H
          have HC12 := Aside0.mk H
          clear H
          go_upto_if 27 with (fail)
          go_cut [0] (fun v0 wc => ∃ (kq : Nat) (x0_11 : ByteArray), v0 = .string x0_11 ∧ Aside0 (gouacheref02_Whole.j2 kq x0_11 x4_1 = some (r1, r2)) ∧ Aside0 (kq ≤ kj5) ∧ Drawn0 w wc)
          case first =>
            have H := HC12.out
            clear HC12
            by_cases c13 : x27_5 = true
            · subst c13
              have H1 : (if 1 ≤ (a0.size : Int) then (gouacheref02_Whole.j2 kj5 (a0.extract 1 a0.size) x4_1) else (none)) = some (r1, r2) := by rw [if_pos rfl] at H; exact H
              clear H
              have H := H1
              clear H1
              by_cases c14 : 1 ≤ (a0.size : Int)
              · rw [if_pos c14] at H
                have c14b0 := eq_true c14
                have c14b1 : decide (1 ≤ (a0.size : Int)) = true := decide_eq_true c14
                clear c14
                have H' := Aside0.mk H
                clear H
                go_wp2
                go_meet
                case rel => exact ⟨_, (a0.extract 1 a0.size), (by first | rfl | (simp; done) | (simp [*]; done)), H', ⟨by have := HJ1.out; have := HJ5.out; first | omega | exact Nat.le_refl _⟩, by repeat (first | exact Drawn0.refl _ | apply Drawn0.step)⟩
              · rw [if_neg c14] at H
                exact absurd H (by simp)
            · replace c13 := Bool.eq_false_iff.mpr c13
              subst c13
              have H1 : (gouacheref02_Whole.j2 kj5 a0 x4_1) = some (r1, r2) := by rw [if_neg (show ¬ (false = true) by decide)] at H; exact H
              clear H
              have H := H1
              clear H1
              have H' := Aside0.mk H
              clear H
              go_wp2
              go_meet
              case rel => exact ⟨_, (a0), (by first | rfl | (simp; done) | (simp [*]; done)), H', ⟨by have := HJ1.out; have := HJ5.out; first | omega | exact Nat.le_refl _⟩, by repeat (first | exact Drawn0.refl _ | apply Drawn0.step)⟩
          case rest =>
            clear HC12
            try clear c1
            try clear p1
            try clear q1
            try clear hx1
            try clear qi1
            try clear c2
            try clear p2
            try clear c3
            try clear c3b0
            try clear c3b1
            try clear c4
            try clear c4b0
            try clear c4b1
            try clear c5
            try clear p5
            try clear q5
            try clear hx5
            try clear qi5
            try clear c7
            try clear c7b0
            try clear c7b1
            try clear c8
            try clear c8b0
            try clear c8b1
            try clear p9
            try clear q9
            try clear hx9
            try clear qi9
            try clear c10
            try clear c10b0
            try clear c10b1
            try clear p11
            try clear q11
            try clear hx11
            try clear qi11
            try clear c13
            try clear c14
            try clear c14b0
            try clear c14b1
            try clear p1
            try clear p11
            try clear p2
            try clear p5
            try clear p9
            try clear q1
            try clear q11
            try clear q5
            try clear q9
            obtain ⟨kq, x0_11, rfl, HA, HJ11, ⟨mc11, rfl⟩⟩ := hcut
            cases kq with
            | zero => exact absurd HA.out (by simp [gouacheref02_Whole.j2])
            | succ kj11 =>
              have H := HA.out
              clear HA
              simp only [gouacheref02_Whole.j2] at H
              have H' := Aside0.mk H
              clear H
              go_wp2
              go_loopg [5, 6] kj11 (fun kq v5 v6 w' => ∃ (x5_4 : Int) (x6_4 : Int), v5 = .int .i64 x5_4 ∧ v6 = .int .i64 x6_4 ∧ Aside0 (gouacheref02_Whole.l0 kq x0_11 x4_1 x5_4 x6_4 = some (r1, r2)) ∧ Aside0 (kq ≤ kj11) ∧ Drawn0 w w')
              case atStart => exact ⟨(0), (0), (by first | rfl | (simp; done) | (simp [*]; done)), (by first | rfl | (simp; done) | (simp [*]; done)), H', ⟨Nat.le_refl _⟩, by repeat (first | exact Drawn0.refl _ | apply Drawn0.step)⟩
              case round =>
                clear H'
                try clear c1
                try clear p1
                try clear q1
                try clear hx1
                try clear qi1
                try clear c2
                try clear p2
                try clear c3
                try clear c3b0
                try clear c3b1
                try clear c4
                try clear c4b0
                try clear c4b1
                try clear c5
                try clear p5
                try clear q5
                try clear hx5
                try clear qi5
                try clear c7
                try clear c7b0
                try clear c7b1
                try clear c8
                try clear c8b0
                try clear c8b1
                try clear p9
                try clear q9
                try clear hx9
                try clear qi9
                try clear c10
                try clear c10b0
                try clear c10b1
                try clear c11
                try clear p11
                try clear q11
                try clear hx11
                try clear qi11
                try clear c13
                try clear c14
                try clear c14b0
                try clear c14b1
                try clear p1
                try clear p11
                try clear p2
                try clear p5
                try clear p9
                try clear q1
                try clear q11
                try clear q5
                try clear q9
                obtain ⟨x5_4, x6_4, rfl, rfl, HA, HK4, ⟨m4, rfl⟩⟩ := hrel
                cases gk with
                | zero => exact absurd HA.out (by simp [gouacheref02_Whole.l0])
                | succ k4 =>
                  have H := HA.out
                  clear HA
                  simp only [gouacheref02_Whole.l0] at H
                  by_cases c15 : x6_4 < (x0_11.size : Int)
                  · rw [if_pos c15] at H
                    have c15b0 : decide (x6_4 < (x0_11.size : Int)) = true := decide_eq_true c15
                    clear c15
                    have HC16 := Aside0.mk H
                    clear H
                    go_upto_region 8 with (fail)
                    go_cut [45] (fun v45 wc => ∃ (kq : Nat) (x45_15 : Bool), v45 = .bool x45_15 ∧ Aside0 (gouacheref02_Whole.j4 kq x0_11 x4_1 x5_4 x6_4 x45_15 = some (r1, r2)) ∧ Aside0 (kq ≤ k4) ∧ Drawn0 w wc)
                    case first =>
                      have H := HC16.out
                      clear HC16
                      by_cases c17 : 0 ≤ x6_4
                      · rw [if_pos c17] at H
                        have c17b0 : decide (0 ≤ x6_4) = true := decide_eq_true c17
                        clear c17
                        (first | rw [c17b0] | (simp only [i64_w, i32_w]; rw [c17b0]) | skip)
                        by_cases c19 : (bt x0_11 x6_4) < 48
                        · rw [if_pos c19] at H
                          have c19b0 : decide ((bt x0_11 x6_4) < 48) = true := decide_eq_true c19
                          clear c19
                          have H' := Aside0.mk H
                          clear H
                          have p18 : 0 ≤ (x6_4 : Int) := of_decide_eq_true (by first | (with_reducible assumption) | assumption)
                          have q18 : x6_4 < (x0_11.size : Int) := of_decide_eq_true (by first | (with_reducible assumption) | assumption)
                          have hx18 := bt_at x0_11 x6_4
                          replace p18 := eq_true p18
                          replace q18 := eq_true q18
                          go_wp2
                          go_meet
                          case rel => exact ⟨_, (true), (by first | rfl | (simp; done) | (simp [*]; done)), H', ⟨by have := HJ1.out; have := HJ5.out; have := HJ11.out; have := HK4.out; first | omega | exact Nat.le_refl _⟩, by repeat (first | exact Drawn0.refl _ | apply Drawn0.step)⟩
                        · rw [if_neg c19] at H
                          have c19b0 : decide ((bt x0_11 x6_4) < 48) = false := decide_eq_false c19
                          clear c19
                          have H' := Aside0.mk H
                          clear H
                          have p18 : 0 ≤ (x6_4 : Int) := of_decide_eq_true (by first | (with_reducible assumption) | assumption)
                          have q18 : x6_4 < (x0_11.size : Int) := of_decide_eq_true (by first | (with_reducible assumption) | assumption)
                          have hx18 := bt_at x0_11 x6_4
                          replace p18 := eq_true p18
                          replace q18 := eq_true q18
                          have p20 : 0 ≤ (x6_4 : Int) := of_decide_eq_true (by first | (with_reducible assumption) | assumption)
                          have q20 : x6_4 < (x0_11.size : Int) := of_decide_eq_true (by first | (with_reducible assumption) | assumption)
                          have hx20 := bt_at x0_11 x6_4
                          replace p20 := eq_true p20
                          replace q20 := eq_true q20
                          go_wp2
                          go_meet
                          case rel => exact ⟨_, (decide ((bt x0_11 x6_4) > 57)), (by first | rfl | (simp; done) | (simp [*]; done)), H', ⟨by have := HJ1.out; have := HJ5.out; have := HJ11.out; have := HK4.out; first | omega | exact Nat.le_refl _⟩, by repeat (first | exact Drawn0.refl _ | apply Drawn0.step)⟩
                      · rw [if_neg c17] at H
                        exact absurd H (by simp)
                    case rest =>
                      clear HC16
                      try clear c1
                      try clear p1
                      try clear q1
                      try clear hx1
                      try clear qi1
                      try clear c2
                      try clear p2
                      try clear q2
                      try clear hx2
                      try clear c3
                      try clear c3b0
                      try clear c3b1
                      try clear c4
                      try clear c4b0
                      try clear c4b1
                      try clear c5
                      try clear p5
                      try clear q5
                      try clear hx5
                      try clear qi5
                      try clear c7
                      try clear c7b0
                      try clear c7b1
                      try clear c8
                      try clear c8b0
                      try clear c8b1
                      try clear p9
                      try clear q9
                      try clear hx9
                      try clear qi9
                      try clear c10
                      try clear c10b0
                      try clear c10b1
                      try clear c11
                      try clear p11
                      try clear q11
                      try clear hx11
                      try clear qi11
                      try clear c13
                      try clear c14
                      try clear c14b0
                      try clear c14b1
                      try clear c15
                      try clear c15b0
                      try clear c17
                      try clear c17b0
                      try clear p18
                      try clear q18
                      try clear hx18
                      try clear c19
                      try clear c19b0
                      try clear p20
                      try clear q20
                      try clear hx20
                      try clear p1
                      try clear p11
                      try clear p18
                      try clear p2
                      try clear p20
                      try clear p5
                      try clear p9
                      try clear q1
                      try clear q11
                      try clear q18
                      try clear q20
                      try clear q5
                      try clear q9
                      obtain ⟨kq, x45_15, rfl, HA, HJ15, ⟨mc15, rfl⟩⟩ := hcut
                      cases kq with
                      | zero => exact absurd HA.out (by simp [gouacheref02_Whole.j4])
                      | succ kj15 =>
                        have H := HA.out
                        clear HA
                        simp only [gouacheref02_Whole.j4] at H
                        by_cases c21 : x45_15 = true
                        · subst c21
                          have H1 : (some (0, false)) = some (r1, r2) := by rw [if_pos rfl] at H; exact H
                          clear H
                          have H := H1
                          clear H1
                          simp only [Option.some.injEq, Prod.mk.injEq] at H
                          obtain ⟨rfl, rfl⟩ := H
                          go_wp2
                          go_ret2
                          exact ⟨by first | rfl | (simp; done) | (simp [*]; done), by repeat (first | exact Drawn0.refl _ | apply Drawn0.step)⟩
                        · replace c21 := Bool.eq_false_iff.mpr c21
                          subst c21
                          have H1 : (if 0 ≤ x6_4 then (if x6_4 < (x0_11.size : Int) then (if (wrap64 ((wrap64 (10 * x5_4)) + (((bt x0_11 x6_4) - 48) % 256))) > 1000000 then (gouacheref02_Whole.l0 kj15 x0_11 x4_1 1000000 (wrap64 (x6_4 + 1))) else (gouacheref02_Whole.l0 kj15 x0_11 x4_1 (wrap64 ((wrap64 (10 * x5_4)) + (((bt x0_11 x6_4) - 48) % 256))) (wrap64 (x6_4 + 1)))) else (none)) else (none)) = some (r1, r2) := by rw [if_neg (show ¬ (false = true) by decide)] at H; exact H
                          clear H
                          have H := H1
                          clear H1
                          by_cases c22 : 0 ≤ x6_4
                          · rw [if_pos c22] at H
                            have c22b0 : decide (0 ≤ x6_4) = true := decide_eq_true c22
                            clear c22
                            by_cases c23 : x6_4 < (x0_11.size : Int)
                            · rw [if_pos c23] at H
                              have c23b0 : decide (x6_4 < (x0_11.size : Int)) = true := decide_eq_true c23
                              clear c23
                              by_cases c25 : (wrap64 ((wrap64 (10 * x5_4)) + (((bt x0_11 x6_4) - 48) % 256))) > 1000000
                              · rw [if_pos c25] at H
                                have c25b0 : decide (1000000 < (wrap64 ((wrap64 (10 * x5_4)) + (((bt x0_11 x6_4) - 48) % 256)))) = true := decide_eq_true c25
                                clear c25
                                have H' := Aside0.mk H
                                clear H
                                have p24 : 0 ≤ (x6_4 : Int) := of_decide_eq_true (by first | (with_reducible assumption) | assumption)
                                have q24 : x6_4 < (x0_11.size : Int) := of_decide_eq_true (by first | (with_reducible assumption) | assumption)
                                have hx24 := bt_at x0_11 x6_4
                                replace p24 := eq_true p24
                                replace q24 := eq_true q24
                                go_wp2
                                go_roundg kj15
                                case measure => have := HJ1.out; have := HJ5.out; have := HJ11.out; have := HK4.out; have := HJ15.out; omega
                                case rel => exact ⟨(1000000), (wrap64 (x6_4 + 1)), (by first | rfl | (simp; done) | (simp [*]; done)), (by first | rfl | (simp; done) | (simp [*]; done)), H', ⟨by have := HJ1.out; have := HJ5.out; have := HJ11.out; have := HK4.out; have := HJ15.out; omega⟩, by repeat (first | exact Drawn0.refl _ | apply Drawn0.step)⟩
                              · rw [if_neg c25] at H
                                have c25b0 : decide (1000000 < (wrap64 ((wrap64 (10 * x5_4)) + (((bt x0_11 x6_4) - 48) % 256)))) = false := decide_eq_false c25
                                clear c25
                                have H' := Aside0.mk H
                                clear H
                                have p24 : 0 ≤ (x6_4 : Int) := of_decide_eq_true (by first | (with_reducible assumption) | assumption)
                                have q24 : x6_4 < (x0_11.size : Int) := of_decide_eq_true (by first | (with_reducible assumption) | assumption)
                                have hx24 := bt_at x0_11 x6_4
                                replace p24 := eq_true p24
                                replace q24 := eq_true q24
                                go_wp2
                                go_roundg kj15
                                case measure => have := HJ1.out; have := HJ5.out; have := HJ11.out; have := HK4.out; have := HJ15.out; omega
                                case rel => exact ⟨(wrap64 ((wrap64 (10 * x5_4)) + (((bt x0_11 x6_4) - 48) % 256))), (wrap64 (x6_4 + 1)), (by first | rfl | (simp; done) | (simp [*]; done)), (by first | rfl | (simp; done) | (simp [*]; done)), H', ⟨by have := HJ1.out; have := HJ5.out; have := HJ11.out; have := HK4.out; have := HJ15.out; omega⟩, by repeat (first | exact Drawn0.refl _ | apply Drawn0.step)⟩
                            · rw [if_neg c23] at H
                              exact absurd H (by simp)
                          · rw [if_neg c22] at H
                            exact absurd H (by simp)
                  · rw [if_neg c15] at H
                    have c15b0 : decide (x6_4 < (x0_11.size : Int)) = false := decide_eq_false c15
                    clear c15
                    by_cases c26 : x4_1 = true
                    · subst c26
                      have H1 : (some (wrap64 (-x5_4), decide ((x0_11.size : Int) > 0))) = some (r1, r2) := by rw [if_pos rfl] at H; exact H
                      clear H
                      have H := H1
                      clear H1
                      simp only [Option.some.injEq, Prod.mk.injEq] at H
                      obtain ⟨rfl, rfl⟩ := H
                      go_wp2
                      go_ret2
                      exact ⟨by first | rfl | (simp; done) | (simp [*]; done), by repeat (first | exact Drawn0.refl _ | apply Drawn0.step)⟩
                    · replace c26 := Bool.eq_false_iff.mpr c26
                      subst c26
                      have H1 : (some (x5_4, decide ((x0_11.size : Int) > 0))) = some (r1, r2) := by rw [if_neg (show ¬ (false = true) by decide)] at H; exact H
                      clear H
                      have H := H1
                      clear H1
                      simp only [Option.some.injEq, Prod.mk.injEq] at H
                      obtain ⟨rfl, rfl⟩ := H
                      go_wp2
                      go_ret2
                      exact ⟨by first | rfl | (simp; done) | (simp [*]; done), by repeat (first | exact Drawn0.refl _ | apply Drawn0.step)⟩
end Go.Proofs.YtmfnnhmlekdbjaaDoor.P
end
section
set_option linter.unusedVariables false
set_option linter.unusedSimpArgs false
namespace Go.Proofs.YtmfnnhmlekdbjaaDoor.P
open Go.RowKit Go.Proofs.YtmfnnhmlekdbjaaDoorW.PrintWords Go.Proofs.YtmfnnhmlekdbjaaDoorW.PrintLast Go.Proofs.YtmfnnhmlekdbjaaDoorW.PrintMore
attribute [local go_sem] max2_int min2_int max_two min_two max_three min_three max_four min_four
set_option linter.unusedVariables false
set_option linter.unusedSimpArgs false
def gouacheref04_blank.f (a0 : ByteArray) : Option (ByteArray) := if (a0.size : Int) > 0 then (if 0 < (a0.size : Int) then (if (bt a0 0) = 32 then (if 1 ≤ (a0.size : Int) then (some (a0.extract 1 a0.size)) else (none)) else (some a0)) else (none)) else (some a0)
set_option maxHeartbeats 8000000 in
set_option maxRecDepth 100000 in
theorem gouacheref04_blank.calls (a0 : ByteArray) (r : ByteArray) (w : World) (h : gouacheref04_blank.f a0 = some r) :
    Calls Tryd.prog 26 #[.string a0] w fun e w' => e = .returned (.string r) ∧ Drawn0 w w' := by
  have H : (if (a0.size : Int) > 0 then (if 0 < (a0.size : Int) then (if (bt a0 0) = 32 then (if 1 ≤ (a0.size : Int) then (some (a0.extract 1 a0.size)) else (none)) else (some a0)) else (none)) else (some a0)) = some r := h
  clear h
  by_cases c2 : (a0.size : Int) > 0
  · rw [if_pos c2] at H
    have c2b0 : decide (0 < (a0.size : Int)) = true := decide_eq_true c2
    have c2b1 : decide (0 < a0.size) = true := decide_eq_true (by omega)
    clear c2
    by_cases c3 : 0 < (a0.size : Int)
    · rw [if_pos c3] at H
      have c3b0 : decide (0 < (a0.size : Int)) = true := decide_eq_true c3
      have c3b1 : decide (0 < a0.size) = true := decide_eq_true (by omega)
      clear c3
      by_cases c5 : (bt a0 0) = 32
      · rw [if_pos c5] at H
        have c5b0 : ((bt a0 0) == 32) = true := beq_iff_eq.mpr c5
        have c5b1 : ((bt a0 0) != 32) = false := bne_eq_false_iff_eq.mpr c5
        clear c5
        by_cases c6 : 1 ≤ (a0.size : Int)
        · rw [if_pos c6] at H
          have c6b0 := eq_true c6
          have c6b1 : decide (1 ≤ (a0.size : Int)) = true := decide_eq_true c6
          clear c6
          obtain rfl := Option.some.inj H
          have p4 : 0 ≤ (0 : Int) := (by omega)
          have q4 : 0 < a0.size := (by have : (0 : Int) < (a0.size : Int) := of_decide_eq_true (by first | (with_reducible assumption) | assumption); omega)
          have hx4 : ∀ h : 0 < a0.size, ((a0[0]'h).toNat : Int) = bt a0 0 := bt_at a0 0
          clear p4
          have qi4 : (0 < (a0.size : Int)) = True := eq_true (of_decide_eq_true (by first | (with_reducible assumption) | assumption))
          replace q4 := eq_true q4
          go_enter Tryd.func26, Tryd.ntmps26
          go_wp2
          go_ret
          exact ⟨by first | rfl | (simp; done) | (simp [*]; done), by repeat (first | exact Drawn0.refl _ | apply Drawn0.step)⟩
        · rw [if_neg c6] at H
          exact absurd H (by simp)
      · rw [if_neg c5] at H
        have c5b0 : ((bt a0 0) == 32) = false := beq_eq_false_iff_ne.mpr c5
        have c5b1 : ((bt a0 0) != 32) = true := bne_iff_ne.mpr c5
        obtain rfl := Option.some.inj H
        have p4 : 0 ≤ (0 : Int) := (by omega)
        have q4 : 0 < a0.size := (by have : (0 : Int) < (a0.size : Int) := of_decide_eq_true (by first | (with_reducible assumption) | assumption); omega)
        have hx4 : ∀ h : 0 < a0.size, ((a0[0]'h).toNat : Int) = bt a0 0 := bt_at a0 0
        clear p4
        have qi4 : (0 < (a0.size : Int)) = True := eq_true (of_decide_eq_true (by first | (with_reducible assumption) | assumption))
        replace q4 := eq_true q4
        go_enter Tryd.func26, Tryd.ntmps26
        go_wp2
        go_ret
        exact ⟨by first | rfl | (simp; done) | (simp [*]; done), by repeat (first | exact Drawn0.refl _ | apply Drawn0.step)⟩
    · rw [if_neg c3] at H
      exact absurd H (by simp)
  · rw [if_neg c2] at H
    have c2b0 : decide (0 < (a0.size : Int)) = false := decide_eq_false c2
    have c2b1 : decide (0 < a0.size) = false := decide_eq_false (by omega)
    clear c2
    obtain rfl := Option.some.inj H
    go_enter Tryd.func26, Tryd.ntmps26
    go_wp2
    go_ret
    exact ⟨by first | rfl | (simp; done) | (simp [*]; done), by repeat (first | exact Drawn0.refl _ | apply Drawn0.step)⟩
end Go.Proofs.YtmfnnhmlekdbjaaDoor.P
end
section
set_option linter.unusedVariables false
set_option linter.unusedSimpArgs false
namespace Go.Proofs.YtmfnnhmlekdbjaaDoor.P
open Go.RowKit Go.Proofs.YtmfnnhmlekdbjaaDoorW.PrintWords Go.Proofs.YtmfnnhmlekdbjaaDoorW.PrintLast Go.Proofs.YtmfnnhmlekdbjaaDoorW.PrintMore
attribute [local go_sem] max2_int min2_int max_two min_two max_three min_three max_four min_four
set_option linter.unusedVariables false
set_option linter.unusedSimpArgs false
def lowI (c : Int) : Int := if 65 ≤ c ∧ c ≤ 90 then c + 32 else c
def foldS (s : ByteArray) : ByteArray := strOfNums ((bytesOfS s).map lowI)
theorem byte_range (s : ByteArray) (j : Nat) (h : j < s.size) : 0 ≤ (bytesOfS s).getD j 0 ∧ (bytesOfS s).getD j 0 ≤ 255 := by
  have hj2 : j < s.data.size := h
  simp [bytesOfS, List.getD_eq_getElem?_getD, Array.getElem?_eq_getElem hj2]
  have := (s.data[j]).toNat_lt
  omega
theorem or32 (c : Int) (h : 65 ≤ c ∧ c ≤ 90) : Go.bits .or .u8 c 32 = c + 32 := by
  obtain ⟨n, rfl⟩ : ∃ n : Nat, c = n := ⟨c.toNat, by omega⟩
  have h1 : 65 ≤ n := by omega
  have h2 : n ≤ 90 := by omega
  have : ∀ m : Fin 26, Go.bits .or .u8 ((65 + m.val : Nat) : Int) 32 = ((65 + m.val : Nat) : Int) + 32 := by decide +kernel
  have := this ⟨n - 65, by omega⟩
  simpa [show 65 + (n - 65) = n by omega] using this
def part (l : List Int) (i : Nat) : List Int := (l.map lowI).take i ++ l.drop i
theorem part_len (l : List Int) (i : Nat) : (part l i).length = l.length := by simp [part]; omega
theorem part_zero (l : List Int) : part l 0 = l := by simp [part]
theorem part_all (l : List Int) : part l l.length = l.map lowI := by
  unfold part
  rw [List.drop_length, List.append_nil, List.take_of_length_le (by simp)]
theorem part_at (l : List Int) (i : Nat) (h : i < l.length) : (part l i).getD i 0 = l.getD i 0 := by
  simp [part, List.getD_eq_getElem?_getD, List.getElem?_append, Nat.min_eq_left (Nat.le_of_lt h)]
theorem part_succ (l : List Int) (i : Nat) (h : i < l.length) : (part l i).set i (lowI (l.getD i 0)) = part l (i + 1) := by
  have e : ((l.map lowI).take i).length = i := by simp; omega
  unfold part
  rw [List.set_append_right _ _ (by omega), e, Nat.sub_self, List.drop_eq_getElem_cons h, List.set_cons_zero, List.take_succ_eq_append_getElem (show i < (l.map lowI).length by simpa using h)]
  simp [List.getD_eq_getElem?_getD, h]
theorem part_same (l : List Int) (i : Nat) (h : i < l.length) (hl : lowI (l.getD i 0) = l.getD i 0) : part l i = part l (i + 1) := by
  rw [← part_succ l i h, hl, ← part_at l i h]
  apply List.ext_getElem?
  intro j
  by_cases e : j = i
  · subst e; simp [List.getD_eq_getElem?_getD, List.getElem?_set, part_len, h]
  · simp [List.getElem?_set, Ne.symm e]
set_option maxHeartbeats 2000000 in
theorem fold_calls (s : ByteArray) (hs : s.size ≤ 140737488351232) (w : World) :
    Calls Tryd.prog 30 #[.string s] w fun e w' => e = .returned (.string (foldS s)) ∧ Below w.heap.size w w' := by
  have hlen : (bytesOfS s).length = s.size := bytesOfS_len s
  have hcv := Lib.run_convert_string_bytes (P := Tryd.prog) w 9 46 5 s Tryd.underlying9 Tryd.underlying46 Tryd.underlying5
  have HLEN := Aside0.mk hlen
  clear hlen
  go_enter Tryd.func30, Tryd.ntmps30
  go_wp2
  clear hcv
  have HR := Aside0.mk (BRow.made w 5 s)
  have HB := Aside0.mk (bytesWorld_below w 5 s)
  generalize Lib.bytesWorld w 5 s = w0 at HR HB
  go_loopg [4, 9] s.size (fun gg _ s9 wr => ∃ i : Nat, s9 = .int .i64 i ∧ Aside0 (i ≤ s.size) ∧ s.size - i ≤ gg ∧ Aside0 (BRow wr w.heap.size 5 (part (bytesOfS s) i)) ∧ Aside0 (Below w.heap.size w wr))
  case atStart => exact ⟨0, rfl, ⟨Nat.zero_le _⟩, by omega, ⟨by rw [part_zero]; exact HR.out⟩, HB⟩
  case round =>
    clear HR HB
    obtain ⟨i, rfl, HI, hg, HR, HB⟩ := hrel
    by_cases hlt : i < s.size
    · have hcell := HR.out.cell i (by rw [part_len, HLEN.out]; exact hlt)
      have hfree := HR.out.free i (by rw [part_len, HLEN.out]; exact hlt)
      rw [part_at _ _ (by rw [HLEN.out]; exact hlt)] at hcell
      obtain ⟨hb0, hb1⟩ := byte_range s i hlt
      have HST := Aside0.mk (fun x => HR.out.set i x)
      have HSU := Aside0.mk (part_succ (bytesOfS s) i (by rw [HLEN.out]; exact hlt))
      have HSA := Aside0.mk (part_same (bytesOfS s) i (by rw [HLEN.out]; exact hlt))
      generalize (bytesOfS s).getD i 0 = c at hcell hb0 hb1 HSU HSA
      by_cases hc : 65 ≤ c ∧ c ≤ 90
      · have hor := or32 c hc
        have HLOW := Aside0.mk (show lowI c = c + 32 by unfold lowI; rw [if_pos hc])
        obtain ⟨hc1, hc2⟩ := hc
        have ht : decide ((c - 65) % 256 < 26) = true := decide_eq_true (by omega)
        go_wp2
        go_roundg (s.size - (i + 1))
        case measure => omega
        case rel => exact ⟨i + 1, by go_num, ⟨hlt⟩, Nat.le_refl _, ⟨by rw [← HSU.out, HLOW.out]; exact HST.out _⟩, ⟨below_set HB.out (Nat.le_refl _)⟩⟩
      · have ht : decide ((c - 65) % 256 < 26) = false := decide_eq_false (by omega)
        have HLOW := Aside0.mk (show lowI c = c by unfold lowI; rw [if_neg hc])
        clear hc
        go_wp2
        go_roundg (s.size - (i + 1))
        case measure => omega
        case rel => exact ⟨i + 1, by go_num, ⟨hlt⟩, Nat.le_refl _, ⟨by rw [← HSA.out HLOW.out]; exact HR.out⟩, HB⟩
    · have hcv := fun c => HR.out.str (P := Tryd.prog) 46 9 c Tryd.underlying46 Tryd.underlying5 Tryd.underlying9 s.size (by rw [part_len, HLEN.out])
      have HF := Aside0.mk (show strOfNums (part (bytesOfS s) i) = foldS s by
        have he : i = s.size := by have := HI.out; omega
        unfold foldS; rw [he, ← HLEN.out, part_all])
      generalize strOfNums (part (bytesOfS s) i) = r at hcv HF
      go_wp2
      go_ret
      exact ⟨by rw [HF.out]; rfl, HB.out⟩
end Go.Proofs.YtmfnnhmlekdbjaaDoor.P
end
section
set_option linter.unusedVariables false
set_option linter.unusedSimpArgs false
namespace Go.Proofs.YtmfnnhmlekdbjaaDoor.P
open Go.RowKit Go.Proofs.YtmfnnhmlekdbjaaDoorW.PrintWords Go.Proofs.YtmfnnhmlekdbjaaDoorW.PrintLast Go.Proofs.YtmfnnhmlekdbjaaDoorW.PrintMore
attribute [local go_sem] max2_int min2_int max_two min_two max_three min_three max_four min_four
set_option linter.unusedVariables false
set_option linter.unusedSimpArgs false
set_option maxHeartbeats 2000000 in
theorem rfold_calls (s : ByteArray) (hs : s.size ≤ 140737488351232) (w : World) :
    Calls Tryd.prog 37 #[.string s] w fun e w' => e = .returned (.string (foldS s)) ∧ Below w.heap.size w w' := by
  have hlen : (bytesOfS s).length = s.size := bytesOfS_len s
  have hcv := Lib.run_convert_string_bytes (P := Tryd.prog) w 9 46 5 s Tryd.underlying9 Tryd.underlying46 Tryd.underlying5
  have HLEN := Aside0.mk hlen
  clear hlen
  go_enter Tryd.func37, Tryd.ntmps37
  go_wp2
  clear hcv
  have HR := Aside0.mk (BRow.made w 5 s)
  have HB := Aside0.mk (bytesWorld_below w 5 s)
  generalize Lib.bytesWorld w 5 s = w0 at HR HB
  go_loopg [4, 5, 10] s.size (fun gg _ _ s9 wr => ∃ i : Nat, s9 = .int .i64 i ∧ Aside0 (i ≤ s.size) ∧ s.size - i ≤ gg ∧ Aside0 (BRow wr w.heap.size 5 (part (bytesOfS s) i)) ∧ Aside0 (Below w.heap.size w wr))
  case atStart => exact ⟨0, rfl, ⟨Nat.zero_le _⟩, by omega, ⟨by rw [part_zero]; exact HR.out⟩, HB⟩
  case round =>
    clear HR HB
    obtain ⟨i, rfl, HI, hg, HR, HB⟩ := hrel
    by_cases hlt : i < s.size
    · have hcell := HR.out.cell i (by rw [part_len, HLEN.out]; exact hlt)
      have hfree := HR.out.free i (by rw [part_len, HLEN.out]; exact hlt)
      rw [part_at _ _ (by rw [HLEN.out]; exact hlt)] at hcell
      obtain ⟨hb0, hb1⟩ := byte_range s i hlt
      have HST := Aside0.mk (fun x => HR.out.set i x)
      have HSU := Aside0.mk (part_succ (bytesOfS s) i (by rw [HLEN.out]; exact hlt))
      have HSA := Aside0.mk (part_same (bytesOfS s) i (by rw [HLEN.out]; exact hlt))
      generalize (bytesOfS s).getD i 0 = c at hcell hb0 hb1 HSU HSA
      by_cases hc : 65 ≤ c ∧ c ≤ 90
      · have hor := or32 c hc
        have HLOW := Aside0.mk (show lowI c = c + 32 by unfold lowI; rw [if_pos hc])
        obtain ⟨hc1, hc2⟩ := hc
        have ht1 : decide (65 ≤ c) = true := decide_eq_true hc1
        have ht2 : decide (c ≤ 90) = true := decide_eq_true hc2
        go_wp2
        go_roundg (s.size - (i + 1))
        case measure => omega
        case rel => exact ⟨i + 1, by go_num, ⟨hlt⟩, Nat.le_refl _, ⟨by rw [← HSU.out, HLOW.out]; exact HST.out _⟩, ⟨below_set HB.out (Nat.le_refl _)⟩⟩
      · have HLOW := Aside0.mk (show lowI c = c by unfold lowI; rw [if_neg hc])
        have key : (decide (65 ≤ c) = true ∧ decide (c ≤ 90) = false) ∨ decide (65 ≤ c) = false := by
          by_cases h1 : 65 ≤ c
          · exact .inl ⟨decide_eq_true h1, decide_eq_false (fun h2 => hc ⟨h1, h2⟩)⟩
          · exact .inr (decide_eq_false h1)
        clear hc
        rcases key with ⟨ht1, ht2⟩ | ht1
        all_goals
          go_wp2
          go_roundg (s.size - (i + 1))
          case measure => omega
          case rel => exact ⟨i + 1, by go_num, ⟨hlt⟩, Nat.le_refl _, ⟨by rw [← HSA.out HLOW.out]; exact HR.out⟩, HB⟩
    · have hcv := fun c => HR.out.str (P := Tryd.prog) 46 9 c Tryd.underlying46 Tryd.underlying5 Tryd.underlying9 s.size (by rw [part_len, HLEN.out])
      have HF := Aside0.mk (show strOfNums (part (bytesOfS s) i) = foldS s by
        have he : i = s.size := by have := HI.out; omega
        unfold foldS; rw [he, ← HLEN.out, part_all])
      generalize strOfNums (part (bytesOfS s) i) = r at hcv HF
      go_wp2
      go_ret
      exact ⟨by rw [HF.out]; rfl, HB.out⟩
def gouacheref01_Fold.f (a0 : ByteArray) : Option ByteArray := if a0.size ≤ 140737488351232 then some (foldS a0) else none
theorem gouacheref01_Fold.calls (a0 : ByteArray) (r : ByteArray) (w : World) (h : gouacheref01_Fold.f a0 = some r) :
    Calls Tryd.prog 37 #[.string a0] w fun e w' => e = .returned (.string r) ∧ Below w.heap.size w w' := by
  unfold gouacheref01_Fold.f at h
  split at h
  · rename_i hs
    obtain rfl := Option.some.inj h
    exact rfold_calls a0 hs w
  · cases h
end Go.Proofs.YtmfnnhmlekdbjaaDoor.P
end
section
set_option linter.unusedVariables false
set_option linter.unusedSimpArgs false
namespace Go.Proofs.YtmfnnhmlekdbjaaDoor.P
open Go.RowKit Go.Proofs.YtmfnnhmlekdbjaaDoorW.PrintWords Go.Proofs.YtmfnnhmlekdbjaaDoorW.PrintLast Go.Proofs.YtmfnnhmlekdbjaaDoorW.PrintMore
attribute [local go_sem] max2_int min2_int max_two min_two max_three min_three max_four min_four
set_option linter.unusedVariables false
set_option linter.unusedSimpArgs false
mutual
def gouacheref04_written.l0 : Nat → ByteArray → List (S32) → Int → Int → Option (ByteArray × Bool)
  | 0, _, _, _, _ => none
  | k + 1, x4, x8, x9, x10 => if x10 < x9 then (if 0 ≤ x10 then (if x10 < (x8.length : Int) then (if ((rd_T32 x8 x10).f0.f0) = 1 then (if x4.size + ((rd_T32 x8 x10).f0.f1).size ≤ 9223372036854775807 then (gouacheref04_written.l0 k (x4 ++ ((rd_T32 x8 x10).f0.f1)) x8 x9 (wrap64 (x10 + 1))) else (none)) else (if ((rd_T32 x8 x10).f0.f0) = 10 then (gouacheref04_written.j1 k x4 x8 x9 x10 ((rd_T32 x8 x10).f0.f3) ((rd_T32 x8 x10).f0.f0) ((rd_T32 x8 x10).f0.f1) ((rd_T32 x8 x10).f0.f2) ((rd_T32 x8 x10).f0.f3) ((rd_T32 x8 x10).f0.f4)) else (gouacheref04_written.j1 k x4 x8 x9 x10 false ((rd_T32 x8 x10).f0.f0) ((rd_T32 x8 x10).f0.f1) ((rd_T32 x8 x10).f0.f2) ((rd_T32 x8 x10).f0.f3) ((rd_T32 x8 x10).f0.f4)))) else (none)) else (none)) else (gouacheref04_written.l1 k x4)
def gouacheref04_written.j1 : Nat → ByteArray → List (S32) → Int → Int → Bool → Int → ByteArray → ByteArray → Bool → Bool → Option (ByteArray × Bool)
  | 0, _, _, _, _, _, _, _, _, _, _ => none
  | k + 1, x4, x8, x9, x10, x24, x104000, x104001, x104002, x104003, x104004 => if x24 = true then (if x4.size + x104001.size ≤ 9223372036854775807 then (gouacheref04_written.l0 k (x4 ++ x104001) x8 x9 (wrap64 (x10 + 1))) else (none)) else (if x104000 = 12 then (gouacheref04_written.j2 k x4 x8 x9 x10 x104003 x104000 x104001 x104002 x104003 x104004) else (gouacheref04_written.j2 k x4 x8 x9 x10 false x104000 x104001 x104002 x104003 x104004))
def gouacheref04_written.j2 : Nat → ByteArray → List (S32) → Int → Int → Bool → Int → ByteArray → ByteArray → Bool → Bool → Option (ByteArray × Bool)
  | 0, _, _, _, _, _, _, _, _, _, _ => none
  | k + 1, x4, x8, x9, x10, x36, x104000, x104001, x104002, x104003, x104004 => if x36 = true then (if x104001.size + x104002.size ≤ 9223372036854775807 then (if x4.size + (x104001 ++ x104002).size ≤ 9223372036854775807 then (gouacheref04_written.l0 k (x4 ++ (x104001 ++ x104002)) x8 x9 (wrap64 (x10 + 1))) else (none)) else (none)) else (if x104000 = 9 then (if x104001.toList = ([43] : List UInt8) then (gouacheref04_written.j3 k x4 x8 x9 x10 true x104000 x104001 x104002 x104003 x104004) else (gouacheref04_written.j3 k x4 x8 x9 x10 (x104001.toList == ([45] : List UInt8)) x104000 x104001 x104002 x104003 x104004)) else (gouacheref04_written.j3 k x4 x8 x9 x10 false x104000 x104001 x104002 x104003 x104004))
def gouacheref04_written.j3 : Nat → ByteArray → List (S32) → Int → Int → Bool → Int → ByteArray → ByteArray → Bool → Bool → Option (ByteArray × Bool)
  | 0, _, _, _, _, _, _, _, _, _, _ => none
  | k + 1, x4, x8, x9, x10, x51, x104000, x104001, x104002, x104003, x104004 => if x51 = true then (if x4.size + x104001.size ≤ 9223372036854775807 then (gouacheref04_written.l0 k (x4 ++ x104001) x8 x9 (wrap64 (x10 + 1))) else (none)) else (if x104000 = 13 then (if x4.size + 1 ≤ 9223372036854775807 then (gouacheref04_written.l0 k (x4 ++ (⟨#[32]⟩ : ByteArray)) x8 x9 (wrap64 (x10 + 1))) else (none)) else (some ((⟨#[]⟩ : ByteArray), false)))
def gouacheref04_written.j5 : Nat → ByteArray → Option (ByteArray × Bool)
  | 0, _ => none
  | k + 1, x4 => gouacheref04_written.l2 k x4
def gouacheref04_written.l2 : Nat → ByteArray → Option (ByteArray × Bool)
  | 0, _ => none
  | k + 1, x4 => if (x4.size : Int) > 0 then (if 0 ≤ (wrap64 ((x4.size : Int) - 1)) then (if (wrap64 ((x4.size : Int) - 1)) < (x4.size : Int) then (if (bt x4 (wrap64 ((x4.size : Int) - 1))) = 32 then (if (wrap64 ((x4.size : Int) - 1)) ≤ (x4.size : Int) then (gouacheref04_written.l2 k (x4.extract 0 ((wrap64 ((x4.size : Int) - 1)) : Int).toNat)) else (none)) else ((gouacheref01_Fold.f x4).bind fun t104 => (some (t104, true)))) else (none)) else (none)) else ((gouacheref01_Fold.f x4).bind fun t105 => (some (t105, true)))
def gouacheref04_written.l1 : Nat → ByteArray → Option (ByteArray × Bool)
  | 0, _ => none
  | k + 1, x4 => if (x4.size : Int) > 0 then (if 0 < (x4.size : Int) then (if (bt x4 0) = 32 then (if 1 ≤ (x4.size : Int) then (gouacheref04_written.l1 k (x4.extract 1 x4.size)) else (none)) else (gouacheref04_written.j5 k x4)) else (none)) else (gouacheref04_written.j5 k x4)
end
def gouacheref04_written.f (k : Nat) (l0 : List (S32)) : Option (ByteArray × Bool) := gouacheref04_written.l0 k (⟨#[]⟩ : ByteArray) l0 (l0.length : Int) 0
set_option maxHeartbeats 8000000 in
set_option maxRecDepth 100000 in
theorem gouacheref04_written.calls (k : Nat) (A0 : Option Addr) (c0 : Nat) (l0 : List (S32)) (r1 : ByteArray) (r2 : Bool) (w : World) (hr0 : Kd.C k32 w A0 l0.length l0) (hc0 : l0.length ≤ c0) (h : gouacheref04_written.f k l0 = some (r1, r2)) :
    Calls Tryd.prog 24 #[.slice A0 l0.length c0] w fun e w' => e = .returned (.tuple #[.string r1, .bool r2]) ∧ Below w.heap.size w w' := by
  have hu32 := Tryd.underlying32
  have hu30 := Tryd.underlying30
  have HR0 := Aside0.mk hr0
  have HC0 := Aside0.mk hc0
  clear hr0 hc0
  have HB := Aside0.mk (Below.refl w.heap.size w)
  have H : (gouacheref04_written.l0 k (⟨#[]⟩ : ByteArray) l0 (l0.length : Int) 0) = some (r1, r2) := h
  clear h
  have H' := Aside0.mk H
  clear H
  go_enter Tryd.func24, Tryd.ntmps24
  go_wp2
  go_loopg [4, 10] k (fun kq v4 v10 w' => ∃ (x4_1 : ByteArray) (x10_1 : Int), v4 = .string x4_1 ∧ v10 = .int .i64 x10_1 ∧ Aside0 (gouacheref04_written.l0 kq x4_1 l0 (l0.length : Int) x10_1 = some (r1, r2)) ∧ Aside0 (kq ≤ k) ∧ Aside0 (Below w.heap.size w w'))
  case atStart => exact ⟨((⟨#[]⟩ : ByteArray)), (0), (by first | rfl | (simp; done) | (simp [*]; done)), (by first | rfl | (simp; done) | (simp [*]; done)), H', ⟨Nat.le_refl _⟩, ⟨by repeat (first | (with_reducible first | exact HB.out | apply below_alloc | apply pw_below_drewN | apply below_drew1) | exact HB.out)⟩⟩
  case round =>
    clear H'
    obtain ⟨x4_1, x10_1, rfl, rfl, HA, HK1, HB⟩ := hrel
    cases gk with
    | zero => exact absurd HA.out (by simp [gouacheref04_written.l0])
    | succ k1 =>
      have H := HA.out
      clear HA
      simp only [gouacheref04_written.l0] at H
      by_cases c2 : x10_1 < (l0.length : Int)
      · rw [if_pos c2] at H
        have c2b0 : decide (x10_1 < (l0.length : Int)) = true := decide_eq_true c2
        clear c2
        by_cases c3 : 0 ≤ x10_1
        · rw [if_pos c3] at H
          have c3b0 : decide (0 ≤ x10_1) = true := decide_eq_true c3
          clear c3
          by_cases c4 : x10_1 < (l0.length : Int)
          · rw [if_pos c4] at H
            have c4b0 : decide (x10_1 < (l0.length : Int)) = true := decide_eq_true c4
            clear c4
            by_cases c5 : ((rd_T32 l0 x10_1).f0.f0) = 1
            · rw [if_pos c5] at H
              have c5b0 : (((rd_T32 l0 x10_1).f0.f0) == 1) = true := beq_iff_eq.mpr c5
              have c5b1 : (((rd_T32 l0 x10_1).f0.f0) != 1) = false := bne_eq_false_iff_eq.mpr c5
              clear c5
              by_cases c6 : x4_1.size + ((rd_T32 l0 x10_1).f0.f1).size ≤ 9223372036854775807
              · rw [if_pos c6] at H
                have c6b0 := eq_true c6
                have c6b1 : decide (x4_1.size + ((rd_T32 l0 x10_1).f0.f1).size ≤ 9223372036854775807) = true := decide_eq_true c6
                try have c6b2 : (9223372036854775807 < x4_1.size + ((rd_T32 l0 x10_1).f0.f1).size) = False := eq_false (Nat.not_lt.2 c6)
                have H' := Aside0.mk H
                clear H
                have p101 : 0 ≤ (x10_1 : Int) := of_decide_eq_true (by first | (with_reducible assumption) | assumption)
                have q101 : x10_1 < (l0.length : Int) := of_decide_eq_true (by first | (with_reducible assumption) | assumption)
                obtain ⟨ad101, A101_5, c101_5, e101, hx101_0, hx101_1, hx101_2, hx101_3, hx101_4, hx101_5, hl101_5, hi101_5⟩ := at_T32 HR0.out x10_1 p101 q101
                cases e101
                replace hx101_0 := (HB.out.cell (World.block_lt_of_cell? w _ hx101_0)).trans hx101_0
                replace hx101_1 := (HB.out.cell (World.block_lt_of_cell? w _ hx101_1)).trans hx101_1
                replace hx101_2 := (HB.out.cell (World.block_lt_of_cell? w _ hx101_2)).trans hx101_2
                replace hx101_3 := (HB.out.cell (World.block_lt_of_cell? w _ hx101_3)).trans hx101_3
                replace hx101_4 := (HB.out.cell (World.block_lt_of_cell? w _ hx101_4)).trans hx101_4
                replace hx101_5 := (HB.out.cell (World.block_lt_of_cell? w _ hx101_5)).trans hx101_5
                have HR101_5 := Aside0.mk hi101_5
                have HC101_5 := Aside0.mk hl101_5
                clear hi101_5 hl101_5
                replace p101 := eq_true p101
                replace q101 := eq_true q101
                go_wp2_with (first | ((with_reducible refine gate_dst (N := 6) rfl ?_); (try (refine gate_guard (by rfl) ?_; dsimp only)); refine box_event ?hg (N := 6) ?hd (cs := #[.int .i64 0, .string (⟨#[]⟩ : ByteArray), .string (⟨#[]⟩ : ByteArray), .bool false, .bool false, .slice none 0 0]) (t := 32) ?hr ?_; (case hd => rfl); (case hg => rfl); (case hr => first | (go_simp; done) | (go_simp; rfl)); intro gb102 hg w7 hbox hb; have n0_ := Aside0.mk (below_step (by repeat (first | (with_reducible first | exact HB.out | apply below_alloc | apply pw_below_drewN | apply below_drew1) | exact HB.out)) hb); have n1_ := Aside0.mk (hbox); have n2_ := Aside0.mk ((by rw [hg]; exact (below_size (by repeat (first | (with_reducible first | exact HB.out | apply below_alloc | apply pw_below_drewN | apply below_drew1) | exact HB.out))) : w.heap.size ≤ gb102)); have n3_ := Aside0.mk ((by rw [hg]; exact (below_size (by repeat (first | (with_reducible first | exact HB.out | apply below_alloc | apply pw_below_drewN | apply below_drew1) | exact HB.out))) : w.heap.size ≤ gb102)); clear HB; have HB := n0_; have BK102 := n1_; have GW102 := n2_; have GE102 := n3_; clear n0_ n1_ n2_ n3_; clear hb hbox hg; have hcz8_0 : w7.cell? ⟨gb102, 0, none⟩ = some (.int .i64 0) := (blk_cell BK102.out 0).trans rfl; have hcz8_1 : w7.cell? ⟨gb102, 1, none⟩ = some (.string (⟨#[]⟩ : ByteArray)) := (blk_cell BK102.out 1).trans rfl; have hcz8_2 : w7.cell? ⟨gb102, 2, none⟩ = some (.string (⟨#[]⟩ : ByteArray)) := (blk_cell BK102.out 2).trans rfl; have hcz8_3 : w7.cell? ⟨gb102, 3, none⟩ = some (.bool false) := (blk_cell BK102.out 3).trans rfl; have hcz8_4 : w7.cell? ⟨gb102, 4, none⟩ = some (.bool false) := (blk_cell BK102.out 4).trans rfl; have hcz8_5 : w7.cell? ⟨gb102, 5, none⟩ = some (.slice none 0 0) := (blk_cell BK102.out 5).trans rfl; have hfz8_0 := blk_frozen BK102.out 0; have hfz8_1 := blk_frozen BK102.out 1; have hfz8_2 := blk_frozen BK102.out 2; have hfz8_3 := blk_frozen BK102.out 3; have hfz8_4 := blk_frozen BK102.out 4; have hfz8_5 := blk_frozen BK102.out 5) | ((with_reducible refine gate_dst (N := 7) rfl ?_); (try (refine gate_guard (by rfl) ?_; dsimp only)); refine box_event ?hg (N := 7) ?hd (cs := #[.int .i64 0, .string (⟨#[]⟩ : ByteArray), .string (⟨#[]⟩ : ByteArray), .bool false, .bool false]) (t := 30) ?hr ?_; (case hd => rfl); (case hg => rfl); (case hr => first | (go_simp; done) | (go_simp; rfl)); intro gb103 hg w9 hbox hb; have n0_ := Aside0.mk (blk_below (g := gb102) (o := .cells #[.int .i64 ((rd_T32 l0 x10_1).f0.f0), .string ((rd_T32 l0 x10_1).f0.f1), .string ((rd_T32 l0 x10_1).f0.f2), .bool ((rd_T32 l0 x10_1).f0.f3), .bool ((rd_T32 l0 x10_1).f0.f4), .slice A101_5 ((rd_T32 l0 x10_1).f1).length c101_5] 32 (0, 0)) (by (with_reducible repeat (first | refine blk_drewN ?_ _ | refine blk_drew ?_ | refine blk_alloc ?_ _)); refine blk_put (cs := #[.int .i64 ((rd_T32 l0 x10_1).f0.f0), .string ((rd_T32 l0 x10_1).f0.f1), .string ((rd_T32 l0 x10_1).f0.f2), .bool ((rd_T32 l0 x10_1).f0.f3), .bool ((rd_T32 l0 x10_1).f0.f4), .slice none 0 0]) ?_ 5 _ rfl; (with_reducible repeat (first | refine blk_drewN ?_ _ | refine blk_drew ?_ | refine blk_alloc ?_ _)); refine blk_put (cs := #[.int .i64 ((rd_T32 l0 x10_1).f0.f0), .string ((rd_T32 l0 x10_1).f0.f1), .string ((rd_T32 l0 x10_1).f0.f2), .bool ((rd_T32 l0 x10_1).f0.f3), .bool false, .slice none 0 0]) ?_ 4 _ rfl; (with_reducible repeat (first | refine blk_drewN ?_ _ | refine blk_drew ?_ | refine blk_alloc ?_ _)); refine blk_put (cs := #[.int .i64 ((rd_T32 l0 x10_1).f0.f0), .string ((rd_T32 l0 x10_1).f0.f1), .string ((rd_T32 l0 x10_1).f0.f2), .bool false, .bool false, .slice none 0 0]) ?_ 3 _ rfl; (with_reducible repeat (first | refine blk_drewN ?_ _ | refine blk_drew ?_ | refine blk_alloc ?_ _)); refine blk_put (cs := #[.int .i64 ((rd_T32 l0 x10_1).f0.f0), .string ((rd_T32 l0 x10_1).f0.f1), .string (⟨#[]⟩ : ByteArray), .bool false, .bool false, .slice none 0 0]) ?_ 2 _ rfl; (with_reducible repeat (first | refine blk_drewN ?_ _ | refine blk_drew ?_ | refine blk_alloc ?_ _)); refine blk_put (cs := #[.int .i64 ((rd_T32 l0 x10_1).f0.f0), .string (⟨#[]⟩ : ByteArray), .string (⟨#[]⟩ : ByteArray), .bool false, .bool false, .slice none 0 0]) ?_ 1 _ rfl; (with_reducible repeat (first | refine blk_drewN ?_ _ | refine blk_drew ?_ | refine blk_alloc ?_ _)); refine blk_put (cs := #[.int .i64 0, .string (⟨#[]⟩ : ByteArray), .string (⟨#[]⟩ : ByteArray), .bool false, .bool false, .slice none 0 0]) ?_ 0 _ rfl; (with_reducible repeat (first | refine blk_drewN ?_ _ | refine blk_drew ?_ | refine blk_alloc ?_ _)); exact BK102.out) hb); have n1_ := Aside0.mk (below_step (by repeat (first | (with_reducible first | exact HB.out | apply below_alloc | apply pw_below_drewN | apply below_drew1 | refine below_set ?_ GE102.out) | exact HB.out)) hb); have n2_ := Aside0.mk (hbox); have n3_ := Aside0.mk ((by rw [hg]; exact (below_size (by repeat (first | (with_reducible first | exact HB.out | apply below_alloc | apply pw_below_drewN | apply below_drew1 | refine below_set ?_ GE102.out) | exact HB.out))) : w.heap.size ≤ gb103)); have n4_ := Aside0.mk ((by rw [hg]; exact (below_size (by repeat (first | (with_reducible first | exact HB.out | apply below_alloc | apply pw_below_drewN | apply below_drew1 | refine below_set ?_ GE102.out) | exact HB.out))) : w.heap.size ≤ gb103)); have n5_ := Aside0.mk ((by rw [hg]; exact Nat.ne_of_lt (blk_lt (g := gb102) (o := .cells #[.int .i64 ((rd_T32 l0 x10_1).f0.f0), .string ((rd_T32 l0 x10_1).f0.f1), .string ((rd_T32 l0 x10_1).f0.f2), .bool ((rd_T32 l0 x10_1).f0.f3), .bool ((rd_T32 l0 x10_1).f0.f4), .slice A101_5 ((rd_T32 l0 x10_1).f1).length c101_5] 32 (0, 0)) (by (with_reducible repeat (first | refine blk_drewN ?_ _ | refine blk_drew ?_ | refine blk_alloc ?_ _)); refine blk_put (cs := #[.int .i64 ((rd_T32 l0 x10_1).f0.f0), .string ((rd_T32 l0 x10_1).f0.f1), .string ((rd_T32 l0 x10_1).f0.f2), .bool ((rd_T32 l0 x10_1).f0.f3), .bool ((rd_T32 l0 x10_1).f0.f4), .slice none 0 0]) ?_ 5 _ rfl; (with_reducible repeat (first | refine blk_drewN ?_ _ | refine blk_drew ?_ | refine blk_alloc ?_ _)); refine blk_put (cs := #[.int .i64 ((rd_T32 l0 x10_1).f0.f0), .string ((rd_T32 l0 x10_1).f0.f1), .string ((rd_T32 l0 x10_1).f0.f2), .bool ((rd_T32 l0 x10_1).f0.f3), .bool false, .slice none 0 0]) ?_ 4 _ rfl; (with_reducible repeat (first | refine blk_drewN ?_ _ | refine blk_drew ?_ | refine blk_alloc ?_ _)); refine blk_put (cs := #[.int .i64 ((rd_T32 l0 x10_1).f0.f0), .string ((rd_T32 l0 x10_1).f0.f1), .string ((rd_T32 l0 x10_1).f0.f2), .bool false, .bool false, .slice none 0 0]) ?_ 3 _ rfl; (with_reducible repeat (first | refine blk_drewN ?_ _ | refine blk_drew ?_ | refine blk_alloc ?_ _)); refine blk_put (cs := #[.int .i64 ((rd_T32 l0 x10_1).f0.f0), .string ((rd_T32 l0 x10_1).f0.f1), .string (⟨#[]⟩ : ByteArray), .bool false, .bool false, .slice none 0 0]) ?_ 2 _ rfl; (with_reducible repeat (first | refine blk_drewN ?_ _ | refine blk_drew ?_ | refine blk_alloc ?_ _)); refine blk_put (cs := #[.int .i64 ((rd_T32 l0 x10_1).f0.f0), .string (⟨#[]⟩ : ByteArray), .string (⟨#[]⟩ : ByteArray), .bool false, .bool false, .slice none 0 0]) ?_ 1 _ rfl; (with_reducible repeat (first | refine blk_drewN ?_ _ | refine blk_drew ?_ | refine blk_alloc ?_ _)); refine blk_put (cs := #[.int .i64 0, .string (⟨#[]⟩ : ByteArray), .string (⟨#[]⟩ : ByteArray), .bool false, .bool false, .slice none 0 0]) ?_ 0 _ rfl; (with_reducible repeat (first | refine blk_drewN ?_ _ | refine blk_drew ?_ | refine blk_alloc ?_ _)); exact BK102.out)) : gb102 ≠ gb103)); have n6_ := Aside0.mk ((by rw [hg]; exact Nat.ne_of_gt (blk_lt (g := gb102) (o := .cells #[.int .i64 ((rd_T32 l0 x10_1).f0.f0), .string ((rd_T32 l0 x10_1).f0.f1), .string ((rd_T32 l0 x10_1).f0.f2), .bool ((rd_T32 l0 x10_1).f0.f3), .bool ((rd_T32 l0 x10_1).f0.f4), .slice A101_5 ((rd_T32 l0 x10_1).f1).length c101_5] 32 (0, 0)) (by (with_reducible repeat (first | refine blk_drewN ?_ _ | refine blk_drew ?_ | refine blk_alloc ?_ _)); refine blk_put (cs := #[.int .i64 ((rd_T32 l0 x10_1).f0.f0), .string ((rd_T32 l0 x10_1).f0.f1), .string ((rd_T32 l0 x10_1).f0.f2), .bool ((rd_T32 l0 x10_1).f0.f3), .bool ((rd_T32 l0 x10_1).f0.f4), .slice none 0 0]) ?_ 5 _ rfl; (with_reducible repeat (first | refine blk_drewN ?_ _ | refine blk_drew ?_ | refine blk_alloc ?_ _)); refine blk_put (cs := #[.int .i64 ((rd_T32 l0 x10_1).f0.f0), .string ((rd_T32 l0 x10_1).f0.f1), .string ((rd_T32 l0 x10_1).f0.f2), .bool ((rd_T32 l0 x10_1).f0.f3), .bool false, .slice none 0 0]) ?_ 4 _ rfl; (with_reducible repeat (first | refine blk_drewN ?_ _ | refine blk_drew ?_ | refine blk_alloc ?_ _)); refine blk_put (cs := #[.int .i64 ((rd_T32 l0 x10_1).f0.f0), .string ((rd_T32 l0 x10_1).f0.f1), .string ((rd_T32 l0 x10_1).f0.f2), .bool false, .bool false, .slice none 0 0]) ?_ 3 _ rfl; (with_reducible repeat (first | refine blk_drewN ?_ _ | refine blk_drew ?_ | refine blk_alloc ?_ _)); refine blk_put (cs := #[.int .i64 ((rd_T32 l0 x10_1).f0.f0), .string ((rd_T32 l0 x10_1).f0.f1), .string (⟨#[]⟩ : ByteArray), .bool false, .bool false, .slice none 0 0]) ?_ 2 _ rfl; (with_reducible repeat (first | refine blk_drewN ?_ _ | refine blk_drew ?_ | refine blk_alloc ?_ _)); refine blk_put (cs := #[.int .i64 ((rd_T32 l0 x10_1).f0.f0), .string (⟨#[]⟩ : ByteArray), .string (⟨#[]⟩ : ByteArray), .bool false, .bool false, .slice none 0 0]) ?_ 1 _ rfl; (with_reducible repeat (first | refine blk_drewN ?_ _ | refine blk_drew ?_ | refine blk_alloc ?_ _)); refine blk_put (cs := #[.int .i64 0, .string (⟨#[]⟩ : ByteArray), .string (⟨#[]⟩ : ByteArray), .bool false, .bool false, .slice none 0 0]) ?_ 0 _ rfl; (with_reducible repeat (first | refine blk_drewN ?_ _ | refine blk_drew ?_ | refine blk_alloc ?_ _)); exact BK102.out)) : gb103 ≠ gb102)); clear BK102; clear HB; have BK102 := n0_; have HB := n1_; have BK103 := n2_; have GW103 := n3_; have GE103 := n4_; have NB102_103 := n5_; have NB103_102 := n6_; clear n0_ n1_ n2_ n3_ n4_ n5_ n6_; clear hb hbox hg; have hnb10 := NB103_102.out; have hnc10 := NB102_103.out; have hcz11_0 : w9.cell? ⟨gb103, 0, none⟩ = some (.int .i64 0) := (blk_cell BK103.out 0).trans rfl; have hcz11_1 : w9.cell? ⟨gb103, 1, none⟩ = some (.string (⟨#[]⟩ : ByteArray)) := (blk_cell BK103.out 1).trans rfl; have hcz11_2 : w9.cell? ⟨gb103, 2, none⟩ = some (.string (⟨#[]⟩ : ByteArray)) := (blk_cell BK103.out 2).trans rfl; have hcz11_3 : w9.cell? ⟨gb103, 3, none⟩ = some (.bool false) := (blk_cell BK103.out 3).trans rfl; have hcz11_4 : w9.cell? ⟨gb103, 4, none⟩ = some (.bool false) := (blk_cell BK103.out 4).trans rfl; have hfz11_0 := blk_frozen BK103.out 0; have hfz11_1 := blk_frozen BK103.out 1; have hfz11_2 := blk_frozen BK103.out 2; have hfz11_3 := blk_frozen BK103.out 3; have hfz11_4 := blk_frozen BK103.out 4))
                go_roundg k1
                case measure => have := HK1.out; omega
                case rel => exact ⟨(x4_1 ++ ((rd_T32 l0 x10_1).f0.f1)), (wrap64 (x10_1 + 1)), (by first | rfl | (simp; done) | (simp [*]; done)), (by first | rfl | (simp; done) | (simp [*]; done)), H', ⟨by have := HK1.out; omega⟩, ⟨by repeat (first | (with_reducible first | exact HB.out | apply below_alloc | apply pw_below_drewN | apply below_drew1 | refine below_set ?_ GE102.out | refine below_set ?_ GE103.out) | exact HB.out)⟩⟩
              · rw [if_neg c6] at H
                exact absurd H (by simp)
            · rw [if_neg c5] at H
              have c5b0 : (((rd_T32 l0 x10_1).f0.f0) == 1) = false := beq_eq_false_iff_ne.mpr c5
              have c5b1 : (((rd_T32 l0 x10_1).f0.f0) != 1) = true := bne_iff_ne.mpr c5
              have HC12 := Aside0.mk H
              clear H
              have p101 : 0 ≤ (x10_1 : Int) := of_decide_eq_true (by first | (with_reducible assumption) | assumption)
              have q101 : x10_1 < (l0.length : Int) := of_decide_eq_true (by first | (with_reducible assumption) | assumption)
              obtain ⟨ad101, A101_5, c101_5, e101, hx101_0, hx101_1, hx101_2, hx101_3, hx101_4, hx101_5, hl101_5, hi101_5⟩ := at_T32 HR0.out x10_1 p101 q101
              cases e101
              replace hx101_0 := (HB.out.cell (World.block_lt_of_cell? w _ hx101_0)).trans hx101_0
              replace hx101_1 := (HB.out.cell (World.block_lt_of_cell? w _ hx101_1)).trans hx101_1
              replace hx101_2 := (HB.out.cell (World.block_lt_of_cell? w _ hx101_2)).trans hx101_2
              replace hx101_3 := (HB.out.cell (World.block_lt_of_cell? w _ hx101_3)).trans hx101_3
              replace hx101_4 := (HB.out.cell (World.block_lt_of_cell? w _ hx101_4)).trans hx101_4
              replace hx101_5 := (HB.out.cell (World.block_lt_of_cell? w _ hx101_5)).trans hx101_5
              have HR101_5 := Aside0.mk hi101_5
              have HC101_5 := Aside0.mk hl101_5
              clear hi101_5 hl101_5
              replace p101 := eq_true p101
              replace q101 := eq_true q101
              go_upto_region 9 with (first | ((with_reducible refine gate_dst (N := 6) rfl ?_); (try (refine gate_guard (by rfl) ?_; dsimp only)); refine box_event ?hg (N := 6) ?hd (cs := #[.int .i64 0, .string (⟨#[]⟩ : ByteArray), .string (⟨#[]⟩ : ByteArray), .bool false, .bool false, .slice none 0 0]) (t := 32) ?hr ?_; (case hd => rfl); (case hg => rfl); (case hr => first | (go_simp; done) | (go_simp; rfl)); intro gb102 hg w13 hbox hb; have n0_ := Aside0.mk (below_step (by repeat (first | (with_reducible first | exact HB.out | apply below_alloc | apply pw_below_drewN | apply below_drew1) | exact HB.out)) hb); have n1_ := Aside0.mk (hbox); have n2_ := Aside0.mk ((by rw [hg]; exact (below_size (by repeat (first | (with_reducible first | exact HB.out | apply below_alloc | apply pw_below_drewN | apply below_drew1) | exact HB.out))) : w.heap.size ≤ gb102)); have n3_ := Aside0.mk ((by rw [hg]; exact (below_size (by repeat (first | (with_reducible first | exact HB.out | apply below_alloc | apply pw_below_drewN | apply below_drew1) | exact HB.out))) : w.heap.size ≤ gb102)); clear HB; have HB := n0_; have BK102 := n1_; have GW102 := n2_; have GE102 := n3_; clear n0_ n1_ n2_ n3_; clear hb hbox hg; have hcz14_0 : w13.cell? ⟨gb102, 0, none⟩ = some (.int .i64 0) := (blk_cell BK102.out 0).trans rfl; have hcz14_1 : w13.cell? ⟨gb102, 1, none⟩ = some (.string (⟨#[]⟩ : ByteArray)) := (blk_cell BK102.out 1).trans rfl; have hcz14_2 : w13.cell? ⟨gb102, 2, none⟩ = some (.string (⟨#[]⟩ : ByteArray)) := (blk_cell BK102.out 2).trans rfl; have hcz14_3 : w13.cell? ⟨gb102, 3, none⟩ = some (.bool false) := (blk_cell BK102.out 3).trans rfl; have hcz14_4 : w13.cell? ⟨gb102, 4, none⟩ = some (.bool false) := (blk_cell BK102.out 4).trans rfl; have hcz14_5 : w13.cell? ⟨gb102, 5, none⟩ = some (.slice none 0 0) := (blk_cell BK102.out 5).trans rfl; have hfz14_0 := blk_frozen BK102.out 0; have hfz14_1 := blk_frozen BK102.out 1; have hfz14_2 := blk_frozen BK102.out 2; have hfz14_3 := blk_frozen BK102.out 3; have hfz14_4 := blk_frozen BK102.out 4; have hfz14_5 := blk_frozen BK102.out 5) | ((with_reducible refine gate_dst (N := 7) rfl ?_); (try (refine gate_guard (by rfl) ?_; dsimp only)); refine box_event ?hg (N := 7) ?hd (cs := #[.int .i64 0, .string (⟨#[]⟩ : ByteArray), .string (⟨#[]⟩ : ByteArray), .bool false, .bool false]) (t := 30) ?hr ?_; (case hd => rfl); (case hg => rfl); (case hr => first | (go_simp; done) | (go_simp; rfl)); intro gb103 hg w15 hbox hb; have n0_ := Aside0.mk (blk_below (g := gb102) (o := .cells #[.int .i64 ((rd_T32 l0 x10_1).f0.f0), .string ((rd_T32 l0 x10_1).f0.f1), .string ((rd_T32 l0 x10_1).f0.f2), .bool ((rd_T32 l0 x10_1).f0.f3), .bool ((rd_T32 l0 x10_1).f0.f4), .slice A101_5 ((rd_T32 l0 x10_1).f1).length c101_5] 32 (0, 0)) (by (with_reducible repeat (first | refine blk_drewN ?_ _ | refine blk_drew ?_ | refine blk_alloc ?_ _)); refine blk_put (cs := #[.int .i64 ((rd_T32 l0 x10_1).f0.f0), .string ((rd_T32 l0 x10_1).f0.f1), .string ((rd_T32 l0 x10_1).f0.f2), .bool ((rd_T32 l0 x10_1).f0.f3), .bool ((rd_T32 l0 x10_1).f0.f4), .slice none 0 0]) ?_ 5 _ rfl; (with_reducible repeat (first | refine blk_drewN ?_ _ | refine blk_drew ?_ | refine blk_alloc ?_ _)); refine blk_put (cs := #[.int .i64 ((rd_T32 l0 x10_1).f0.f0), .string ((rd_T32 l0 x10_1).f0.f1), .string ((rd_T32 l0 x10_1).f0.f2), .bool ((rd_T32 l0 x10_1).f0.f3), .bool false, .slice none 0 0]) ?_ 4 _ rfl; (with_reducible repeat (first | refine blk_drewN ?_ _ | refine blk_drew ?_ | refine blk_alloc ?_ _)); refine blk_put (cs := #[.int .i64 ((rd_T32 l0 x10_1).f0.f0), .string ((rd_T32 l0 x10_1).f0.f1), .string ((rd_T32 l0 x10_1).f0.f2), .bool false, .bool false, .slice none 0 0]) ?_ 3 _ rfl; (with_reducible repeat (first | refine blk_drewN ?_ _ | refine blk_drew ?_ | refine blk_alloc ?_ _)); refine blk_put (cs := #[.int .i64 ((rd_T32 l0 x10_1).f0.f0), .string ((rd_T32 l0 x10_1).f0.f1), .string (⟨#[]⟩ : ByteArray), .bool false, .bool false, .slice none 0 0]) ?_ 2 _ rfl; (with_reducible repeat (first | refine blk_drewN ?_ _ | refine blk_drew ?_ | refine blk_alloc ?_ _)); refine blk_put (cs := #[.int .i64 ((rd_T32 l0 x10_1).f0.f0), .string (⟨#[]⟩ : ByteArray), .string (⟨#[]⟩ : ByteArray), .bool false, .bool false, .slice none 0 0]) ?_ 1 _ rfl; (with_reducible repeat (first | refine blk_drewN ?_ _ | refine blk_drew ?_ | refine blk_alloc ?_ _)); refine blk_put (cs := #[.int .i64 0, .string (⟨#[]⟩ : ByteArray), .string (⟨#[]⟩ : ByteArray), .bool false, .bool false, .slice none 0 0]) ?_ 0 _ rfl; (with_reducible repeat (first | refine blk_drewN ?_ _ | refine blk_drew ?_ | refine blk_alloc ?_ _)); exact BK102.out) hb); have n1_ := Aside0.mk (below_step (by repeat (first | (with_reducible first | exact HB.out | apply below_alloc | apply pw_below_drewN | apply below_drew1 | refine below_set ?_ GE102.out) | exact HB.out)) hb); have n2_ := Aside0.mk (hbox); have n3_ := Aside0.mk ((by rw [hg]; exact (below_size (by repeat (first | (with_reducible first | exact HB.out | apply below_alloc | apply pw_below_drewN | apply below_drew1 | refine below_set ?_ GE102.out) | exact HB.out))) : w.heap.size ≤ gb103)); have n4_ := Aside0.mk ((by rw [hg]; exact (below_size (by repeat (first | (with_reducible first | exact HB.out | apply below_alloc | apply pw_below_drewN | apply below_drew1 | refine below_set ?_ GE102.out) | exact HB.out))) : w.heap.size ≤ gb103)); have n5_ := Aside0.mk ((by rw [hg]; exact Nat.ne_of_lt (blk_lt (g := gb102) (o := .cells #[.int .i64 ((rd_T32 l0 x10_1).f0.f0), .string ((rd_T32 l0 x10_1).f0.f1), .string ((rd_T32 l0 x10_1).f0.f2), .bool ((rd_T32 l0 x10_1).f0.f3), .bool ((rd_T32 l0 x10_1).f0.f4), .slice A101_5 ((rd_T32 l0 x10_1).f1).length c101_5] 32 (0, 0)) (by (with_reducible repeat (first | refine blk_drewN ?_ _ | refine blk_drew ?_ | refine blk_alloc ?_ _)); refine blk_put (cs := #[.int .i64 ((rd_T32 l0 x10_1).f0.f0), .string ((rd_T32 l0 x10_1).f0.f1), .string ((rd_T32 l0 x10_1).f0.f2), .bool ((rd_T32 l0 x10_1).f0.f3), .bool ((rd_T32 l0 x10_1).f0.f4), .slice none 0 0]) ?_ 5 _ rfl; (with_reducible repeat (first | refine blk_drewN ?_ _ | refine blk_drew ?_ | refine blk_alloc ?_ _)); refine blk_put (cs := #[.int .i64 ((rd_T32 l0 x10_1).f0.f0), .string ((rd_T32 l0 x10_1).f0.f1), .string ((rd_T32 l0 x10_1).f0.f2), .bool ((rd_T32 l0 x10_1).f0.f3), .bool false, .slice none 0 0]) ?_ 4 _ rfl; (with_reducible repeat (first | refine blk_drewN ?_ _ | refine blk_drew ?_ | refine blk_alloc ?_ _)); refine blk_put (cs := #[.int .i64 ((rd_T32 l0 x10_1).f0.f0), .string ((rd_T32 l0 x10_1).f0.f1), .string ((rd_T32 l0 x10_1).f0.f2), .bool false, .bool false, .slice none 0 0]) ?_ 3 _ rfl; (with_reducible repeat (first | refine blk_drewN ?_ _ | refine blk_drew ?_ | refine blk_alloc ?_ _)); refine blk_put (cs := #[.int .i64 ((rd_T32 l0 x10_1).f0.f0), .string ((rd_T32 l0 x10_1).f0.f1), .string (⟨#[]⟩ : ByteArray), .bool false, .bool false, .slice none 0 0]) ?_ 2 _ rfl; (with_reducible repeat (first | refine blk_drewN ?_ _ | refine blk_drew ?_ | refine blk_alloc ?_ _)); refine blk_put (cs := #[.int .i64 ((rd_T32 l0 x10_1).f0.f0), .string (⟨#[]⟩ : ByteArray), .string (⟨#[]⟩ : ByteArray), .bool false, .bool false, .slice none 0 0]) ?_ 1 _ rfl; (with_reducible repeat (first | refine blk_drewN ?_ _ | refine blk_drew ?_ | refine blk_alloc ?_ _)); refine blk_put (cs := #[.int .i64 0, .string (⟨#[]⟩ : ByteArray), .string (⟨#[]⟩ : ByteArray), .bool false, .bool false, .slice none 0 0]) ?_ 0 _ rfl; (with_reducible repeat (first | refine blk_drewN ?_ _ | refine blk_drew ?_ | refine blk_alloc ?_ _)); exact BK102.out)) : gb102 ≠ gb103)); have n6_ := Aside0.mk ((by rw [hg]; exact Nat.ne_of_gt (blk_lt (g := gb102) (o := .cells #[.int .i64 ((rd_T32 l0 x10_1).f0.f0), .string ((rd_T32 l0 x10_1).f0.f1), .string ((rd_T32 l0 x10_1).f0.f2), .bool ((rd_T32 l0 x10_1).f0.f3), .bool ((rd_T32 l0 x10_1).f0.f4), .slice A101_5 ((rd_T32 l0 x10_1).f1).length c101_5] 32 (0, 0)) (by (with_reducible repeat (first | refine blk_drewN ?_ _ | refine blk_drew ?_ | refine blk_alloc ?_ _)); refine blk_put (cs := #[.int .i64 ((rd_T32 l0 x10_1).f0.f0), .string ((rd_T32 l0 x10_1).f0.f1), .string ((rd_T32 l0 x10_1).f0.f2), .bool ((rd_T32 l0 x10_1).f0.f3), .bool ((rd_T32 l0 x10_1).f0.f4), .slice none 0 0]) ?_ 5 _ rfl; (with_reducible repeat (first | refine blk_drewN ?_ _ | refine blk_drew ?_ | refine blk_alloc ?_ _)); refine blk_put (cs := #[.int .i64 ((rd_T32 l0 x10_1).f0.f0), .string ((rd_T32 l0 x10_1).f0.f1), .string ((rd_T32 l0 x10_1).f0.f2), .bool ((rd_T32 l0 x10_1).f0.f3), .bool false, .slice none 0 0]) ?_ 4 _ rfl; (with_reducible repeat (first | refine blk_drewN ?_ _ | refine blk_drew ?_ | refine blk_alloc ?_ _)); refine blk_put (cs := #[.int .i64 ((rd_T32 l0 x10_1).f0.f0), .string ((rd_T32 l0 x10_1).f0.f1), .string ((rd_T32 l0 x10_1).f0.f2), .bool false, .bool false, .slice none 0 0]) ?_ 3 _ rfl; (with_reducible repeat (first | refine blk_drewN ?_ _ | refine blk_drew ?_ | refine blk_alloc ?_ _)); refine blk_put (cs := #[.int .i64 ((rd_T32 l0 x10_1).f0.f0), .string ((rd_T32 l0 x10_1).f0.f1), .string (⟨#[]⟩ : ByteArray), .bool false, .bool false, .slice none 0 0]) ?_ 2 _ rfl; (with_reducible repeat (first | refine blk_drewN ?_ _ | refine blk_drew ?_ | refine blk_alloc ?_ _)); refine blk_put (cs := #[.int .i64 ((rd_T32 l0 x10_1).f0.f0), .string (⟨#[]⟩ : ByteArray), .string (⟨#[]⟩ : ByteArray), .bool false, .bool false, .slice none 0 0]) ?_ 1 _ rfl; (with_reducible repeat (first | refine blk_drewN ?_ _ | refine blk_drew ?_ | refine blk_alloc ?_ _)); refine blk_put (cs := #[.int .i64 0, .string (⟨#[]⟩ : ByteArray), .string (⟨#[]⟩ : ByteArray), .bool false, .bool false, .slice none 0 0]) ?_ 0 _ rfl; (with_reducible repeat (first | refine blk_drewN ?_ _ | refine blk_drew ?_ | refine blk_alloc ?_ _)); exact BK102.out)) : gb103 ≠ gb102)); clear BK102; clear HB; have BK102 := n0_; have HB := n1_; have BK103 := n2_; have GW103 := n3_; have GE103 := n4_; have NB102_103 := n5_; have NB103_102 := n6_; clear n0_ n1_ n2_ n3_ n4_ n5_ n6_; clear hb hbox hg; have hnb16 := NB103_102.out; have hnc16 := NB102_103.out; have hcz17_0 : w15.cell? ⟨gb103, 0, none⟩ = some (.int .i64 0) := (blk_cell BK103.out 0).trans rfl; have hcz17_1 : w15.cell? ⟨gb103, 1, none⟩ = some (.string (⟨#[]⟩ : ByteArray)) := (blk_cell BK103.out 1).trans rfl; have hcz17_2 : w15.cell? ⟨gb103, 2, none⟩ = some (.string (⟨#[]⟩ : ByteArray)) := (blk_cell BK103.out 2).trans rfl; have hcz17_3 : w15.cell? ⟨gb103, 3, none⟩ = some (.bool false) := (blk_cell BK103.out 3).trans rfl; have hcz17_4 : w15.cell? ⟨gb103, 4, none⟩ = some (.bool false) := (blk_cell BK103.out 4).trans rfl; have hfz17_0 := blk_frozen BK103.out 0; have hfz17_1 := blk_frozen BK103.out 1; have hfz17_2 := blk_frozen BK103.out 2; have hfz17_3 := blk_frozen BK103.out 3; have hfz17_4 := blk_frozen BK103.out 4))
              (try simp only [Act.put, List.setIfInBounds_toArray, List.set_cons_zero, List.set_cons_succ])
              go_cut [24] (fun v24 wc => ∃ (kq : Nat) (x24_11 : Bool), v24 = .bool x24_11 ∧ Aside0 (gouacheref04_written.j1 kq x4_1 l0 (l0.length : Int) x10_1 x24_11 ((rd_T32 l0 x10_1).f0.f0) ((rd_T32 l0 x10_1).f0.f1) ((rd_T32 l0 x10_1).f0.f2) ((rd_T32 l0 x10_1).f0.f3) ((rd_T32 l0 x10_1).f0.f4) = some (r1, r2)) ∧ Aside0 (kq ≤ k1) ∧ Aside0 (wc.heap[gb102]? = some (.cells #[.int .i64 ((rd_T32 l0 x10_1).f0.f0), .string ((rd_T32 l0 x10_1).f0.f1), .string ((rd_T32 l0 x10_1).f0.f2), .bool ((rd_T32 l0 x10_1).f0.f3), .bool ((rd_T32 l0 x10_1).f0.f4), (.slice A101_5 ((rd_T32 l0 x10_1).f1).length c101_5)] 32 (0, 0))) ∧ Aside0 (wc.heap[gb103]? = some (.cells #[.int .i64 ((rd_T32 l0 x10_1).f0.f0), .string ((rd_T32 l0 x10_1).f0.f1), .string ((rd_T32 l0 x10_1).f0.f2), .bool ((rd_T32 l0 x10_1).f0.f3), .bool ((rd_T32 l0 x10_1).f0.f4)] 30 (0, 0))) ∧ Aside0 (Below w.heap.size w wc))
              case first =>
                have H := HC12.out
                clear HC12
                by_cases c18 : ((rd_T32 l0 x10_1).f0.f0) = 10
                · rw [if_pos c18] at H
                  have c18b0 : (((rd_T32 l0 x10_1).f0.f0) == 10) = true := beq_iff_eq.mpr c18
                  have c18b1 : (((rd_T32 l0 x10_1).f0.f0) != 10) = false := bne_eq_false_iff_eq.mpr c18
                  clear c18
                  (first | rw [c18b0] | (simp only [i64_w, i32_w]; rw [c18b0]) | skip)
                  have H' := Aside0.mk H
                  clear H
                  have hnb19 := NB103_102.out
                  have hnc19 := NB102_103.out
                  have hcz20_0 : w15.cell? ⟨gb103, 0, none⟩ = some (.int .i64 0) := (blk_cell BK103.out 0).trans rfl
                  have hcz20_1 : w15.cell? ⟨gb103, 1, none⟩ = some (.string (⟨#[]⟩ : ByteArray)) := (blk_cell BK103.out 1).trans rfl
                  have hcz20_2 : w15.cell? ⟨gb103, 2, none⟩ = some (.string (⟨#[]⟩ : ByteArray)) := (blk_cell BK103.out 2).trans rfl
                  have hcz20_3 : w15.cell? ⟨gb103, 3, none⟩ = some (.bool false) := (blk_cell BK103.out 3).trans rfl
                  have hcz20_4 : w15.cell? ⟨gb103, 4, none⟩ = some (.bool false) := (blk_cell BK103.out 4).trans rfl
                  have hfz20_0 := blk_frozen BK103.out 0
                  have hfz20_1 := blk_frozen BK103.out 1
                  have hfz20_2 := blk_frozen BK103.out 2
                  have hfz20_3 := blk_frozen BK103.out 3
                  have hfz20_4 := blk_frozen BK103.out 4
                  go_wp2
                  go_meet
                  case rel => exact ⟨_, ((rd_T32 l0 x10_1).f0.f3), (by first | rfl | (simp; done) | (simp [*]; done)), H', ⟨by have := HK1.out; first | omega | exact Nat.le_refl _⟩, ⟨by (with_reducible repeat (first | refine blk_drewN ?_ _ | refine blk_drew ?_ | refine blk_alloc ?_ _)); refine blk_far ?_ NB102_103.out _; (with_reducible repeat (first | refine blk_drewN ?_ _ | refine blk_drew ?_ | refine blk_alloc ?_ _)); refine blk_far ?_ NB102_103.out _; (with_reducible repeat (first | refine blk_drewN ?_ _ | refine blk_drew ?_ | refine blk_alloc ?_ _)); refine blk_far ?_ NB102_103.out _; (with_reducible repeat (first | refine blk_drewN ?_ _ | refine blk_drew ?_ | refine blk_alloc ?_ _)); refine blk_far ?_ NB102_103.out _; (with_reducible repeat (first | refine blk_drewN ?_ _ | refine blk_drew ?_ | refine blk_alloc ?_ _)); refine blk_far ?_ NB102_103.out _; (with_reducible repeat (first | refine blk_drewN ?_ _ | refine blk_drew ?_ | refine blk_alloc ?_ _)); exact BK102.out⟩, ⟨by (with_reducible repeat (first | refine blk_drewN ?_ _ | refine blk_drew ?_ | refine blk_alloc ?_ _)); refine blk_put (cs := #[.int .i64 ((rd_T32 l0 x10_1).f0.f0), .string ((rd_T32 l0 x10_1).f0.f1), .string ((rd_T32 l0 x10_1).f0.f2), .bool ((rd_T32 l0 x10_1).f0.f3), .bool false]) ?_ 4 _ rfl; (with_reducible repeat (first | refine blk_drewN ?_ _ | refine blk_drew ?_ | refine blk_alloc ?_ _)); refine blk_put (cs := #[.int .i64 ((rd_T32 l0 x10_1).f0.f0), .string ((rd_T32 l0 x10_1).f0.f1), .string ((rd_T32 l0 x10_1).f0.f2), .bool false, .bool false]) ?_ 3 _ rfl; (with_reducible repeat (first | refine blk_drewN ?_ _ | refine blk_drew ?_ | refine blk_alloc ?_ _)); refine blk_put (cs := #[.int .i64 ((rd_T32 l0 x10_1).f0.f0), .string ((rd_T32 l0 x10_1).f0.f1), .string (⟨#[]⟩ : ByteArray), .bool false, .bool false]) ?_ 2 _ rfl; (with_reducible repeat (first | refine blk_drewN ?_ _ | refine blk_drew ?_ | refine blk_alloc ?_ _)); refine blk_put (cs := #[.int .i64 ((rd_T32 l0 x10_1).f0.f0), .string (⟨#[]⟩ : ByteArray), .string (⟨#[]⟩ : ByteArray), .bool false, .bool false]) ?_ 1 _ rfl; (with_reducible repeat (first | refine blk_drewN ?_ _ | refine blk_drew ?_ | refine blk_alloc ?_ _)); refine blk_put (cs := #[.int .i64 0, .string (⟨#[]⟩ : ByteArray), .string (⟨#[]⟩ : ByteArray), .bool false, .bool false]) ?_ 0 _ rfl; (with_reducible repeat (first | refine blk_drewN ?_ _ | refine blk_drew ?_ | refine blk_alloc ?_ _)); exact BK103.out⟩, ⟨by repeat (first | (with_reducible first | exact HB.out | apply below_alloc | apply pw_below_drewN | apply below_drew1 | refine below_set ?_ GE102.out | refine below_set ?_ GE103.out) | exact HB.out)⟩⟩
                · rw [if_neg c18] at H
                  have c18b0 : (((rd_T32 l0 x10_1).f0.f0) == 10) = false := beq_eq_false_iff_ne.mpr c18
                  have c18b1 : (((rd_T32 l0 x10_1).f0.f0) != 10) = true := bne_iff_ne.mpr c18
                  (first | rw [c18b0] | (simp only [i64_w, i32_w]; rw [c18b0]) | skip)
                  have H' := Aside0.mk H
                  clear H
                  have hnb21 := NB103_102.out
                  have hnc21 := NB102_103.out
                  have hcz22_0 : w15.cell? ⟨gb103, 0, none⟩ = some (.int .i64 0) := (blk_cell BK103.out 0).trans rfl
                  have hcz22_1 : w15.cell? ⟨gb103, 1, none⟩ = some (.string (⟨#[]⟩ : ByteArray)) := (blk_cell BK103.out 1).trans rfl
                  have hcz22_2 : w15.cell? ⟨gb103, 2, none⟩ = some (.string (⟨#[]⟩ : ByteArray)) := (blk_cell BK103.out 2).trans rfl
                  have hcz22_3 : w15.cell? ⟨gb103, 3, none⟩ = some (.bool false) := (blk_cell BK103.out 3).trans rfl
                  have hcz22_4 : w15.cell? ⟨gb103, 4, none⟩ = some (.bool false) := (blk_cell BK103.out 4).trans rfl
                  have hfz22_0 := blk_frozen BK103.out 0
                  have hfz22_1 := blk_frozen BK103.out 1
                  have hfz22_2 := blk_frozen BK103.out 2
                  have hfz22_3 := blk_frozen BK103.out 3
                  have hfz22_4 := blk_frozen BK103.out 4
                  go_wp2
                  go_meet
                  case rel => exact ⟨_, (false), (by first | rfl | (simp; done) | (simp [*]; done)), H', ⟨by have := HK1.out; first | omega | exact Nat.le_refl _⟩, ⟨by (with_reducible repeat (first | refine blk_drewN ?_ _ | refine blk_drew ?_ | refine blk_alloc ?_ _)); refine blk_far ?_ NB102_103.out _; (with_reducible repeat (first | refine blk_drewN ?_ _ | refine blk_drew ?_ | refine blk_alloc ?_ _)); refine blk_far ?_ NB102_103.out _; (with_reducible repeat (first | refine blk_drewN ?_ _ | refine blk_drew ?_ | refine blk_alloc ?_ _)); refine blk_far ?_ NB102_103.out _; (with_reducible repeat (first | refine blk_drewN ?_ _ | refine blk_drew ?_ | refine blk_alloc ?_ _)); refine blk_far ?_ NB102_103.out _; (with_reducible repeat (first | refine blk_drewN ?_ _ | refine blk_drew ?_ | refine blk_alloc ?_ _)); refine blk_far ?_ NB102_103.out _; (with_reducible repeat (first | refine blk_drewN ?_ _ | refine blk_drew ?_ | refine blk_alloc ?_ _)); exact BK102.out⟩, ⟨by (with_reducible repeat (first | refine blk_drewN ?_ _ | refine blk_drew ?_ | refine blk_alloc ?_ _)); refine blk_put (cs := #[.int .i64 ((rd_T32 l0 x10_1).f0.f0), .string ((rd_T32 l0 x10_1).f0.f1), .string ((rd_T32 l0 x10_1).f0.f2), .bool ((rd_T32 l0 x10_1).f0.f3), .bool false]) ?_ 4 _ rfl; (with_reducible repeat (first | refine blk_drewN ?_ _ | refine blk_drew ?_ | refine blk_alloc ?_ _)); refine blk_put (cs := #[.int .i64 ((rd_T32 l0 x10_1).f0.f0), .string ((rd_T32 l0 x10_1).f0.f1), .string ((rd_T32 l0 x10_1).f0.f2), .bool false, .bool false]) ?_ 3 _ rfl; (with_reducible repeat (first | refine blk_drewN ?_ _ | refine blk_drew ?_ | refine blk_alloc ?_ _)); refine blk_put (cs := #[.int .i64 ((rd_T32 l0 x10_1).f0.f0), .string ((rd_T32 l0 x10_1).f0.f1), .string (⟨#[]⟩ : ByteArray), .bool false, .bool false]) ?_ 2 _ rfl; (with_reducible repeat (first | refine blk_drewN ?_ _ | refine blk_drew ?_ | refine blk_alloc ?_ _)); refine blk_put (cs := #[.int .i64 ((rd_T32 l0 x10_1).f0.f0), .string (⟨#[]⟩ : ByteArray), .string (⟨#[]⟩ : ByteArray), .bool false, .bool false]) ?_ 1 _ rfl; (with_reducible repeat (first | refine blk_drewN ?_ _ | refine blk_drew ?_ | refine blk_alloc ?_ _)); refine blk_put (cs := #[.int .i64 0, .string (⟨#[]⟩ : ByteArray), .string (⟨#[]⟩ : ByteArray), .bool false, .bool false]) ?_ 0 _ rfl; (with_reducible repeat (first | refine blk_drewN ?_ _ | refine blk_drew ?_ | refine blk_alloc ?_ _)); exact BK103.out⟩, ⟨by repeat (first | (with_reducible first | exact HB.out | apply below_alloc | apply pw_below_drewN | apply below_drew1 | refine below_set ?_ GE102.out | refine below_set ?_ GE103.out) | exact HB.out)⟩⟩
              case rest =>
                clear HC12
                try clear c1
                try clear p1
                try clear q1
                try clear hx1
                try clear c2
                try clear c2b0
                try clear p2
                try clear c3
                try clear c3b0
                try clear c4
                try clear c4b0
                try clear c5
                try clear c5b0
                try clear c5b1
                try clear c6
                try clear c6b0
                try clear c6b1
                try clear c6b2
                try clear p6
                try clear c10
                try clear p10
                try clear q10
                try clear hx10
                try clear c16
                try clear c18
                try clear c18b0
                try clear c18b1
                try clear c19
                try clear c21
                try clear hcz11_0
                try clear hcz11_1
                try clear hcz11_2
                try clear hcz11_3
                try clear hcz11_4
                try clear hcz14_0
                try clear hcz14_1
                try clear hcz14_2
                try clear hcz14_3
                try clear hcz14_4
                try clear hcz14_5
                try clear hcz17_0
                try clear hcz17_1
                try clear hcz17_2
                try clear hcz17_3
                try clear hcz17_4
                try clear hcz20_0
                try clear hcz20_1
                try clear hcz20_2
                try clear hcz20_3
                try clear hcz20_4
                try clear hcz22_0
                try clear hcz22_1
                try clear hcz22_2
                try clear hcz22_3
                try clear hcz22_4
                try clear hcz8_0
                try clear hcz8_1
                try clear hcz8_2
                try clear hcz8_3
                try clear hcz8_4
                try clear hcz8_5
                try clear hfz11_0
                try clear hfz11_1
                try clear hfz11_2
                try clear hfz11_3
                try clear hfz11_4
                try clear hfz14_0
                try clear hfz14_1
                try clear hfz14_2
                try clear hfz14_3
                try clear hfz14_4
                try clear hfz14_5
                try clear hfz17_0
                try clear hfz17_1
                try clear hfz17_2
                try clear hfz17_3
                try clear hfz17_4
                try clear hfz20_0
                try clear hfz20_1
                try clear hfz20_2
                try clear hfz20_3
                try clear hfz20_4
                try clear hfz22_0
                try clear hfz22_1
                try clear hfz22_2
                try clear hfz22_3
                try clear hfz22_4
                try clear hfz8_0
                try clear hfz8_1
                try clear hfz8_2
                try clear hfz8_3
                try clear hfz8_4
                try clear hfz8_5
                try clear hx101_0
                try clear hx101_1
                try clear hx101_2
                try clear hx101_3
                try clear hx101_4
                try clear hx101_5
                try clear p101
                try clear q101
                obtain ⟨kq, x24_11, rfl, HA, HJ11, BK102, BK103, HB⟩ := hcut
                cases kq with
                | zero => exact absurd HA.out (by simp [gouacheref04_written.j1])
                | succ kj11 =>
                  have H := HA.out
                  clear HA
                  simp only [gouacheref04_written.j1] at H
                  by_cases c23 : x24_11 = true
                  · subst c23
                    have H1 : (if x4_1.size + ((rd_T32 l0 x10_1).f0.f1).size ≤ 9223372036854775807 then (gouacheref04_written.l0 kj11 (x4_1 ++ ((rd_T32 l0 x10_1).f0.f1)) l0 (l0.length : Int) (wrap64 (x10_1 + 1))) else (none)) = some (r1, r2) := by rw [if_pos rfl] at H; exact H
                    clear H
                    have H := H1
                    clear H1
                    by_cases c24 : x4_1.size + ((rd_T32 l0 x10_1).f0.f1).size ≤ 9223372036854775807
                    · rw [if_pos c24] at H
                      have c24b0 := eq_true c24
                      have c24b1 : decide (x4_1.size + ((rd_T32 l0 x10_1).f0.f1).size ≤ 9223372036854775807) = true := decide_eq_true c24
                      try have c24b2 : (9223372036854775807 < x4_1.size + ((rd_T32 l0 x10_1).f0.f1).size) = False := eq_false (Nat.not_lt.2 c24)
                      have H' := Aside0.mk H
                      clear H
                      have hnb25 := NB103_102.out
                      have hnc25 := NB102_103.out
                      have hcz26_0 : wc.cell? ⟨gb103, 0, none⟩ = some (.int .i64 ((rd_T32 l0 x10_1).f0.f0)) := (blk_cell BK103.out 0).trans rfl
                      have hcz26_1 : wc.cell? ⟨gb103, 1, none⟩ = some (.string ((rd_T32 l0 x10_1).f0.f1)) := (blk_cell BK103.out 1).trans rfl
                      have hcz26_2 : wc.cell? ⟨gb103, 2, none⟩ = some (.string ((rd_T32 l0 x10_1).f0.f2)) := (blk_cell BK103.out 2).trans rfl
                      have hcz26_3 : wc.cell? ⟨gb103, 3, none⟩ = some (.bool ((rd_T32 l0 x10_1).f0.f3)) := (blk_cell BK103.out 3).trans rfl
                      have hcz26_4 : wc.cell? ⟨gb103, 4, none⟩ = some (.bool ((rd_T32 l0 x10_1).f0.f4)) := (blk_cell BK103.out 4).trans rfl
                      have hfz26_0 := blk_frozen BK103.out 0
                      have hfz26_1 := blk_frozen BK103.out 1
                      have hfz26_2 := blk_frozen BK103.out 2
                      have hfz26_3 := blk_frozen BK103.out 3
                      have hfz26_4 := blk_frozen BK103.out 4
                      go_wp2
                      go_roundg kj11
                      case measure => have := HK1.out; have := HJ11.out; omega
                      case rel => exact ⟨(x4_1 ++ ((rd_T32 l0 x10_1).f0.f1)), (wrap64 (x10_1 + 1)), (by first | rfl | (simp; done) | (simp [*]; done)), (by first | rfl | (simp; done) | (simp [*]; done)), H', ⟨by have := HK1.out; have := HJ11.out; omega⟩, ⟨by repeat (first | (with_reducible first | exact HB.out | apply below_alloc | apply pw_below_drewN | apply below_drew1 | refine below_set ?_ GE102.out | refine below_set ?_ GE103.out) | exact HB.out)⟩⟩
                    · rw [if_neg c24] at H
                      exact absurd H (by simp)
                  · replace c23 := Bool.eq_false_iff.mpr c23
                    subst c23
                    have H1 : (if ((rd_T32 l0 x10_1).f0.f0) = 12 then (gouacheref04_written.j2 kj11 x4_1 l0 (l0.length : Int) x10_1 ((rd_T32 l0 x10_1).f0.f3) ((rd_T32 l0 x10_1).f0.f0) ((rd_T32 l0 x10_1).f0.f1) ((rd_T32 l0 x10_1).f0.f2) ((rd_T32 l0 x10_1).f0.f3) ((rd_T32 l0 x10_1).f0.f4)) else (gouacheref04_written.j2 kj11 x4_1 l0 (l0.length : Int) x10_1 false ((rd_T32 l0 x10_1).f0.f0) ((rd_T32 l0 x10_1).f0.f1) ((rd_T32 l0 x10_1).f0.f2) ((rd_T32 l0 x10_1).f0.f3) ((rd_T32 l0 x10_1).f0.f4))) = some (r1, r2) := by rw [if_neg (show ¬ (false = true) by decide)] at H; exact H
                    clear H
                    have H := H1
                    clear H1
                    have HC27 := Aside0.mk H
                    clear H
                    go_upto_region 11 with (fail)
                    go_cut [36] (fun v36 wc => ∃ (kq : Nat) (x36_26 : Bool), v36 = .bool x36_26 ∧ Aside0 (gouacheref04_written.j2 kq x4_1 l0 (l0.length : Int) x10_1 x36_26 ((rd_T32 l0 x10_1).f0.f0) ((rd_T32 l0 x10_1).f0.f1) ((rd_T32 l0 x10_1).f0.f2) ((rd_T32 l0 x10_1).f0.f3) ((rd_T32 l0 x10_1).f0.f4) = some (r1, r2)) ∧ Aside0 (kq ≤ kj11) ∧ Aside0 (wc.heap[gb102]? = some (.cells #[.int .i64 ((rd_T32 l0 x10_1).f0.f0), .string ((rd_T32 l0 x10_1).f0.f1), .string ((rd_T32 l0 x10_1).f0.f2), .bool ((rd_T32 l0 x10_1).f0.f3), .bool ((rd_T32 l0 x10_1).f0.f4), (.slice A101_5 ((rd_T32 l0 x10_1).f1).length c101_5)] 32 (0, 0))) ∧ Aside0 (wc.heap[gb103]? = some (.cells #[.int .i64 ((rd_T32 l0 x10_1).f0.f0), .string ((rd_T32 l0 x10_1).f0.f1), .string ((rd_T32 l0 x10_1).f0.f2), .bool ((rd_T32 l0 x10_1).f0.f3), .bool ((rd_T32 l0 x10_1).f0.f4)] 30 (0, 0))) ∧ Aside0 (Below w.heap.size w wc))
                    case first =>
                      have H := HC27.out
                      clear HC27
                      by_cases c28 : ((rd_T32 l0 x10_1).f0.f0) = 12
                      · rw [if_pos c28] at H
                        have c28b0 : (((rd_T32 l0 x10_1).f0.f0) == 12) = true := beq_iff_eq.mpr c28
                        have c28b1 : (((rd_T32 l0 x10_1).f0.f0) != 12) = false := bne_eq_false_iff_eq.mpr c28
                        clear c28
                        (first | rw [c28b0] | (simp only [i64_w, i32_w]; rw [c28b0]) | skip)
                        have H' := Aside0.mk H
                        clear H
                        have hnb29 := NB103_102.out
                        have hnc29 := NB102_103.out
                        have hcz30_0 : wc.cell? ⟨gb103, 0, none⟩ = some (.int .i64 ((rd_T32 l0 x10_1).f0.f0)) := (blk_cell BK103.out 0).trans rfl
                        have hcz30_1 : wc.cell? ⟨gb103, 1, none⟩ = some (.string ((rd_T32 l0 x10_1).f0.f1)) := (blk_cell BK103.out 1).trans rfl
                        have hcz30_2 : wc.cell? ⟨gb103, 2, none⟩ = some (.string ((rd_T32 l0 x10_1).f0.f2)) := (blk_cell BK103.out 2).trans rfl
                        have hcz30_3 : wc.cell? ⟨gb103, 3, none⟩ = some (.bool ((rd_T32 l0 x10_1).f0.f3)) := (blk_cell BK103.out 3).trans rfl
                        have hcz30_4 : wc.cell? ⟨gb103, 4, none⟩ = some (.bool ((rd_T32 l0 x10_1).f0.f4)) := (blk_cell BK103.out 4).trans rfl
                        have hfz30_0 := blk_frozen BK103.out 0
                        have hfz30_1 := blk_frozen BK103.out 1
                        have hfz30_2 := blk_frozen BK103.out 2
                        have hfz30_3 := blk_frozen BK103.out 3
                        have hfz30_4 := blk_frozen BK103.out 4
                        go_wp2
                        go_meet
                        case rel => exact ⟨_, (((rd_T32 l0 x10_1).f0.f3)), (by first | rfl | (simp; done) | (simp [*]; done)), H', ⟨by have := HK1.out; have := HJ11.out; first | omega | exact Nat.le_refl _⟩, ⟨by (with_reducible repeat (first | refine blk_drewN ?_ _ | refine blk_drew ?_ | refine blk_alloc ?_ _)); exact BK102.out⟩, ⟨by (with_reducible repeat (first | refine blk_drewN ?_ _ | refine blk_drew ?_ | refine blk_alloc ?_ _)); exact BK103.out⟩, ⟨by repeat (first | (with_reducible first | exact HB.out | apply below_alloc | apply pw_below_drewN | apply below_drew1 | refine below_set ?_ GE102.out | refine below_set ?_ GE103.out) | exact HB.out)⟩⟩
                      · rw [if_neg c28] at H
                        have c28b0 : (((rd_T32 l0 x10_1).f0.f0) == 12) = false := beq_eq_false_iff_ne.mpr c28
                        have c28b1 : (((rd_T32 l0 x10_1).f0.f0) != 12) = true := bne_iff_ne.mpr c28
                        (first | rw [c28b0] | (simp only [i64_w, i32_w]; rw [c28b0]) | skip)
                        have H' := Aside0.mk H
                        clear H
                        have hnb31 := NB103_102.out
                        have hnc31 := NB102_103.out
                        have hcz32_0 : wc.cell? ⟨gb103, 0, none⟩ = some (.int .i64 ((rd_T32 l0 x10_1).f0.f0)) := (blk_cell BK103.out 0).trans rfl
                        have hcz32_1 : wc.cell? ⟨gb103, 1, none⟩ = some (.string ((rd_T32 l0 x10_1).f0.f1)) := (blk_cell BK103.out 1).trans rfl
                        have hcz32_2 : wc.cell? ⟨gb103, 2, none⟩ = some (.string ((rd_T32 l0 x10_1).f0.f2)) := (blk_cell BK103.out 2).trans rfl
                        have hcz32_3 : wc.cell? ⟨gb103, 3, none⟩ = some (.bool ((rd_T32 l0 x10_1).f0.f3)) := (blk_cell BK103.out 3).trans rfl
                        have hcz32_4 : wc.cell? ⟨gb103, 4, none⟩ = some (.bool ((rd_T32 l0 x10_1).f0.f4)) := (blk_cell BK103.out 4).trans rfl
                        have hfz32_0 := blk_frozen BK103.out 0
                        have hfz32_1 := blk_frozen BK103.out 1
                        have hfz32_2 := blk_frozen BK103.out 2
                        have hfz32_3 := blk_frozen BK103.out 3
                        have hfz32_4 := blk_frozen BK103.out 4
                        go_wp2
                        go_meet
                        case rel => exact ⟨_, (false), (by first | rfl | (simp; done) | (simp [*]; done)), H', ⟨by have := HK1.out; have := HJ11.out; first | omega | exact Nat.le_refl _⟩, ⟨by (with_reducible repeat (first | refine blk_drewN ?_ _ | refine blk_drew ?_ | refine blk_alloc ?_ _)); exact BK102.out⟩, ⟨by (with_reducible repeat (first | refine blk_drewN ?_ _ | refine blk_drew ?_ | refine blk_alloc ?_ _)); exact BK103.out⟩, ⟨by repeat (first | (with_reducible first | exact HB.out | apply below_alloc | apply pw_below_drewN | apply below_drew1 | refine below_set ?_ GE102.out | refine below_set ?_ GE103.out) | exact HB.out)⟩⟩
                    case rest =>
                      clear HC27
                      try clear c1
                      try clear p1
                      try clear q1
                      try clear hx1
                      try clear c2
                      try clear c2b0
                      try clear p2
                      try clear c3
                      try clear c3b0
                      try clear c4
                      try clear c4b0
                      try clear c5
                      try clear c5b0
                      try clear c5b1
                      try clear c6
                      try clear c6b0
                      try clear c6b1
                      try clear c6b2
                      try clear p6
                      try clear c10
                      try clear p10
                      try clear q10
                      try clear hx10
                      try clear c16
                      try clear c18
                      try clear c18b0
                      try clear c18b1
                      try clear c19
                      try clear c21
                      try clear c23
                      try clear c24
                      try clear c24b0
                      try clear c24b1
                      try clear c24b2
                      try clear c25
                      try clear c28
                      try clear c28b0
                      try clear c28b1
                      try clear c29
                      try clear c31
                      try clear hcz11_0
                      try clear hcz11_1
                      try clear hcz11_2
                      try clear hcz11_3
                      try clear hcz11_4
                      try clear hcz14_0
                      try clear hcz14_1
                      try clear hcz14_2
                      try clear hcz14_3
                      try clear hcz14_4
                      try clear hcz14_5
                      try clear hcz17_0
                      try clear hcz17_1
                      try clear hcz17_2
                      try clear hcz17_3
                      try clear hcz17_4
                      try clear hcz20_0
                      try clear hcz20_1
                      try clear hcz20_2
                      try clear hcz20_3
                      try clear hcz20_4
                      try clear hcz22_0
                      try clear hcz22_1
                      try clear hcz22_2
                      try clear hcz22_3
                      try clear hcz22_4
                      try clear hcz26_0
                      try clear hcz26_1
                      try clear hcz26_2
                      try clear hcz26_3
                      try clear hcz26_4
                      try clear hcz30_0
                      try clear hcz30_1
                      try clear hcz30_2
                      try clear hcz30_3
                      try clear hcz30_4
                      try clear hcz32_0
                      try clear hcz32_1
                      try clear hcz32_2
                      try clear hcz32_3
                      try clear hcz32_4
                      try clear hcz8_0
                      try clear hcz8_1
                      try clear hcz8_2
                      try clear hcz8_3
                      try clear hcz8_4
                      try clear hcz8_5
                      try clear hfz11_0
                      try clear hfz11_1
                      try clear hfz11_2
                      try clear hfz11_3
                      try clear hfz11_4
                      try clear hfz14_0
                      try clear hfz14_1
                      try clear hfz14_2
                      try clear hfz14_3
                      try clear hfz14_4
                      try clear hfz14_5
                      try clear hfz17_0
                      try clear hfz17_1
                      try clear hfz17_2
                      try clear hfz17_3
                      try clear hfz17_4
                      try clear hfz20_0
                      try clear hfz20_1
                      try clear hfz20_2
                      try clear hfz20_3
                      try clear hfz20_4
                      try clear hfz22_0
                      try clear hfz22_1
                      try clear hfz22_2
                      try clear hfz22_3
                      try clear hfz22_4
                      try clear hfz26_0
                      try clear hfz26_1
                      try clear hfz26_2
                      try clear hfz26_3
                      try clear hfz26_4
                      try clear hfz30_0
                      try clear hfz30_1
                      try clear hfz30_2
                      try clear hfz30_3
                      try clear hfz30_4
                      try clear hfz32_0
                      try clear hfz32_1
                      try clear hfz32_2
                      try clear hfz32_3
                      try clear hfz32_4
                      try clear hfz8_0
                      try clear hfz8_1
                      try clear hfz8_2
                      try clear hfz8_3
                      try clear hfz8_4
                      try clear hfz8_5
                      try clear hx101_0
                      try clear hx101_1
                      try clear hx101_2
                      try clear hx101_3
                      try clear hx101_4
                      try clear hx101_5
                      try clear p1
                      try clear p10
                      try clear p101
                      try clear p2
                      try clear p6
                      try clear q1
                      try clear q10
                      try clear q101
                      obtain ⟨kq, x36_26, rfl, HA, HJ26, BK102, BK103, HB⟩ := hcut
                      cases kq with
                      | zero => exact absurd HA.out (by simp [gouacheref04_written.j2])
                      | succ kj26 =>
                        have H := HA.out
                        clear HA
                        simp only [gouacheref04_written.j2] at H
                        by_cases c33 : x36_26 = true
                        · subst c33
                          have H1 : (if ((rd_T32 l0 x10_1).f0.f1).size + ((rd_T32 l0 x10_1).f0.f2).size ≤ 9223372036854775807 then (if x4_1.size + (((rd_T32 l0 x10_1).f0.f1) ++ ((rd_T32 l0 x10_1).f0.f2)).size ≤ 9223372036854775807 then (gouacheref04_written.l0 kj26 (x4_1 ++ (((rd_T32 l0 x10_1).f0.f1) ++ ((rd_T32 l0 x10_1).f0.f2))) l0 (l0.length : Int) (wrap64 (x10_1 + 1))) else (none)) else (none)) = some (r1, r2) := by rw [if_pos rfl] at H; exact H
                          clear H
                          have H := H1
                          clear H1
                          by_cases c34 : ((rd_T32 l0 x10_1).f0.f1).size + ((rd_T32 l0 x10_1).f0.f2).size ≤ 9223372036854775807
                          · rw [if_pos c34] at H
                            have c34b0 := eq_true c34
                            have c34b1 : decide (((rd_T32 l0 x10_1).f0.f1).size + ((rd_T32 l0 x10_1).f0.f2).size ≤ 9223372036854775807) = true := decide_eq_true c34
                            try have c34b2 : (9223372036854775807 < ((rd_T32 l0 x10_1).f0.f1).size + ((rd_T32 l0 x10_1).f0.f2).size) = False := eq_false (Nat.not_lt.2 c34)
                            by_cases c35 : x4_1.size + (((rd_T32 l0 x10_1).f0.f1) ++ ((rd_T32 l0 x10_1).f0.f2)).size ≤ 9223372036854775807
                            · rw [if_pos c35] at H
                              have c35b0 := eq_true c35
                              have c35b1 : decide (x4_1.size + (((rd_T32 l0 x10_1).f0.f1) ++ ((rd_T32 l0 x10_1).f0.f2)).size ≤ 9223372036854775807) = true := decide_eq_true c35
                              try have c35b2 : (9223372036854775807 < x4_1.size + (((rd_T32 l0 x10_1).f0.f1) ++ ((rd_T32 l0 x10_1).f0.f2)).size) = False := eq_false (Nat.not_lt.2 c35)
                              have H' := Aside0.mk H
                              clear H
                              have hnb36 := NB103_102.out
                              have hnc36 := NB102_103.out
                              have hcz37_0 : wc.cell? ⟨gb103, 0, none⟩ = some (.int .i64 ((rd_T32 l0 x10_1).f0.f0)) := (blk_cell BK103.out 0).trans rfl
                              have hcz37_1 : wc.cell? ⟨gb103, 1, none⟩ = some (.string ((rd_T32 l0 x10_1).f0.f1)) := (blk_cell BK103.out 1).trans rfl
                              have hcz37_2 : wc.cell? ⟨gb103, 2, none⟩ = some (.string ((rd_T32 l0 x10_1).f0.f2)) := (blk_cell BK103.out 2).trans rfl
                              have hcz37_3 : wc.cell? ⟨gb103, 3, none⟩ = some (.bool ((rd_T32 l0 x10_1).f0.f3)) := (blk_cell BK103.out 3).trans rfl
                              have hcz37_4 : wc.cell? ⟨gb103, 4, none⟩ = some (.bool ((rd_T32 l0 x10_1).f0.f4)) := (blk_cell BK103.out 4).trans rfl
                              have hfz37_0 := blk_frozen BK103.out 0
                              have hfz37_1 := blk_frozen BK103.out 1
                              have hfz37_2 := blk_frozen BK103.out 2
                              have hfz37_3 := blk_frozen BK103.out 3
                              have hfz37_4 := blk_frozen BK103.out 4
                              go_wp2
                              go_roundg kj26
                              case measure => have := HK1.out; have := HJ11.out; have := HJ26.out; omega
                              case rel => exact ⟨(x4_1 ++ (((rd_T32 l0 x10_1).f0.f1) ++ ((rd_T32 l0 x10_1).f0.f2))), (wrap64 (x10_1 + 1)), (by first | rfl | (simp; done) | (simp [*]; done)), (by first | rfl | (simp; done) | (simp [*]; done)), H', ⟨by have := HK1.out; have := HJ11.out; have := HJ26.out; omega⟩, ⟨by repeat (first | (with_reducible first | exact HB.out | apply below_alloc | apply pw_below_drewN | apply below_drew1 | refine below_set ?_ GE102.out | refine below_set ?_ GE103.out) | exact HB.out)⟩⟩
                            · rw [if_neg c35] at H
                              exact absurd H (by simp)
                          · rw [if_neg c34] at H
                            exact absurd H (by simp)
                        · replace c33 := Bool.eq_false_iff.mpr c33
                          subst c33
                          have H1 : (if ((rd_T32 l0 x10_1).f0.f0) = 9 then (if ((rd_T32 l0 x10_1).f0.f1).toList = ([43] : List UInt8) then (gouacheref04_written.j3 kj26 x4_1 l0 (l0.length : Int) x10_1 true ((rd_T32 l0 x10_1).f0.f0) ((rd_T32 l0 x10_1).f0.f1) ((rd_T32 l0 x10_1).f0.f2) ((rd_T32 l0 x10_1).f0.f3) ((rd_T32 l0 x10_1).f0.f4)) else (gouacheref04_written.j3 kj26 x4_1 l0 (l0.length : Int) x10_1 (((rd_T32 l0 x10_1).f0.f1).toList == ([45] : List UInt8)) ((rd_T32 l0 x10_1).f0.f0) ((rd_T32 l0 x10_1).f0.f1) ((rd_T32 l0 x10_1).f0.f2) ((rd_T32 l0 x10_1).f0.f3) ((rd_T32 l0 x10_1).f0.f4))) else (gouacheref04_written.j3 kj26 x4_1 l0 (l0.length : Int) x10_1 false ((rd_T32 l0 x10_1).f0.f0) ((rd_T32 l0 x10_1).f0.f1) ((rd_T32 l0 x10_1).f0.f2) ((rd_T32 l0 x10_1).f0.f3) ((rd_T32 l0 x10_1).f0.f4))) = some (r1, r2) := by rw [if_neg (show ¬ (false = true) by decide)] at H; exact H
                          clear H
                          have H := H1
                          clear H1
                          have HC38 := Aside0.mk H
                          clear H
                          go_upto_region 13 with (fail)
                          go_cut [51] (fun v51 wc => ∃ (kq : Nat) (x51_37 : Bool), v51 = .bool x51_37 ∧ Aside0 (gouacheref04_written.j3 kq x4_1 l0 (l0.length : Int) x10_1 x51_37 ((rd_T32 l0 x10_1).f0.f0) ((rd_T32 l0 x10_1).f0.f1) ((rd_T32 l0 x10_1).f0.f2) ((rd_T32 l0 x10_1).f0.f3) ((rd_T32 l0 x10_1).f0.f4) = some (r1, r2)) ∧ Aside0 (kq ≤ kj26) ∧ Aside0 (wc.heap[gb102]? = some (.cells #[.int .i64 ((rd_T32 l0 x10_1).f0.f0), .string ((rd_T32 l0 x10_1).f0.f1), .string ((rd_T32 l0 x10_1).f0.f2), .bool ((rd_T32 l0 x10_1).f0.f3), .bool ((rd_T32 l0 x10_1).f0.f4), (.slice A101_5 ((rd_T32 l0 x10_1).f1).length c101_5)] 32 (0, 0))) ∧ Aside0 (wc.heap[gb103]? = some (.cells #[.int .i64 ((rd_T32 l0 x10_1).f0.f0), .string ((rd_T32 l0 x10_1).f0.f1), .string ((rd_T32 l0 x10_1).f0.f2), .bool ((rd_T32 l0 x10_1).f0.f3), .bool ((rd_T32 l0 x10_1).f0.f4)] 30 (0, 0))) ∧ Aside0 (Below w.heap.size w wc))
                          case first =>
                            have H := HC38.out
                            clear HC38
                            by_cases c39 : ((rd_T32 l0 x10_1).f0.f0) = 9
                            · rw [if_pos c39] at H
                              have c39b0 : (((rd_T32 l0 x10_1).f0.f0) == 9) = true := beq_iff_eq.mpr c39
                              have c39b1 : (((rd_T32 l0 x10_1).f0.f0) != 9) = false := bne_eq_false_iff_eq.mpr c39
                              clear c39
                              (first | rw [c39b0] | (simp only [i64_w, i32_w]; rw [c39b0]) | skip)
                              by_cases c40 : ((rd_T32 l0 x10_1).f0.f1).toList = ([43] : List UInt8)
                              · rw [if_pos c40] at H
                                have c40b0 : (((rd_T32 l0 x10_1).f0.f1).toList == ([43] : List UInt8)) = true := beq_iff_eq.mpr c40
                                have c40b1 : (((rd_T32 l0 x10_1).f0.f1).toList != ([43] : List UInt8)) = false := bne_eq_false_iff_eq.mpr c40
                                clear c40
                                have H' := Aside0.mk H
                                clear H
                                have hnb41 := NB103_102.out
                                have hnc41 := NB102_103.out
                                have hcz42_0 : wc.cell? ⟨gb103, 0, none⟩ = some (.int .i64 ((rd_T32 l0 x10_1).f0.f0)) := (blk_cell BK103.out 0).trans rfl
                                have hcz42_1 : wc.cell? ⟨gb103, 1, none⟩ = some (.string ((rd_T32 l0 x10_1).f0.f1)) := (blk_cell BK103.out 1).trans rfl
                                have hcz42_2 : wc.cell? ⟨gb103, 2, none⟩ = some (.string ((rd_T32 l0 x10_1).f0.f2)) := (blk_cell BK103.out 2).trans rfl
                                have hcz42_3 : wc.cell? ⟨gb103, 3, none⟩ = some (.bool ((rd_T32 l0 x10_1).f0.f3)) := (blk_cell BK103.out 3).trans rfl
                                have hcz42_4 : wc.cell? ⟨gb103, 4, none⟩ = some (.bool ((rd_T32 l0 x10_1).f0.f4)) := (blk_cell BK103.out 4).trans rfl
                                have hfz42_0 := blk_frozen BK103.out 0
                                have hfz42_1 := blk_frozen BK103.out 1
                                have hfz42_2 := blk_frozen BK103.out 2
                                have hfz42_3 := blk_frozen BK103.out 3
                                have hfz42_4 := blk_frozen BK103.out 4
                                go_wp2
                                go_meet
                                case rel => exact ⟨_, (true), (by first | rfl | (simp; done) | (simp [*]; done)), H', ⟨by have := HK1.out; have := HJ11.out; have := HJ26.out; first | omega | exact Nat.le_refl _⟩, ⟨by (with_reducible repeat (first | refine blk_drewN ?_ _ | refine blk_drew ?_ | refine blk_alloc ?_ _)); exact BK102.out⟩, ⟨by (with_reducible repeat (first | refine blk_drewN ?_ _ | refine blk_drew ?_ | refine blk_alloc ?_ _)); exact BK103.out⟩, ⟨by repeat (first | (with_reducible first | exact HB.out | apply below_alloc | apply pw_below_drewN | apply below_drew1 | refine below_set ?_ GE102.out | refine below_set ?_ GE103.out) | exact HB.out)⟩⟩
                              · rw [if_neg c40] at H
                                have c40b0 : (((rd_T32 l0 x10_1).f0.f1).toList == ([43] : List UInt8)) = false := beq_eq_false_iff_ne.mpr c40
                                have c40b1 : (((rd_T32 l0 x10_1).f0.f1).toList != ([43] : List UInt8)) = true := bne_iff_ne.mpr c40
                                have H' := Aside0.mk H
                                clear H
                                have hnb43 := NB103_102.out
                                have hnc43 := NB102_103.out
                                have hcz44_0 : wc.cell? ⟨gb103, 0, none⟩ = some (.int .i64 ((rd_T32 l0 x10_1).f0.f0)) := (blk_cell BK103.out 0).trans rfl
                                have hcz44_1 : wc.cell? ⟨gb103, 1, none⟩ = some (.string ((rd_T32 l0 x10_1).f0.f1)) := (blk_cell BK103.out 1).trans rfl
                                have hcz44_2 : wc.cell? ⟨gb103, 2, none⟩ = some (.string ((rd_T32 l0 x10_1).f0.f2)) := (blk_cell BK103.out 2).trans rfl
                                have hcz44_3 : wc.cell? ⟨gb103, 3, none⟩ = some (.bool ((rd_T32 l0 x10_1).f0.f3)) := (blk_cell BK103.out 3).trans rfl
                                have hcz44_4 : wc.cell? ⟨gb103, 4, none⟩ = some (.bool ((rd_T32 l0 x10_1).f0.f4)) := (blk_cell BK103.out 4).trans rfl
                                have hfz44_0 := blk_frozen BK103.out 0
                                have hfz44_1 := blk_frozen BK103.out 1
                                have hfz44_2 := blk_frozen BK103.out 2
                                have hfz44_3 := blk_frozen BK103.out 3
                                have hfz44_4 := blk_frozen BK103.out 4
                                go_wp2
                                go_meet
                                case rel => exact ⟨_, ((((rd_T32 l0 x10_1).f0.f1).toList == ([45] : List UInt8))), (by first | rfl | (simp; done) | (simp [*]; done)), H', ⟨by have := HK1.out; have := HJ11.out; have := HJ26.out; first | omega | exact Nat.le_refl _⟩, ⟨by (with_reducible repeat (first | refine blk_drewN ?_ _ | refine blk_drew ?_ | refine blk_alloc ?_ _)); exact BK102.out⟩, ⟨by (with_reducible repeat (first | refine blk_drewN ?_ _ | refine blk_drew ?_ | refine blk_alloc ?_ _)); exact BK103.out⟩, ⟨by repeat (first | (with_reducible first | exact HB.out | apply below_alloc | apply pw_below_drewN | apply below_drew1 | refine below_set ?_ GE102.out | refine below_set ?_ GE103.out) | exact HB.out)⟩⟩
                            · rw [if_neg c39] at H
                              have c39b0 : (((rd_T32 l0 x10_1).f0.f0) == 9) = false := beq_eq_false_iff_ne.mpr c39
                              have c39b1 : (((rd_T32 l0 x10_1).f0.f0) != 9) = true := bne_iff_ne.mpr c39
                              (first | rw [c39b0] | (simp only [i64_w, i32_w]; rw [c39b0]) | skip)
                              have H' := Aside0.mk H
                              clear H
                              have hnb45 := NB103_102.out
                              have hnc45 := NB102_103.out
                              have hcz46_0 : wc.cell? ⟨gb103, 0, none⟩ = some (.int .i64 ((rd_T32 l0 x10_1).f0.f0)) := (blk_cell BK103.out 0).trans rfl
                              have hcz46_1 : wc.cell? ⟨gb103, 1, none⟩ = some (.string ((rd_T32 l0 x10_1).f0.f1)) := (blk_cell BK103.out 1).trans rfl
                              have hcz46_2 : wc.cell? ⟨gb103, 2, none⟩ = some (.string ((rd_T32 l0 x10_1).f0.f2)) := (blk_cell BK103.out 2).trans rfl
                              have hcz46_3 : wc.cell? ⟨gb103, 3, none⟩ = some (.bool ((rd_T32 l0 x10_1).f0.f3)) := (blk_cell BK103.out 3).trans rfl
                              have hcz46_4 : wc.cell? ⟨gb103, 4, none⟩ = some (.bool ((rd_T32 l0 x10_1).f0.f4)) := (blk_cell BK103.out 4).trans rfl
                              have hfz46_0 := blk_frozen BK103.out 0
                              have hfz46_1 := blk_frozen BK103.out 1
                              have hfz46_2 := blk_frozen BK103.out 2
                              have hfz46_3 := blk_frozen BK103.out 3
                              have hfz46_4 := blk_frozen BK103.out 4
                              go_wp2
                              go_meet
                              case rel => exact ⟨_, (false), (by first | rfl | (simp; done) | (simp [*]; done)), H', ⟨by have := HK1.out; have := HJ11.out; have := HJ26.out; first | omega | exact Nat.le_refl _⟩, ⟨by (with_reducible repeat (first | refine blk_drewN ?_ _ | refine blk_drew ?_ | refine blk_alloc ?_ _)); exact BK102.out⟩, ⟨by (with_reducible repeat (first | refine blk_drewN ?_ _ | refine blk_drew ?_ | refine blk_alloc ?_ _)); exact BK103.out⟩, ⟨by repeat (first | (with_reducible first | exact HB.out | apply below_alloc | apply pw_below_drewN | apply below_drew1 | refine below_set ?_ GE102.out | refine below_set ?_ GE103.out) | exact HB.out)⟩⟩
                          case rest =>
                            clear HC38
                            try clear c1
                            try clear p1
                            try clear q1
                            try clear hx1
                            try clear c2
                            try clear c2b0
                            try clear p2
                            try clear c3
                            try clear c3b0
                            try clear c4
                            try clear c4b0
                            try clear c5
                            try clear c5b0
                            try clear c5b1
                            try clear c6
                            try clear c6b0
                            try clear c6b1
                            try clear c6b2
                            try clear p6
                            try clear c10
                            try clear p10
                            try clear q10
                            try clear hx10
                            try clear c16
                            try clear c18
                            try clear c18b0
                            try clear c18b1
                            try clear c19
                            try clear c21
                            try clear c23
                            try clear c24
                            try clear c24b0
                            try clear c24b1
                            try clear c24b2
                            try clear c25
                            try clear c28
                            try clear c28b0
                            try clear c28b1
                            try clear c29
                            try clear c31
                            try clear c33
                            try clear c34
                            try clear c34b0
                            try clear c34b1
                            try clear c34b2
                            try clear c35
                            try clear c35b0
                            try clear c35b1
                            try clear c35b2
                            try clear c36
                            try clear c39
                            try clear c39b0
                            try clear c39b1
                            try clear c40
                            try clear c40b0
                            try clear c40b1
                            try clear c41
                            try clear c43
                            try clear c45
                            try clear hcz11_0
                            try clear hcz11_1
                            try clear hcz11_2
                            try clear hcz11_3
                            try clear hcz11_4
                            try clear hcz14_0
                            try clear hcz14_1
                            try clear hcz14_2
                            try clear hcz14_3
                            try clear hcz14_4
                            try clear hcz14_5
                            try clear hcz17_0
                            try clear hcz17_1
                            try clear hcz17_2
                            try clear hcz17_3
                            try clear hcz17_4
                            try clear hcz20_0
                            try clear hcz20_1
                            try clear hcz20_2
                            try clear hcz20_3
                            try clear hcz20_4
                            try clear hcz22_0
                            try clear hcz22_1
                            try clear hcz22_2
                            try clear hcz22_3
                            try clear hcz22_4
                            try clear hcz26_0
                            try clear hcz26_1
                            try clear hcz26_2
                            try clear hcz26_3
                            try clear hcz26_4
                            try clear hcz30_0
                            try clear hcz30_1
                            try clear hcz30_2
                            try clear hcz30_3
                            try clear hcz30_4
                            try clear hcz32_0
                            try clear hcz32_1
                            try clear hcz32_2
                            try clear hcz32_3
                            try clear hcz32_4
                            try clear hcz37_0
                            try clear hcz37_1
                            try clear hcz37_2
                            try clear hcz37_3
                            try clear hcz37_4
                            try clear hcz42_0
                            try clear hcz42_1
                            try clear hcz42_2
                            try clear hcz42_3
                            try clear hcz42_4
                            try clear hcz44_0
                            try clear hcz44_1
                            try clear hcz44_2
                            try clear hcz44_3
                            try clear hcz44_4
                            try clear hcz46_0
                            try clear hcz46_1
                            try clear hcz46_2
                            try clear hcz46_3
                            try clear hcz46_4
                            try clear hcz8_0
                            try clear hcz8_1
                            try clear hcz8_2
                            try clear hcz8_3
                            try clear hcz8_4
                            try clear hcz8_5
                            try clear hfz11_0
                            try clear hfz11_1
                            try clear hfz11_2
                            try clear hfz11_3
                            try clear hfz11_4
                            try clear hfz14_0
                            try clear hfz14_1
                            try clear hfz14_2
                            try clear hfz14_3
                            try clear hfz14_4
                            try clear hfz14_5
                            try clear hfz17_0
                            try clear hfz17_1
                            try clear hfz17_2
                            try clear hfz17_3
                            try clear hfz17_4
                            try clear hfz20_0
                            try clear hfz20_1
                            try clear hfz20_2
                            try clear hfz20_3
                            try clear hfz20_4
                            try clear hfz22_0
                            try clear hfz22_1
                            try clear hfz22_2
                            try clear hfz22_3
                            try clear hfz22_4
                            try clear hfz26_0
                            try clear hfz26_1
                            try clear hfz26_2
                            try clear hfz26_3
                            try clear hfz26_4
                            try clear hfz30_0
                            try clear hfz30_1
                            try clear hfz30_2
                            try clear hfz30_3
                            try clear hfz30_4
                            try clear hfz32_0
                            try clear hfz32_1
                            try clear hfz32_2
                            try clear hfz32_3
                            try clear hfz32_4
                            try clear hfz37_0
                            try clear hfz37_1
                            try clear hfz37_2
                            try clear hfz37_3
                            try clear hfz37_4
                            try clear hfz42_0
                            try clear hfz42_1
                            try clear hfz42_2
                            try clear hfz42_3
                            try clear hfz42_4
                            try clear hfz44_0
                            try clear hfz44_1
                            try clear hfz44_2
                            try clear hfz44_3
                            try clear hfz44_4
                            try clear hfz46_0
                            try clear hfz46_1
                            try clear hfz46_2
                            try clear hfz46_3
                            try clear hfz46_4
                            try clear hfz8_0
                            try clear hfz8_1
                            try clear hfz8_2
                            try clear hfz8_3
                            try clear hfz8_4
                            try clear hfz8_5
                            try clear hx101_0
                            try clear hx101_1
                            try clear hx101_2
                            try clear hx101_3
                            try clear hx101_4
                            try clear hx101_5
                            try clear p1
                            try clear p10
                            try clear p101
                            try clear p2
                            try clear p6
                            try clear q1
                            try clear q10
                            try clear q101
                            obtain ⟨kq, x51_37, rfl, HA, HJ37, BK102, BK103, HB⟩ := hcut
                            cases kq with
                            | zero => exact absurd HA.out (by simp [gouacheref04_written.j3])
                            | succ kj37 =>
                              have H := HA.out
                              clear HA
                              simp only [gouacheref04_written.j3] at H
                              by_cases c47 : x51_37 = true
                              · subst c47
                                have H1 : (if x4_1.size + ((rd_T32 l0 x10_1).f0.f1).size ≤ 9223372036854775807 then (gouacheref04_written.l0 kj37 (x4_1 ++ ((rd_T32 l0 x10_1).f0.f1)) l0 (l0.length : Int) (wrap64 (x10_1 + 1))) else (none)) = some (r1, r2) := by rw [if_pos rfl] at H; exact H
                                clear H
                                have H := H1
                                clear H1
                                by_cases c48 : x4_1.size + ((rd_T32 l0 x10_1).f0.f1).size ≤ 9223372036854775807
                                · rw [if_pos c48] at H
                                  have c48b0 := eq_true c48
                                  have c48b1 : decide (x4_1.size + ((rd_T32 l0 x10_1).f0.f1).size ≤ 9223372036854775807) = true := decide_eq_true c48
                                  try have c48b2 : (9223372036854775807 < x4_1.size + ((rd_T32 l0 x10_1).f0.f1).size) = False := eq_false (Nat.not_lt.2 c48)
                                  have H' := Aside0.mk H
                                  clear H
                                  have hnb49 := NB103_102.out
                                  have hnc49 := NB102_103.out
                                  have hcz50_0 : wc.cell? ⟨gb103, 0, none⟩ = some (.int .i64 ((rd_T32 l0 x10_1).f0.f0)) := (blk_cell BK103.out 0).trans rfl
                                  have hcz50_1 : wc.cell? ⟨gb103, 1, none⟩ = some (.string ((rd_T32 l0 x10_1).f0.f1)) := (blk_cell BK103.out 1).trans rfl
                                  have hcz50_2 : wc.cell? ⟨gb103, 2, none⟩ = some (.string ((rd_T32 l0 x10_1).f0.f2)) := (blk_cell BK103.out 2).trans rfl
                                  have hcz50_3 : wc.cell? ⟨gb103, 3, none⟩ = some (.bool ((rd_T32 l0 x10_1).f0.f3)) := (blk_cell BK103.out 3).trans rfl
                                  have hcz50_4 : wc.cell? ⟨gb103, 4, none⟩ = some (.bool ((rd_T32 l0 x10_1).f0.f4)) := (blk_cell BK103.out 4).trans rfl
                                  have hfz50_0 := blk_frozen BK103.out 0
                                  have hfz50_1 := blk_frozen BK103.out 1
                                  have hfz50_2 := blk_frozen BK103.out 2
                                  have hfz50_3 := blk_frozen BK103.out 3
                                  have hfz50_4 := blk_frozen BK103.out 4
                                  go_wp2
                                  go_roundg kj37
                                  case measure => have := HK1.out; have := HJ11.out; have := HJ26.out; have := HJ37.out; omega
                                  case rel => exact ⟨(x4_1 ++ ((rd_T32 l0 x10_1).f0.f1)), (wrap64 (x10_1 + 1)), (by first | rfl | (simp; done) | (simp [*]; done)), (by first | rfl | (simp; done) | (simp [*]; done)), H', ⟨by have := HK1.out; have := HJ11.out; have := HJ26.out; have := HJ37.out; omega⟩, ⟨by repeat (first | (with_reducible first | exact HB.out | apply below_alloc | apply pw_below_drewN | apply below_drew1 | refine below_set ?_ GE102.out | refine below_set ?_ GE103.out) | exact HB.out)⟩⟩
                                · rw [if_neg c48] at H
                                  exact absurd H (by simp)
                              · replace c47 := Bool.eq_false_iff.mpr c47
                                subst c47
                                have H1 : (if ((rd_T32 l0 x10_1).f0.f0) = 13 then (if x4_1.size + 1 ≤ 9223372036854775807 then (gouacheref04_written.l0 kj37 (x4_1 ++ (⟨#[32]⟩ : ByteArray)) l0 (l0.length : Int) (wrap64 (x10_1 + 1))) else (none)) else (some ((⟨#[]⟩ : ByteArray), false))) = some (r1, r2) := by rw [if_neg (show ¬ (false = true) by decide)] at H; exact H
                                clear H
                                have H := H1
                                clear H1
                                by_cases c51 : ((rd_T32 l0 x10_1).f0.f0) = 13
                                · rw [if_pos c51] at H
                                  have c51b0 : (((rd_T32 l0 x10_1).f0.f0) == 13) = true := beq_iff_eq.mpr c51
                                  have c51b1 : (((rd_T32 l0 x10_1).f0.f0) != 13) = false := bne_eq_false_iff_eq.mpr c51
                                  clear c51
                                  by_cases c52 : x4_1.size + 1 ≤ 9223372036854775807
                                  · rw [if_pos c52] at H
                                    have c52b0 := eq_true c52
                                    have c52b1 : decide (x4_1.size + 1 ≤ 9223372036854775807) = true := decide_eq_true c52
                                    try have c52b2 : (9223372036854775807 < x4_1.size + 1) = False := eq_false (Nat.not_lt.2 c52)
                                    have H' := Aside0.mk H
                                    clear H
                                    have hnb53 := NB103_102.out
                                    have hnc53 := NB102_103.out
                                    have hcz54_0 : wc.cell? ⟨gb103, 0, none⟩ = some (.int .i64 ((rd_T32 l0 x10_1).f0.f0)) := (blk_cell BK103.out 0).trans rfl
                                    have hcz54_1 : wc.cell? ⟨gb103, 1, none⟩ = some (.string ((rd_T32 l0 x10_1).f0.f1)) := (blk_cell BK103.out 1).trans rfl
                                    have hcz54_2 : wc.cell? ⟨gb103, 2, none⟩ = some (.string ((rd_T32 l0 x10_1).f0.f2)) := (blk_cell BK103.out 2).trans rfl
                                    have hcz54_3 : wc.cell? ⟨gb103, 3, none⟩ = some (.bool ((rd_T32 l0 x10_1).f0.f3)) := (blk_cell BK103.out 3).trans rfl
                                    have hcz54_4 : wc.cell? ⟨gb103, 4, none⟩ = some (.bool ((rd_T32 l0 x10_1).f0.f4)) := (blk_cell BK103.out 4).trans rfl
                                    have hfz54_0 := blk_frozen BK103.out 0
                                    have hfz54_1 := blk_frozen BK103.out 1
                                    have hfz54_2 := blk_frozen BK103.out 2
                                    have hfz54_3 := blk_frozen BK103.out 3
                                    have hfz54_4 := blk_frozen BK103.out 4
                                    go_wp2
                                    go_roundg kj37
                                    case measure => have := HK1.out; have := HJ11.out; have := HJ26.out; have := HJ37.out; omega
                                    case rel => exact ⟨(x4_1 ++ (⟨#[32]⟩ : ByteArray)), (wrap64 (x10_1 + 1)), (by first | rfl | (simp; done) | (simp [*]; done)), (by first | rfl | (simp; done) | (simp [*]; done)), H', ⟨by have := HK1.out; have := HJ11.out; have := HJ26.out; have := HJ37.out; omega⟩, ⟨by repeat (first | (with_reducible first | exact HB.out | apply below_alloc | apply pw_below_drewN | apply below_drew1 | refine below_set ?_ GE102.out | refine below_set ?_ GE103.out) | exact HB.out)⟩⟩
                                  · rw [if_neg c52] at H
                                    exact absurd H (by simp)
                                · rw [if_neg c51] at H
                                  have c51b0 : (((rd_T32 l0 x10_1).f0.f0) == 13) = false := beq_eq_false_iff_ne.mpr c51
                                  have c51b1 : (((rd_T32 l0 x10_1).f0.f0) != 13) = true := bne_iff_ne.mpr c51
                                  simp only [Option.some.injEq, Prod.mk.injEq] at H
                                  obtain ⟨rfl, rfl⟩ := H
                                  have hnb55 := NB103_102.out
                                  have hnc55 := NB102_103.out
                                  have hcz56_0 : wc.cell? ⟨gb103, 0, none⟩ = some (.int .i64 ((rd_T32 l0 x10_1).f0.f0)) := (blk_cell BK103.out 0).trans rfl
                                  have hcz56_1 : wc.cell? ⟨gb103, 1, none⟩ = some (.string ((rd_T32 l0 x10_1).f0.f1)) := (blk_cell BK103.out 1).trans rfl
                                  have hcz56_2 : wc.cell? ⟨gb103, 2, none⟩ = some (.string ((rd_T32 l0 x10_1).f0.f2)) := (blk_cell BK103.out 2).trans rfl
                                  have hcz56_3 : wc.cell? ⟨gb103, 3, none⟩ = some (.bool ((rd_T32 l0 x10_1).f0.f3)) := (blk_cell BK103.out 3).trans rfl
                                  have hcz56_4 : wc.cell? ⟨gb103, 4, none⟩ = some (.bool ((rd_T32 l0 x10_1).f0.f4)) := (blk_cell BK103.out 4).trans rfl
                                  have hfz56_0 := blk_frozen BK103.out 0
                                  have hfz56_1 := blk_frozen BK103.out 1
                                  have hfz56_2 := blk_frozen BK103.out 2
                                  have hfz56_3 := blk_frozen BK103.out 3
                                  have hfz56_4 := blk_frozen BK103.out 4
                                  go_wp2
                                  go_ret2
                                  exact ⟨by first | rfl | (simp [errW_none, errW_some] <;> rfl) | (simp [*, errW_none, errW_some] <;> rfl), by repeat (first | (with_reducible first | exact HB.out | apply below_alloc | apply pw_below_drewN | apply below_drew1 | refine below_set ?_ GE102.out | refine below_set ?_ GE103.out) | exact HB.out)⟩
          · rw [if_neg c4] at H
            exact absurd H (by simp)
        · rw [if_neg c3] at H
          exact absurd H (by simp)
      · rw [if_neg c2] at H
        have c2b0 : decide (x10_1 < (l0.length : Int)) = false := decide_eq_false c2
        clear c2
        have HC57 := Aside0.mk H
        clear H
        go_upto_block 3 with (fail)
        go_cut [4] (fun v4 wc => ∃ (kq : Nat) (x4_56 : ByteArray), v4 = .string x4_56 ∧ Aside0 (gouacheref04_written.j5 kq x4_56 = some (r1, r2)) ∧ Aside0 (kq ≤ k1) ∧ Aside0 (Below w.heap.size w wc))
        case first =>
          have H := HC57.out
          clear HC57
          have H' := Aside0.mk H
          clear H
          go_wp2
          go_loopg [4] k1 (fun kq v4 w' => ∃ (x4_2 : ByteArray), v4 = .string x4_2 ∧ Aside0 (gouacheref04_written.l1 kq x4_2 = some (r1, r2)) ∧ Aside0 (kq ≤ k1) ∧ Aside0 (Below w.heap.size w w'))
          case atStart => exact ⟨(x4_1), (by first | rfl | (simp; done) | (simp [*]; done)), H', ⟨Nat.le_refl _⟩, ⟨by repeat (first | (with_reducible first | exact HB.out | apply below_alloc | apply pw_below_drewN | apply below_drew1) | exact HB.out)⟩⟩
          case round =>
            clear H'
            try clear c1
            try clear p1
            try clear q1
            try clear hx1
            try clear c2
            try clear c2b0
            try clear p2
            try clear c3
            try clear c3b0
            try clear c4
            try clear c4b0
            try clear c5
            try clear c5b0
            try clear c5b1
            try clear c6
            try clear c6b0
            try clear c6b1
            try clear c6b2
            try clear p6
            try clear c10
            try clear p10
            try clear q10
            try clear hx10
            try clear c16
            try clear c18
            try clear c18b0
            try clear c18b1
            try clear c19
            try clear c21
            try clear c23
            try clear c24
            try clear c24b0
            try clear c24b1
            try clear c24b2
            try clear c25
            try clear c28
            try clear c28b0
            try clear c28b1
            try clear c29
            try clear c31
            try clear c33
            try clear c34
            try clear c34b0
            try clear c34b1
            try clear c34b2
            try clear c35
            try clear c35b0
            try clear c35b1
            try clear c35b2
            try clear c36
            try clear c39
            try clear c39b0
            try clear c39b1
            try clear c40
            try clear c40b0
            try clear c40b1
            try clear c41
            try clear c43
            try clear c45
            try clear c47
            try clear c48
            try clear c48b0
            try clear c48b1
            try clear c48b2
            try clear c49
            try clear c51
            try clear c51b0
            try clear c51b1
            try clear c52
            try clear c52b0
            try clear c52b1
            try clear c52b2
            try clear c53
            try clear c55
            try clear hcz11_0
            try clear hcz11_1
            try clear hcz11_2
            try clear hcz11_3
            try clear hcz11_4
            try clear hcz14_0
            try clear hcz14_1
            try clear hcz14_2
            try clear hcz14_3
            try clear hcz14_4
            try clear hcz14_5
            try clear hcz17_0
            try clear hcz17_1
            try clear hcz17_2
            try clear hcz17_3
            try clear hcz17_4
            try clear hcz20_0
            try clear hcz20_1
            try clear hcz20_2
            try clear hcz20_3
            try clear hcz20_4
            try clear hcz22_0
            try clear hcz22_1
            try clear hcz22_2
            try clear hcz22_3
            try clear hcz22_4
            try clear hcz26_0
            try clear hcz26_1
            try clear hcz26_2
            try clear hcz26_3
            try clear hcz26_4
            try clear hcz30_0
            try clear hcz30_1
            try clear hcz30_2
            try clear hcz30_3
            try clear hcz30_4
            try clear hcz32_0
            try clear hcz32_1
            try clear hcz32_2
            try clear hcz32_3
            try clear hcz32_4
            try clear hcz37_0
            try clear hcz37_1
            try clear hcz37_2
            try clear hcz37_3
            try clear hcz37_4
            try clear hcz42_0
            try clear hcz42_1
            try clear hcz42_2
            try clear hcz42_3
            try clear hcz42_4
            try clear hcz44_0
            try clear hcz44_1
            try clear hcz44_2
            try clear hcz44_3
            try clear hcz44_4
            try clear hcz46_0
            try clear hcz46_1
            try clear hcz46_2
            try clear hcz46_3
            try clear hcz46_4
            try clear hcz50_0
            try clear hcz50_1
            try clear hcz50_2
            try clear hcz50_3
            try clear hcz50_4
            try clear hcz54_0
            try clear hcz54_1
            try clear hcz54_2
            try clear hcz54_3
            try clear hcz54_4
            try clear hcz56_0
            try clear hcz56_1
            try clear hcz56_2
            try clear hcz56_3
            try clear hcz56_4
            try clear hcz8_0
            try clear hcz8_1
            try clear hcz8_2
            try clear hcz8_3
            try clear hcz8_4
            try clear hcz8_5
            try clear hfz11_0
            try clear hfz11_1
            try clear hfz11_2
            try clear hfz11_3
            try clear hfz11_4
            try clear hfz14_0
            try clear hfz14_1
            try clear hfz14_2
            try clear hfz14_3
            try clear hfz14_4
            try clear hfz14_5
            try clear hfz17_0
            try clear hfz17_1
            try clear hfz17_2
            try clear hfz17_3
            try clear hfz17_4
            try clear hfz20_0
            try clear hfz20_1
            try clear hfz20_2
            try clear hfz20_3
            try clear hfz20_4
            try clear hfz22_0
            try clear hfz22_1
            try clear hfz22_2
            try clear hfz22_3
            try clear hfz22_4
            try clear hfz26_0
            try clear hfz26_1
            try clear hfz26_2
            try clear hfz26_3
            try clear hfz26_4
            try clear hfz30_0
            try clear hfz30_1
            try clear hfz30_2
            try clear hfz30_3
            try clear hfz30_4
            try clear hfz32_0
            try clear hfz32_1
            try clear hfz32_2
            try clear hfz32_3
            try clear hfz32_4
            try clear hfz37_0
            try clear hfz37_1
            try clear hfz37_2
            try clear hfz37_3
            try clear hfz37_4
            try clear hfz42_0
            try clear hfz42_1
            try clear hfz42_2
            try clear hfz42_3
            try clear hfz42_4
            try clear hfz44_0
            try clear hfz44_1
            try clear hfz44_2
            try clear hfz44_3
            try clear hfz44_4
            try clear hfz46_0
            try clear hfz46_1
            try clear hfz46_2
            try clear hfz46_3
            try clear hfz46_4
            try clear hfz50_0
            try clear hfz50_1
            try clear hfz50_2
            try clear hfz50_3
            try clear hfz50_4
            try clear hfz54_0
            try clear hfz54_1
            try clear hfz54_2
            try clear hfz54_3
            try clear hfz54_4
            try clear hfz56_0
            try clear hfz56_1
            try clear hfz56_2
            try clear hfz56_3
            try clear hfz56_4
            try clear hfz8_0
            try clear hfz8_1
            try clear hfz8_2
            try clear hfz8_3
            try clear hfz8_4
            try clear hfz8_5
            try clear hx101_0
            try clear hx101_1
            try clear hx101_2
            try clear hx101_3
            try clear hx101_4
            try clear hx101_5
            try clear p1
            try clear p10
            try clear p101
            try clear p2
            try clear p6
            try clear q1
            try clear q10
            try clear q101
            obtain ⟨x4_2, rfl, HA, HK2, HB⟩ := hrel
            cases gk with
            | zero => exact absurd HA.out (by simp [gouacheref04_written.l1])
            | succ k2 =>
              have H := HA.out
              clear HA
              simp only [gouacheref04_written.l1] at H
              by_cases c58 : (x4_2.size : Int) > 0
              · rw [if_pos c58] at H
                have c58b0 : decide (0 < (x4_2.size : Int)) = true := decide_eq_true c58
                have c58b1 : decide (0 < x4_2.size) = true := decide_eq_true (by omega)
                clear c58
                (first | rw [c58b0] | (simp only [i64_w, i32_w]; rw [c58b0]) | skip)
                by_cases c59 : 0 < (x4_2.size : Int)
                · rw [if_pos c59] at H
                  have c59b0 : decide (0 < (x4_2.size : Int)) = true := decide_eq_true c59
                  have c59b1 : decide (0 < x4_2.size) = true := decide_eq_true (by omega)
                  clear c59
                  by_cases c61 : (bt x4_2 0) = 32
                  · rw [if_pos c61] at H
                    have c61b0 : ((bt x4_2 0) == 32) = true := beq_iff_eq.mpr c61
                    have c61b1 : ((bt x4_2 0) != 32) = false := bne_eq_false_iff_eq.mpr c61
                    clear c61
                    by_cases c62 : 1 ≤ (x4_2.size : Int)
                    · rw [if_pos c62] at H
                      have c62b0 := eq_true c62
                      have c62b1 : decide (1 ≤ (x4_2.size : Int)) = true := decide_eq_true c62
                      clear c62
                      have H' := Aside0.mk H
                      clear H
                      have p60 : 0 ≤ (0 : Int) := (by omega)
                      have q60 : 0 < x4_2.size := (by have : (0 : Int) < (x4_2.size : Int) := of_decide_eq_true (by first | (with_reducible assumption) | assumption); omega)
                      have hx60 : ∀ h : 0 < x4_2.size, ((x4_2[0]'h).toNat : Int) = bt x4_2 0 := bt_at x4_2 0
                      clear p60
                      have qi60 : (0 < (x4_2.size : Int)) = True := eq_true (of_decide_eq_true (by first | (with_reducible assumption) | assumption))
                      replace q60 := eq_true q60
                      go_wp2
                      go_roundg k2
                      case measure => have := HK1.out; have := HK2.out; omega
                      case rel => exact ⟨(x4_2.extract 1 x4_2.size), (by first | rfl | (simp; done) | (simp [*]; done)), H', ⟨by have := HK1.out; have := HK2.out; omega⟩, ⟨by repeat (first | (with_reducible first | exact HB.out | apply below_alloc | apply pw_below_drewN | apply below_drew1) | exact HB.out)⟩⟩
                    · rw [if_neg c62] at H
                      exact absurd H (by simp)
                  · rw [if_neg c61] at H
                    have c61b0 : ((bt x4_2 0) == 32) = false := beq_eq_false_iff_ne.mpr c61
                    have c61b1 : ((bt x4_2 0) != 32) = true := bne_iff_ne.mpr c61
                    have H' := Aside0.mk H
                    clear H
                    have p60 : 0 ≤ (0 : Int) := (by omega)
                    have q60 : 0 < x4_2.size := (by have : (0 : Int) < (x4_2.size : Int) := of_decide_eq_true (by first | (with_reducible assumption) | assumption); omega)
                    have hx60 : ∀ h : 0 < x4_2.size, ((x4_2[0]'h).toNat : Int) = bt x4_2 0 := bt_at x4_2 0
                    clear p60
                    have qi60 : (0 < (x4_2.size : Int)) = True := eq_true (of_decide_eq_true (by first | (with_reducible assumption) | assumption))
                    replace q60 := eq_true q60
                    go_wp2
                    go_meet
                    case rel => exact ⟨_, (x4_2), (by first | rfl | (simp; done) | (simp [*]; done)), H', ⟨by have := HK1.out; have := HK2.out; first | omega | exact Nat.le_refl _⟩, ⟨by repeat (first | (with_reducible first | exact HB.out | apply below_alloc | apply pw_below_drewN | apply below_drew1) | exact HB.out)⟩⟩
                · rw [if_neg c59] at H
                  exact absurd H (by simp)
              · rw [if_neg c58] at H
                have c58b0 : decide (0 < (x4_2.size : Int)) = false := decide_eq_false c58
                have c58b1 : decide (0 < x4_2.size) = false := decide_eq_false (by omega)
                clear c58
                (first | rw [c58b0] | (simp only [i64_w, i32_w]; rw [c58b0]) | skip)
                have H' := Aside0.mk H
                clear H
                go_wp2
                go_meet
                case rel => exact ⟨_, (x4_2), (by first | rfl | (simp; done) | (simp [*]; done)), H', ⟨by have := HK1.out; have := HK2.out; first | omega | exact Nat.le_refl _⟩, ⟨by repeat (first | (with_reducible first | exact HB.out | apply below_alloc | apply pw_below_drewN | apply below_drew1) | exact HB.out)⟩⟩
        case rest =>
          clear HC57
          try clear c1
          try clear p1
          try clear q1
          try clear hx1
          try clear c2
          try clear c2b0
          try clear p2
          try clear c3
          try clear c3b0
          try clear c4
          try clear c4b0
          try clear c5
          try clear c5b0
          try clear c5b1
          try clear c6
          try clear c6b0
          try clear c6b1
          try clear c6b2
          try clear p6
          try clear q6
          try clear hx6
          try clear qi6
          try clear c10
          try clear p10
          try clear q10
          try clear hx10
          try clear c16
          try clear c18
          try clear c18b0
          try clear c18b1
          try clear c19
          try clear c21
          try clear c23
          try clear c24
          try clear c24b0
          try clear c24b1
          try clear c24b2
          try clear c25
          try clear c28
          try clear c28b0
          try clear c28b1
          try clear c29
          try clear c31
          try clear c33
          try clear c34
          try clear c34b0
          try clear c34b1
          try clear c34b2
          try clear c35
          try clear c35b0
          try clear c35b1
          try clear c35b2
          try clear c36
          try clear c39
          try clear c39b0
          try clear c39b1
          try clear c40
          try clear c40b0
          try clear c40b1
          try clear c41
          try clear c43
          try clear c45
          try clear c47
          try clear c48
          try clear c48b0
          try clear c48b1
          try clear c48b2
          try clear c49
          try clear c51
          try clear c51b0
          try clear c51b1
          try clear c52
          try clear c52b0
          try clear c52b1
          try clear c52b2
          try clear c53
          try clear c55
          try clear c58
          try clear c58b0
          try clear c58b1
          try clear c59
          try clear c59b0
          try clear c59b1
          try clear p60
          try clear q60
          try clear hx60
          try clear qi60
          try clear c61
          try clear c61b0
          try clear c61b1
          try clear c62
          try clear c62b0
          try clear c62b1
          try clear hcz11_0
          try clear hcz11_1
          try clear hcz11_2
          try clear hcz11_3
          try clear hcz11_4
          try clear hcz14_0
          try clear hcz14_1
          try clear hcz14_2
          try clear hcz14_3
          try clear hcz14_4
          try clear hcz14_5
          try clear hcz17_0
          try clear hcz17_1
          try clear hcz17_2
          try clear hcz17_3
          try clear hcz17_4
          try clear hcz20_0
          try clear hcz20_1
          try clear hcz20_2
          try clear hcz20_3
          try clear hcz20_4
          try clear hcz22_0
          try clear hcz22_1
          try clear hcz22_2
          try clear hcz22_3
          try clear hcz22_4
          try clear hcz26_0
          try clear hcz26_1
          try clear hcz26_2
          try clear hcz26_3
          try clear hcz26_4
          try clear hcz30_0
          try clear hcz30_1
          try clear hcz30_2
          try clear hcz30_3
          try clear hcz30_4
          try clear hcz32_0
          try clear hcz32_1
          try clear hcz32_2
          try clear hcz32_3
          try clear hcz32_4
          try clear hcz37_0
          try clear hcz37_1
          try clear hcz37_2
          try clear hcz37_3
          try clear hcz37_4
          try clear hcz42_0
          try clear hcz42_1
          try clear hcz42_2
          try clear hcz42_3
          try clear hcz42_4
          try clear hcz44_0
          try clear hcz44_1
          try clear hcz44_2
          try clear hcz44_3
          try clear hcz44_4
          try clear hcz46_0
          try clear hcz46_1
          try clear hcz46_2
          try clear hcz46_3
          try clear hcz46_4
          try clear hcz50_0
          try clear hcz50_1
          try clear hcz50_2
          try clear hcz50_3
          try clear hcz50_4
          try clear hcz54_0
          try clear hcz54_1
          try clear hcz54_2
          try clear hcz54_3
          try clear hcz54_4
          try clear hcz56_0
          try clear hcz56_1
          try clear hcz56_2
          try clear hcz56_3
          try clear hcz56_4
          try clear hcz8_0
          try clear hcz8_1
          try clear hcz8_2
          try clear hcz8_3
          try clear hcz8_4
          try clear hcz8_5
          try clear hfz11_0
          try clear hfz11_1
          try clear hfz11_2
          try clear hfz11_3
          try clear hfz11_4
          try clear hfz14_0
          try clear hfz14_1
          try clear hfz14_2
          try clear hfz14_3
          try clear hfz14_4
          try clear hfz14_5
          try clear hfz17_0
          try clear hfz17_1
          try clear hfz17_2
          try clear hfz17_3
          try clear hfz17_4
          try clear hfz20_0
          try clear hfz20_1
          try clear hfz20_2
          try clear hfz20_3
          try clear hfz20_4
          try clear hfz22_0
          try clear hfz22_1
          try clear hfz22_2
          try clear hfz22_3
          try clear hfz22_4
          try clear hfz26_0
          try clear hfz26_1
          try clear hfz26_2
          try clear hfz26_3
          try clear hfz26_4
          try clear hfz30_0
          try clear hfz30_1
          try clear hfz30_2
          try clear hfz30_3
          try clear hfz30_4
          try clear hfz32_0
          try clear hfz32_1
          try clear hfz32_2
          try clear hfz32_3
          try clear hfz32_4
          try clear hfz37_0
          try clear hfz37_1
          try clear hfz37_2
          try clear hfz37_3
          try clear hfz37_4
          try clear hfz42_0
          try clear hfz42_1
          try clear hfz42_2
          try clear hfz42_3
          try clear hfz42_4
          try clear hfz44_0
          try clear hfz44_1
          try clear hfz44_2
          try clear hfz44_3
          try clear hfz44_4
          try clear hfz46_0
          try clear hfz46_1
          try clear hfz46_2
          try clear hfz46_3
          try clear hfz46_4
          try clear hfz50_0
          try clear hfz50_1
          try clear hfz50_2
          try clear hfz50_3
          try clear hfz50_4
          try clear hfz54_0
          try clear hfz54_1
          try clear hfz54_2
          try clear hfz54_3
          try clear hfz54_4
          try clear hfz56_0
          try clear hfz56_1
          try clear hfz56_2
          try clear hfz56_3
          try clear hfz56_4
          try clear hfz8_0
          try clear hfz8_1
          try clear hfz8_2
          try clear hfz8_3
          try clear hfz8_4
          try clear hfz8_5
          try clear hx101_0
          try clear hx101_1
          try clear hx101_2
          try clear hx101_3
          try clear hx101_4
          try clear hx101_5
          try clear p1
          try clear p10
          try clear p101
          try clear p2
          try clear p6
          try clear p60
          try clear q1
          try clear q10
          try clear q101
          try clear q60
          obtain ⟨kq, x4_56, rfl, HA, HJ56, HB⟩ := hcut
          cases kq with
          | zero => exact absurd HA.out (by simp [gouacheref04_written.j5])
          | succ kj56 =>
            have H := HA.out
            clear HA
            simp only [gouacheref04_written.j5] at H
            have H' := Aside0.mk H
            clear H
            go_wp2
            go_loopg [4] kj56 (fun kq v4 w' => ∃ (x4_3 : ByteArray), v4 = .string x4_3 ∧ Aside0 (gouacheref04_written.l2 kq x4_3 = some (r1, r2)) ∧ Aside0 (kq ≤ kj56) ∧ Aside0 (Below w.heap.size w w'))
            case atStart => exact ⟨(x4_56), (by first | rfl | (simp; done) | (simp [*]; done)), H', ⟨Nat.le_refl _⟩, ⟨by repeat (first | (with_reducible first | exact HB.out | apply below_alloc | apply pw_below_drewN | apply below_drew1) | exact HB.out)⟩⟩
            case round =>
              clear H'
              try clear c1
              try clear p1
              try clear q1
              try clear hx1
              try clear c2
              try clear c2b0
              try clear p2
              try clear c3
              try clear c3b0
              try clear c4
              try clear c4b0
              try clear c5
              try clear c5b0
              try clear c5b1
              try clear c6
              try clear c6b0
              try clear c6b1
              try clear c6b2
              try clear p6
              try clear q6
              try clear hx6
              try clear qi6
              try clear c10
              try clear p10
              try clear q10
              try clear hx10
              try clear c16
              try clear c18
              try clear c18b0
              try clear c18b1
              try clear c19
              try clear c21
              try clear c23
              try clear c24
              try clear c24b0
              try clear c24b1
              try clear c24b2
              try clear c25
              try clear c28
              try clear c28b0
              try clear c28b1
              try clear c29
              try clear c31
              try clear c33
              try clear c34
              try clear c34b0
              try clear c34b1
              try clear c34b2
              try clear c35
              try clear c35b0
              try clear c35b1
              try clear c35b2
              try clear c36
              try clear c39
              try clear c39b0
              try clear c39b1
              try clear c40
              try clear c40b0
              try clear c40b1
              try clear c41
              try clear c43
              try clear c45
              try clear c47
              try clear c48
              try clear c48b0
              try clear c48b1
              try clear c48b2
              try clear c49
              try clear c51
              try clear c51b0
              try clear c51b1
              try clear c52
              try clear c52b0
              try clear c52b1
              try clear c52b2
              try clear c53
              try clear c55
              try clear c58
              try clear c58b0
              try clear c58b1
              try clear c59
              try clear c59b0
              try clear c59b1
              try clear p60
              try clear q60
              try clear hx60
              try clear qi60
              try clear c61
              try clear c61b0
              try clear c61b1
              try clear c62
              try clear c62b0
              try clear c62b1
              try clear hcz11_0
              try clear hcz11_1
              try clear hcz11_2
              try clear hcz11_3
              try clear hcz11_4
              try clear hcz14_0
              try clear hcz14_1
              try clear hcz14_2
              try clear hcz14_3
              try clear hcz14_4
              try clear hcz14_5
              try clear hcz17_0
              try clear hcz17_1
              try clear hcz17_2
              try clear hcz17_3
              try clear hcz17_4
              try clear hcz20_0
              try clear hcz20_1
              try clear hcz20_2
              try clear hcz20_3
              try clear hcz20_4
              try clear hcz22_0
              try clear hcz22_1
              try clear hcz22_2
              try clear hcz22_3
              try clear hcz22_4
              try clear hcz26_0
              try clear hcz26_1
              try clear hcz26_2
              try clear hcz26_3
              try clear hcz26_4
              try clear hcz30_0
              try clear hcz30_1
              try clear hcz30_2
              try clear hcz30_3
              try clear hcz30_4
              try clear hcz32_0
              try clear hcz32_1
              try clear hcz32_2
              try clear hcz32_3
              try clear hcz32_4
              try clear hcz37_0
              try clear hcz37_1
              try clear hcz37_2
              try clear hcz37_3
              try clear hcz37_4
              try clear hcz42_0
              try clear hcz42_1
              try clear hcz42_2
              try clear hcz42_3
              try clear hcz42_4
              try clear hcz44_0
              try clear hcz44_1
              try clear hcz44_2
              try clear hcz44_3
              try clear hcz44_4
              try clear hcz46_0
              try clear hcz46_1
              try clear hcz46_2
              try clear hcz46_3
              try clear hcz46_4
              try clear hcz50_0
              try clear hcz50_1
              try clear hcz50_2
              try clear hcz50_3
              try clear hcz50_4
              try clear hcz54_0
              try clear hcz54_1
              try clear hcz54_2
              try clear hcz54_3
              try clear hcz54_4
              try clear hcz56_0
              try clear hcz56_1
              try clear hcz56_2
              try clear hcz56_3
              try clear hcz56_4
              try clear hcz8_0
              try clear hcz8_1
              try clear hcz8_2
              try clear hcz8_3
              try clear hcz8_4
              try clear hcz8_5
              try clear hfz11_0
              try clear hfz11_1
              try clear hfz11_2
              try clear hfz11_3
              try clear hfz11_4
              try clear hfz14_0
              try clear hfz14_1
              try clear hfz14_2
              try clear hfz14_3
              try clear hfz14_4
              try clear hfz14_5
              try clear hfz17_0
              try clear hfz17_1
              try clear hfz17_2
              try clear hfz17_3
              try clear hfz17_4
              try clear hfz20_0
              try clear hfz20_1
              try clear hfz20_2
              try clear hfz20_3
              try clear hfz20_4
              try clear hfz22_0
              try clear hfz22_1
              try clear hfz22_2
              try clear hfz22_3
              try clear hfz22_4
              try clear hfz26_0
              try clear hfz26_1
              try clear hfz26_2
              try clear hfz26_3
              try clear hfz26_4
              try clear hfz30_0
              try clear hfz30_1
              try clear hfz30_2
              try clear hfz30_3
              try clear hfz30_4
              try clear hfz32_0
              try clear hfz32_1
              try clear hfz32_2
              try clear hfz32_3
              try clear hfz32_4
              try clear hfz37_0
              try clear hfz37_1
              try clear hfz37_2
              try clear hfz37_3
              try clear hfz37_4
              try clear hfz42_0
              try clear hfz42_1
              try clear hfz42_2
              try clear hfz42_3
              try clear hfz42_4
              try clear hfz44_0
              try clear hfz44_1
              try clear hfz44_2
              try clear hfz44_3
              try clear hfz44_4
              try clear hfz46_0
              try clear hfz46_1
              try clear hfz46_2
              try clear hfz46_3
              try clear hfz46_4
              try clear hfz50_0
              try clear hfz50_1
              try clear hfz50_2
              try clear hfz50_3
              try clear hfz50_4
              try clear hfz54_0
              try clear hfz54_1
              try clear hfz54_2
              try clear hfz54_3
              try clear hfz54_4
              try clear hfz56_0
              try clear hfz56_1
              try clear hfz56_2
              try clear hfz56_3
              try clear hfz56_4
              try clear hfz8_0
              try clear hfz8_1
              try clear hfz8_2
              try clear hfz8_3
              try clear hfz8_4
              try clear hfz8_5
              try clear hx101_0
              try clear hx101_1
              try clear hx101_2
              try clear hx101_3
              try clear hx101_4
              try clear hx101_5
              try clear p1
              try clear p10
              try clear p101
              try clear p2
              try clear p6
              try clear p60
              try clear q1
              try clear q10
              try clear q101
              try clear q6
              try clear q60
              obtain ⟨x4_3, rfl, HA, HK3, HB⟩ := hrel
              cases gk with
              | zero => exact absurd HA.out (by simp [gouacheref04_written.l2])
              | succ k3 =>
                have H := HA.out
                clear HA
                simp only [gouacheref04_written.l2] at H
                by_cases c63 : (x4_3.size : Int) > 0
                · rw [if_pos c63] at H
                  have c63b0 : decide (0 < (x4_3.size : Int)) = true := decide_eq_true c63
                  have c63b1 : decide (0 < x4_3.size) = true := decide_eq_true (by omega)
                  clear c63
                  obtain ⟨ji64, hji64⟩ : ∃ j_ : Int, (wrap64 ((x4_3.size : Int) - 1)) = j_ := ⟨_, rfl⟩
                  replace H : (if 0 ≤ (ji64) then (if (ji64) < (x4_3.size : Int) then (if (bt x4_3 (ji64)) = 32 then (if (ji64) ≤ (x4_3.size : Int) then (gouacheref04_written.l2 k3 (x4_3.extract 0 ((ji64) : Int).toNat)) else (none)) else ((gouacheref01_Fold.f x4_3).bind fun t104 => (some (t104, true)))) else (none)) else (none)) = some (r1, r2) := by first | (rw [hji64] at H; exact H) | (simp only [hji64] at H ⊢; exact H)
                  have hji64w : (IntKind.i64.wrap ((x4_3.size : Int) - 1)) = ji64 := (i64_w _).trans hji64
                  by_cases c65 : 0 ≤ (ji64)
                  · rw [if_pos c65] at H
                    have c65b0 : decide (0 ≤ (ji64)) = true := decide_eq_true c65
                    clear c65
                    by_cases c66 : (ji64) < (x4_3.size : Int)
                    · rw [if_pos c66] at H
                      have c66b0 : decide ((ji64) < (x4_3.size : Int)) = true := decide_eq_true c66
                      clear c66
                      by_cases c68 : (bt x4_3 (ji64)) = 32
                      · rw [if_pos c68] at H
                        have c68b0 : ((bt x4_3 (ji64)) == 32) = true := beq_iff_eq.mpr c68
                        have c68b1 : ((bt x4_3 (ji64)) != 32) = false := bne_eq_false_iff_eq.mpr c68
                        clear c68
                        have c69b0 := eq_true (of_decide_eq_true (by first | (with_reducible assumption) | assumption) : 0 ≤ (ji64))
                        by_cases c70 : (ji64) ≤ (x4_3.size : Int)
                        · rw [if_pos c70] at H
                          have c70b0 := eq_true c70
                          have c70b1 : decide ((ji64) ≤ (x4_3.size : Int)) = true := decide_eq_true c70
                          clear c70
                          have H' := Aside0.mk H
                          clear H
                          have p67 : 0 ≤ ((ji64) : Int) := of_decide_eq_true (by first | (with_reducible assumption) | assumption)
                          have q67 : (ji64) < (x4_3.size : Int) := of_decide_eq_true (by first | (with_reducible assumption) | assumption)
                          have hx67 := bt_at x4_3 (ji64)
                          replace p67 := eq_true p67
                          replace q67 := eq_true q67
                          go_wp2
                          go_roundg k3
                          case measure => have := HK1.out; have := HJ56.out; have := HK3.out; omega
                          case rel => exact ⟨(x4_3.extract 0 ((ji64) : Int).toNat), (by first | rfl | (simp; done) | (simp only [← hji64] <;> (first | rfl | simp)) | (simp [*]; done)), H', ⟨by have := HK1.out; have := HJ56.out; have := HK3.out; omega⟩, ⟨by repeat (first | (with_reducible first | exact HB.out | apply below_alloc | apply pw_below_drewN | apply below_drew1) | exact HB.out)⟩⟩
                        · rw [if_neg c70] at H
                          exact absurd H (by simp)
                      · rw [if_neg c68] at H
                        have c68b0 : ((bt x4_3 (ji64)) == 32) = false := beq_eq_false_iff_ne.mpr c68
                        have c68b1 : ((bt x4_3 (ji64)) != 32) = true := bne_iff_ne.mpr c68
                        replace H := Option.bind_eq_some_iff.mp H
                        obtain ⟨t104, A710, H⟩ := H
                        replace H : (some (t104, true)) = some (r1, r2) := H
                        have A71 := Aside0.mk A710
                        clear A710
                        simp only [Option.some.injEq, Prod.mk.injEq] at H
                        obtain ⟨rfl, rfl⟩ := H
                        have p67 : 0 ≤ ((ji64) : Int) := of_decide_eq_true (by first | (with_reducible assumption) | assumption)
                        have q67 : (ji64) < (x4_3.size : Int) := of_decide_eq_true (by first | (with_reducible assumption) | assumption)
                        have hx67 := bt_at x4_3 (ji64)
                        replace p67 := eq_true p67
                        replace q67 := eq_true q67
                        go_wp2_with (first | ((with_reducible refine gate_callee (f := 37) rfl ?_); refine goesL_ (some 103) rfl rfl Tryd.func37 (by kernel_rfl) rfl #[.string x4_3] rfl (by (try simp only [List.map_toArray, List.map_cons, List.map_nil]); first | done | rfl | (simp only [List.length_drop, List.length_take]; rfl)) ?_; (with_reducible refine (gouacheref01_Fold.calls x4_3 t104 _ A71.out).mono ?_); rintro e w72 ⟨rfl, hb⟩; refine ⟨_, rfl, ?_⟩; have n0_ := Aside0.mk (below_step (by repeat (first | (with_reducible first | exact HB.out | apply below_alloc | apply pw_below_drewN | apply below_drew1) | exact HB.out)) hb); clear HB; have HB := n0_; clear n0_; (try clear hb); (try clear hb2); (try clear hk); (try clear hi)))
                        go_ret2
                        exact ⟨by first | rfl | (simp [errW_none, errW_some] <;> rfl) | (simp only [← hji64]; first | rfl | (simp [errW_none, errW_some] <;> rfl)) | (simp [*, errW_none, errW_some] <;> rfl), by repeat (first | (with_reducible first | exact HB.out | apply below_alloc | apply pw_below_drewN | apply below_drew1) | exact HB.out)⟩
                    · rw [if_neg c66] at H
                      exact absurd H (by simp)
                  · rw [if_neg c65] at H
                    exact absurd H (by simp)
                · rw [if_neg c63] at H
                  have c63b0 : decide (0 < (x4_3.size : Int)) = false := decide_eq_false c63
                  have c63b1 : decide (0 < x4_3.size) = false := decide_eq_false (by omega)
                  clear c63
                  replace H := Option.bind_eq_some_iff.mp H
                  obtain ⟨t105, A730, H⟩ := H
                  replace H : (some (t105, true)) = some (r1, r2) := H
                  have A73 := Aside0.mk A730
                  clear A730
                  simp only [Option.some.injEq, Prod.mk.injEq] at H
                  obtain ⟨rfl, rfl⟩ := H
                  go_wp2_with (first | ((with_reducible refine gate_callee (f := 37) rfl ?_); refine goesL_ (some 103) rfl rfl Tryd.func37 (by kernel_rfl) rfl #[.string x4_3] rfl (by (try simp only [List.map_toArray, List.map_cons, List.map_nil]); first | done | rfl | (simp only [List.length_drop, List.length_take]; rfl)) ?_; (with_reducible refine (gouacheref01_Fold.calls x4_3 t105 _ A73.out).mono ?_); rintro e w74 ⟨rfl, hb⟩; refine ⟨_, rfl, ?_⟩; have n0_ := Aside0.mk (below_step (by repeat (first | (with_reducible first | exact HB.out | apply below_alloc | apply pw_below_drewN | apply below_drew1) | exact HB.out)) hb); clear HB; have HB := n0_; clear n0_; (try clear hb); (try clear hb2); (try clear hk); (try clear hi)))
                  go_ret2
                  exact ⟨by first | rfl | (simp [errW_none, errW_some] <;> rfl) | (simp [*, errW_none, errW_some] <;> rfl), by repeat (first | (with_reducible first | exact HB.out | apply below_alloc | apply pw_below_drewN | apply below_drew1) | exact HB.out)⟩
end Go.Proofs.YtmfnnhmlekdbjaaDoor.P
end
section
set_option linter.unusedVariables false
set_option linter.unusedSimpArgs false
namespace Go.Proofs.YtmfnnhmlekdbjaaDoor.P
open Go.RowKit Go.Proofs.YtmfnnhmlekdbjaaDoorW.PrintWords Go.Proofs.YtmfnnhmlekdbjaaDoorW.PrintLast Go.Proofs.YtmfnnhmlekdbjaaDoorW.PrintMore
attribute [local go_sem] max2_int min2_int max_two min_two max_three min_three max_four min_four
set_option linter.unusedVariables false
set_option linter.unusedSimpArgs false
mutual
def gouacheref04_Parse.j1 : Nat → ByteArray → Int → Option (Int × Int × Bool)
  | 0, _, _ => none
  | k + 1, x5, x9 => if x9 = (x5.size : Int) then (some (0, 0, false)) else (if 0 ≤ x9 then (if x9 ≤ (x5.size : Int) then (if 0 ≤ (wrap64 (x9 + 1)) then (if (wrap64 (x9 + 1)) ≤ (x5.size : Int) then (if (x5.extract 0 (x9 : Int).toNat).toList = ([] : List UInt8) then (gouacheref04_Parse.j2 k (x5.extract 0 (x9 : Int).toNat) (x5.extract ((wrap64 (x9 + 1)) : Int).toNat x5.size) true) else (if (x5.extract 0 (x9 : Int).toNat).toList = ([43] : List UInt8) then (gouacheref04_Parse.j2 k (x5.extract 0 (x9 : Int).toNat) (x5.extract ((wrap64 (x9 + 1)) : Int).toNat x5.size) true) else (gouacheref04_Parse.j2 k (x5.extract 0 (x9 : Int).toNat) (x5.extract ((wrap64 (x9 + 1)) : Int).toNat x5.size) ((x5.extract 0 (x9 : Int).toNat).toList == ([45] : List UInt8))))) else (none)) else (none)) else (none)) else (none))
def gouacheref04_Parse.j2 : Nat → ByteArray → ByteArray → Bool → Option (Int × Int × Bool)
  | 0, _, _, _ => none
  | k + 1, x10, x11, x69 => if x69 = true then (if x10.size + 1 ≤ 9223372036854775807 then (gouacheref04_Parse.j3 k (x10 ++ (⟨#[49]⟩ : ByteArray)) x11) else (none)) else (gouacheref04_Parse.j3 k x10 x11)
def gouacheref04_Parse.j3 : Nat → ByteArray → ByteArray → Option (Int × Int × Bool)
  | 0, _, _ => none
  | k + 1, x10, x11 => (gouacheref02_Whole.f k x10).bind fun bt105 => (if bt105.2 = true then (if x11.toList = ([] : List UInt8) then (some (bt105.1, 0, true)) else ((gouacheref04_blank.f x11).bind fun t107 => (if t107.toList = ([] : List UInt8) then (gouacheref04_Parse.j4 k t107 bt105.1 true) else (if 0 < (t107.size : Int) then (if (bt t107 0) = 43 then (gouacheref04_Parse.j4 k t107 bt105.1 false) else (gouacheref04_Parse.j4 k t107 bt105.1 ((bt t107 0) != 45))) else (none))))) else (some (0, 0, false)))
def gouacheref04_Parse.j4 : Nat → ByteArray → Int → Bool → Option (Int × Int × Bool)
  | 0, _, _, _ => none
  | k + 1, x11, x12, x95 => if x95 = true then (some (0, 0, false)) else (if 1 ≤ (x11.size : Int) then ((gouacheref04_blank.f (x11.extract 1 x11.size)).bind fun t108 => (if (t108.size : Int) = 0 then (gouacheref04_Parse.j5 k x11 x12 t108 true) else (if 0 < (t108.size : Int) then (if (bt t108 0) < 48 then (gouacheref04_Parse.j5 k x11 x12 t108 true) else (gouacheref04_Parse.j5 k x11 x12 t108 (decide ((bt t108 0) > 57)))) else (none)))) else (none))
def gouacheref04_Parse.j5 : Nat → ByteArray → Int → ByteArray → Bool → Option (Int × Int × Bool)
  | 0, _, _, _, _ => none
  | k + 1, x11, x12, x14, x111 => if x111 = true then (some (0, 0, false)) else (if 1 ≤ (x11.size : Int) then (if (x11.extract 0 1).size + x14.size ≤ 9223372036854775807 then ((gouacheref02_Whole.f k ((x11.extract 0 1) ++ x14)).bind fun bt109 => (if bt109.2 = true then (some (x12, bt109.1, true)) else (some (0, 0, false)))) else (none)) else (none))
def gouacheref04_Parse.l0 : Nat → ByteArray → Int → Option (Int × Int × Bool)
  | 0, _, _ => none
  | k + 1, x5, x9 => if x9 < (x5.size : Int) then (if 0 ≤ x9 then (if (bt x5 x9) = 110 then (gouacheref04_Parse.j1 k x5 x9) else (gouacheref04_Parse.l0 k x5 (wrap64 (x9 + 1)))) else (none)) else (gouacheref04_Parse.j1 k x5 x9)
end
def gouacheref04_Parse.f (k : Nat) (l0 : List (S32)) : Option (Int × Int × Bool) := (gouacheref04_written.f k l0).bind fun bt101 => (if bt101.2 = true then (if bt101.1.toList = ([101, 118, 101, 110] : List UInt8) then (some (2, 0, true)) else (if bt101.1.toList = ([111, 100, 100] : List UInt8) then (some (2, 1, true)) else ((gouacheref02_Whole.f k bt101.1).bind fun bt103 => (if bt103.2 = true then (some (0, bt103.1, true)) else (gouacheref04_Parse.l0 k bt101.1 0))))) else (some (0, 0, false)))
set_option maxHeartbeats 8000000 in
set_option maxRecDepth 100000 in
theorem gouacheref04_Parse.calls (k : Nat) (A0 : Option Addr) (c0 : Nat) (l0 : List (S32)) (r1 : Int) (r2 : Int) (r3 : Bool) (w : World) (hr0 : Kd.C k32 w A0 l0.length l0) (hc0 : l0.length ≤ c0) (h : gouacheref04_Parse.f k l0 = some (r1, r2, r3)) :
    Calls Tryd.prog 16 #[.slice A0 l0.length c0] w fun e w' => e = .returned (.tuple #[.int .i64 r1, .int .i64 r2, .bool r3]) ∧ Below w.heap.size w w' := by
  have HR0 := Aside0.mk hr0
  have HC0 := Aside0.mk hc0
  clear hr0 hc0
  have HB := Aside0.mk (Below.refl w.heap.size w)
  have H : ((gouacheref04_written.f k l0).bind fun bt101 => (if bt101.2 = true then (if bt101.1.toList = ([101, 118, 101, 110] : List UInt8) then (some (2, 0, true)) else (if bt101.1.toList = ([111, 100, 100] : List UInt8) then (some (2, 1, true)) else ((gouacheref02_Whole.f k bt101.1).bind fun bt103 => (if bt103.2 = true then (some (0, bt103.1, true)) else (gouacheref04_Parse.l0 k bt101.1 0))))) else (some (0, 0, false)))) = some (r1, r2, r3) := h
  clear h
  replace H := Option.bind_eq_some_iff.mp H
  obtain ⟨⟨t101, t102⟩, A20, H⟩ := H
  replace H : (if t102 = true then (if t101.toList = ([101, 118, 101, 110] : List UInt8) then (some (2, 0, true)) else (if t101.toList = ([111, 100, 100] : List UInt8) then (some (2, 1, true)) else ((gouacheref02_Whole.f k t101).bind fun bt103 => (if bt103.2 = true then (some (0, bt103.1, true)) else (gouacheref04_Parse.l0 k t101 0))))) else (some (0, 0, false))) = some (r1, r2, r3) := H
  have A2 := Aside0.mk A20
  clear A20
  by_cases c3 : t102 = true
  · subst c3
    have H1 : (if t101.toList = ([101, 118, 101, 110] : List UInt8) then (some (2, 0, true)) else (if t101.toList = ([111, 100, 100] : List UInt8) then (some (2, 1, true)) else ((gouacheref02_Whole.f k t101).bind fun bt103 => (if bt103.2 = true then (some (0, bt103.1, true)) else (gouacheref04_Parse.l0 k t101 0))))) = some (r1, r2, r3) := by rw [if_pos rfl] at H; exact H
    clear H
    have H := H1
    clear H1
    by_cases c4 : t101.toList = ([101, 118, 101, 110] : List UInt8)
    · rw [if_pos c4] at H
      have c4b0 : (t101.toList == ([101, 118, 101, 110] : List UInt8)) = true := beq_iff_eq.mpr c4
      have c4b1 : (t101.toList != ([101, 118, 101, 110] : List UInt8)) = false := bne_eq_false_iff_eq.mpr c4
      clear c4
      simp only [Option.some.injEq, Prod.mk.injEq] at H
      obtain ⟨rfl, rfl, rfl⟩ := H
      go_enter Tryd.func16, Tryd.ntmps16
      go_wp2_with (first | (go_at_call 24; (with_reducible refine (gouacheref04_written.calls k _ _ l0 t101 true _ ?side1 ?side2 A2.out).mono ?_); (case side1 => repeat (first | exact HR0.out | (with_reducible refine Kd.C_alloc ?_ _) | (with_reducible refine Kd.C_drewN ?_ _) | (with_reducible refine Kd.C_drew ?_))); (case side2 => exact HC0.out); rintro e w5 ⟨rfl, hb⟩; have n0_ := Aside0.mk (below_step (by repeat (first | (with_reducible first | exact HB.out | apply below_alloc | apply pw_below_drewN | apply below_drew1) | exact HB.out)) hb); clear HB; have HB := n0_; clear n0_; (try clear hb); (try clear hb2); (try clear hk); (try clear hi)))
      repeat (go_quiet (first | (go_at_call 24; (with_reducible refine (gouacheref04_written.calls k _ _ l0 t101 true _ ?side1 ?side2 A2.out).mono ?_); (case side1 => repeat (first | exact HR0.out | (with_reducible refine Kd.C_alloc ?_ _) | (with_reducible refine Kd.C_drewN ?_ _) | (with_reducible refine Kd.C_drew ?_))); (case side2 => exact HC0.out); rintro e w5 ⟨rfl, hb⟩; have n0_ := Aside0.mk (below_step (by repeat (first | (with_reducible first | exact HB.out | apply below_alloc | apply pw_below_drewN | apply below_drew1) | exact HB.out)) hb); clear HB; have HB := n0_; clear n0_; (try clear hb); (try clear hb2); (try clear hk); (try clear hi))); try go_wp2_with (first | (go_at_call 24; (with_reducible refine (gouacheref04_written.calls k _ _ l0 t101 true _ ?side1 ?side2 A2.out).mono ?_); (case side1 => repeat (first | exact HR0.out | (with_reducible refine Kd.C_alloc ?_ _) | (with_reducible refine Kd.C_drewN ?_ _) | (with_reducible refine Kd.C_drew ?_))); (case side2 => exact HC0.out); rintro e w5 ⟨rfl, hb⟩; have n0_ := Aside0.mk (below_step (by repeat (first | (with_reducible first | exact HB.out | apply below_alloc | apply pw_below_drewN | apply below_drew1) | exact HB.out)) hb); clear HB; have HB := n0_; clear n0_; (try clear hb); (try clear hb2); (try clear hk); (try clear hi))))
      go_ret3
      exact ⟨by first | rfl | (simp [errW_none, errW_some] <;> rfl) | (simp [*, errW_none, errW_some] <;> rfl), by repeat (first | (with_reducible first | exact HB.out | apply below_alloc | apply pw_below_drewN | apply below_drew1) | exact HB.out)⟩
    · rw [if_neg c4] at H
      have c4b0 : (t101.toList == ([101, 118, 101, 110] : List UInt8)) = false := beq_eq_false_iff_ne.mpr c4
      have c4b1 : (t101.toList != ([101, 118, 101, 110] : List UInt8)) = true := bne_iff_ne.mpr c4
      by_cases c6 : t101.toList = ([111, 100, 100] : List UInt8)
      · rw [if_pos c6] at H
        have c6b0 : (t101.toList == ([111, 100, 100] : List UInt8)) = true := beq_iff_eq.mpr c6
        have c6b1 : (t101.toList != ([111, 100, 100] : List UInt8)) = false := bne_eq_false_iff_eq.mpr c6
        clear c6
        simp only [Option.some.injEq, Prod.mk.injEq] at H
        obtain ⟨rfl, rfl, rfl⟩ := H
        go_enter Tryd.func16, Tryd.ntmps16
        go_wp2_with (first | (go_at_call 24; (with_reducible refine (gouacheref04_written.calls k _ _ l0 t101 true _ ?side1 ?side2 A2.out).mono ?_); (case side1 => repeat (first | exact HR0.out | (with_reducible refine Kd.C_alloc ?_ _) | (with_reducible refine Kd.C_drewN ?_ _) | (with_reducible refine Kd.C_drew ?_))); (case side2 => exact HC0.out); rintro e w7 ⟨rfl, hb⟩; have n0_ := Aside0.mk (below_step (by repeat (first | (with_reducible first | exact HB.out | apply below_alloc | apply pw_below_drewN | apply below_drew1) | exact HB.out)) hb); clear HB; have HB := n0_; clear n0_; (try clear hb); (try clear hb2); (try clear hk); (try clear hi)))
        repeat (go_quiet (first | (go_at_call 24; (with_reducible refine (gouacheref04_written.calls k _ _ l0 t101 true _ ?side1 ?side2 A2.out).mono ?_); (case side1 => repeat (first | exact HR0.out | (with_reducible refine Kd.C_alloc ?_ _) | (with_reducible refine Kd.C_drewN ?_ _) | (with_reducible refine Kd.C_drew ?_))); (case side2 => exact HC0.out); rintro e w7 ⟨rfl, hb⟩; have n0_ := Aside0.mk (below_step (by repeat (first | (with_reducible first | exact HB.out | apply below_alloc | apply pw_below_drewN | apply below_drew1) | exact HB.out)) hb); clear HB; have HB := n0_; clear n0_; (try clear hb); (try clear hb2); (try clear hk); (try clear hi))); try go_wp2_with (first | (go_at_call 24; (with_reducible refine (gouacheref04_written.calls k _ _ l0 t101 true _ ?side1 ?side2 A2.out).mono ?_); (case side1 => repeat (first | exact HR0.out | (with_reducible refine Kd.C_alloc ?_ _) | (with_reducible refine Kd.C_drewN ?_ _) | (with_reducible refine Kd.C_drew ?_))); (case side2 => exact HC0.out); rintro e w7 ⟨rfl, hb⟩; have n0_ := Aside0.mk (below_step (by repeat (first | (with_reducible first | exact HB.out | apply below_alloc | apply pw_below_drewN | apply below_drew1) | exact HB.out)) hb); clear HB; have HB := n0_; clear n0_; (try clear hb); (try clear hb2); (try clear hk); (try clear hi))))
        go_ret3
        exact ⟨by first | rfl | (simp [errW_none, errW_some] <;> rfl) | (simp [*, errW_none, errW_some] <;> rfl), by repeat (first | (with_reducible first | exact HB.out | apply below_alloc | apply pw_below_drewN | apply below_drew1) | exact HB.out)⟩
      · rw [if_neg c6] at H
        have c6b0 : (t101.toList == ([111, 100, 100] : List UInt8)) = false := beq_eq_false_iff_ne.mpr c6
        have c6b1 : (t101.toList != ([111, 100, 100] : List UInt8)) = true := bne_iff_ne.mpr c6
        replace H := Option.bind_eq_some_iff.mp H
        obtain ⟨⟨t103, t104⟩, A80, H⟩ := H
        replace H : (if t104 = true then (some (0, t103, true)) else (gouacheref04_Parse.l0 k t101 0)) = some (r1, r2, r3) := H
        have A8 := Aside0.mk A80
        clear A80
        by_cases c9 : t104 = true
        · subst c9
          have H1 : (some (0, t103, true)) = some (r1, r2, r3) := by rw [if_pos rfl] at H; exact H
          clear H
          have H := H1
          clear H1
          simp only [Option.some.injEq, Prod.mk.injEq] at H
          obtain ⟨rfl, rfl, rfl⟩ := H
          go_enter Tryd.func16, Tryd.ntmps16
          go_wp2_with (first | (go_at_call 24; (with_reducible refine (gouacheref04_written.calls k _ _ l0 t101 true _ ?side1 ?side2 A2.out).mono ?_); (case side1 => repeat (first | exact HR0.out | (with_reducible refine Kd.C_alloc ?_ _) | (with_reducible refine Kd.C_drewN ?_ _) | (with_reducible refine Kd.C_drew ?_))); (case side2 => exact HC0.out); rintro e w10 ⟨rfl, hb⟩; have n0_ := Aside0.mk (below_step (by repeat (first | (with_reducible first | exact HB.out | apply below_alloc | apply pw_below_drewN | apply below_drew1) | exact HB.out)) hb); clear HB; have HB := n0_; clear n0_; (try clear hb); (try clear hb2); (try clear hk); (try clear hi)) | (go_at_call 25; (with_reducible refine (gouacheref02_Whole.calls k t101 t103 true _ A8.out).mono ?_); rintro e w' ⟨rfl, ⟨nd, rfl⟩⟩; (try first | exact ⟨rfl, _, World.drewN_drewN _ _ _⟩ | exact ⟨rfl, _, Eq.trans (World.drewN_drewN _ _ _) (congrArg (World.drewN _) (Nat.add_assoc _ _ _))⟩)))
          repeat (go_quiet (first | (go_at_call 24; (with_reducible refine (gouacheref04_written.calls k _ _ l0 t101 true _ ?side1 ?side2 A2.out).mono ?_); (case side1 => repeat (first | exact HR0.out | (with_reducible refine Kd.C_alloc ?_ _) | (with_reducible refine Kd.C_drewN ?_ _) | (with_reducible refine Kd.C_drew ?_))); (case side2 => exact HC0.out); rintro e w10 ⟨rfl, hb⟩; have n0_ := Aside0.mk (below_step (by repeat (first | (with_reducible first | exact HB.out | apply below_alloc | apply pw_below_drewN | apply below_drew1) | exact HB.out)) hb); clear HB; have HB := n0_; clear n0_; (try clear hb); (try clear hb2); (try clear hk); (try clear hi)) | (go_at_call 25; (with_reducible refine (gouacheref02_Whole.calls k t101 t103 true _ A8.out).mono ?_); rintro e w' ⟨rfl, ⟨nd, rfl⟩⟩; (try first | exact ⟨rfl, _, World.drewN_drewN _ _ _⟩ | exact ⟨rfl, _, Eq.trans (World.drewN_drewN _ _ _) (congrArg (World.drewN _) (Nat.add_assoc _ _ _))⟩))); try go_wp2_with (first | (go_at_call 24; (with_reducible refine (gouacheref04_written.calls k _ _ l0 t101 true _ ?side1 ?side2 A2.out).mono ?_); (case side1 => repeat (first | exact HR0.out | (with_reducible refine Kd.C_alloc ?_ _) | (with_reducible refine Kd.C_drewN ?_ _) | (with_reducible refine Kd.C_drew ?_))); (case side2 => exact HC0.out); rintro e w10 ⟨rfl, hb⟩; have n0_ := Aside0.mk (below_step (by repeat (first | (with_reducible first | exact HB.out | apply below_alloc | apply pw_below_drewN | apply below_drew1) | exact HB.out)) hb); clear HB; have HB := n0_; clear n0_; (try clear hb); (try clear hb2); (try clear hk); (try clear hi)) | (go_at_call 25; (with_reducible refine (gouacheref02_Whole.calls k t101 t103 true _ A8.out).mono ?_); rintro e w' ⟨rfl, ⟨nd, rfl⟩⟩; (try first | exact ⟨rfl, _, World.drewN_drewN _ _ _⟩ | exact ⟨rfl, _, Eq.trans (World.drewN_drewN _ _ _) (congrArg (World.drewN _) (Nat.add_assoc _ _ _))⟩))))
          go_ret3
          exact ⟨by first | rfl | (simp [errW_none, errW_some] <;> rfl) | (simp [*, errW_none, errW_some] <;> rfl), by repeat (first | (with_reducible first | exact HB.out | apply below_alloc | apply pw_below_drewN | apply below_drew1) | exact HB.out)⟩
        · replace c9 := Bool.eq_false_iff.mpr c9
          subst c9
          have H1 : (gouacheref04_Parse.l0 k t101 0) = some (r1, r2, r3) := by rw [if_neg (show ¬ (false = true) by decide)] at H; exact H
          clear H
          have H := H1
          clear H1
          have HC11 := Aside0.mk H
          clear H
          go_enter Tryd.func16, Tryd.ntmps16
          go_upto_block 1 with (first | (go_at_call 24; (with_reducible refine (gouacheref04_written.calls k _ _ l0 t101 true _ ?side1 ?side2 A2.out).mono ?_); (case side1 => repeat (first | exact HR0.out | (with_reducible refine Kd.C_alloc ?_ _) | (with_reducible refine Kd.C_drewN ?_ _) | (with_reducible refine Kd.C_drew ?_))); (case side2 => exact HC0.out); rintro e w12 ⟨rfl, hb⟩; have n0_ := Aside0.mk (below_step (by repeat (first | (with_reducible first | exact HB.out | apply below_alloc | apply pw_below_drewN | apply below_drew1) | exact HB.out)) hb); clear HB; have HB := n0_; clear n0_; (try clear hb); (try clear hb2); (try clear hk); (try clear hi)) | (go_at_call 25; (with_reducible refine (gouacheref02_Whole.calls k t101 t103 false _ A8.out).mono ?_); rintro e w' ⟨rfl, ⟨nd, rfl⟩⟩; (try first | exact ⟨rfl, _, World.drewN_drewN _ _ _⟩ | exact ⟨rfl, _, Eq.trans (World.drewN_drewN _ _ _) (congrArg (World.drewN _) (Nat.add_assoc _ _ _))⟩)))
          repeat (go_quiet (first | (go_at_call 24; (with_reducible refine (gouacheref04_written.calls k _ _ l0 t101 true _ ?side1 ?side2 A2.out).mono ?_); (case side1 => repeat (first | exact HR0.out | (with_reducible refine Kd.C_alloc ?_ _) | (with_reducible refine Kd.C_drewN ?_ _) | (with_reducible refine Kd.C_drew ?_))); (case side2 => exact HC0.out); rintro e w12 ⟨rfl, hb⟩; have n0_ := Aside0.mk (below_step (by repeat (first | (with_reducible first | exact HB.out | apply below_alloc | apply pw_below_drewN | apply below_drew1) | exact HB.out)) hb); clear HB; have HB := n0_; clear n0_; (try clear hb); (try clear hb2); (try clear hk); (try clear hi)) | (go_at_call 25; (with_reducible refine (gouacheref02_Whole.calls k t101 t103 false _ A8.out).mono ?_); rintro e w' ⟨rfl, ⟨nd, rfl⟩⟩; (try first | exact ⟨rfl, _, World.drewN_drewN _ _ _⟩ | exact ⟨rfl, _, Eq.trans (World.drewN_drewN _ _ _) (congrArg (World.drewN _) (Nat.add_assoc _ _ _))⟩))); go_upto_block 1 with (first | (go_at_call 24; (with_reducible refine (gouacheref04_written.calls k _ _ l0 t101 true _ ?side1 ?side2 A2.out).mono ?_); (case side1 => repeat (first | exact HR0.out | (with_reducible refine Kd.C_alloc ?_ _) | (with_reducible refine Kd.C_drewN ?_ _) | (with_reducible refine Kd.C_drew ?_))); (case side2 => exact HC0.out); rintro e w12 ⟨rfl, hb⟩; have n0_ := Aside0.mk (below_step (by repeat (first | (with_reducible first | exact HB.out | apply below_alloc | apply pw_below_drewN | apply below_drew1) | exact HB.out)) hb); clear HB; have HB := n0_; clear n0_; (try clear hb); (try clear hb2); (try clear hk); (try clear hi)) | (go_at_call 25; (with_reducible refine (gouacheref02_Whole.calls k t101 t103 false _ A8.out).mono ?_); rintro e w' ⟨rfl, ⟨nd, rfl⟩⟩; (try first | exact ⟨rfl, _, World.drewN_drewN _ _ _⟩ | exact ⟨rfl, _, Eq.trans (World.drewN_drewN _ _ _) (congrArg (World.drewN _) (Nat.add_assoc _ _ _))⟩))))
          (try simp only [Act.put, List.setIfInBounds_toArray, List.set_cons_zero, List.set_cons_succ])
          go_cut [9] (fun v9 wc => ∃ (kq : Nat) (x9_10 : Int), v9 = .int .i64 x9_10 ∧ Aside0 (gouacheref04_Parse.j1 kq t101 x9_10 = some (r1, r2, r3)) ∧ Aside0 (kq ≤ k) ∧ Aside0 (Below w.heap.size w wc))
          case first =>
            have H := HC11.out
            clear HC11
            have H' := Aside0.mk H
            clear H
            go_wp2
            repeat (go_quiet (fail); try go_wp2)
            go_loopg [9] k (fun kq v9 w' => ∃ (x9_1 : Int), v9 = .int .i64 x9_1 ∧ Aside0 (gouacheref04_Parse.l0 kq t101 x9_1 = some (r1, r2, r3)) ∧ Aside0 (kq ≤ k) ∧ Aside0 (Below w.heap.size w w'))
            case atStart => exact ⟨(0), (by first | rfl | (simp; done) | (simp [*]; done)), H', ⟨Nat.le_refl _⟩, ⟨by repeat (first | (with_reducible first | exact HB.out | apply below_alloc | apply pw_below_drewN | apply below_drew1) | exact HB.out)⟩⟩
            case round =>
              clear H'
              try clear c1
              try clear p2
              try clear c3
              try clear c4
              try clear c4b0
              try clear c4b1
              try clear c6
              try clear c6b0
              try clear c6b1
              try clear c9
              obtain ⟨x9_1, rfl, HA, HK1, HB⟩ := hrel
              cases gk with
              | zero => exact absurd HA.out (by simp [gouacheref04_Parse.l0])
              | succ k1 =>
                have H := HA.out
                clear HA
                simp only [gouacheref04_Parse.l0] at H
                by_cases c13 : x9_1 < (t101.size : Int)
                · rw [if_pos c13] at H
                  have c13b0 : decide (x9_1 < (t101.size : Int)) = true := decide_eq_true c13
                  clear c13
                  (first | rw [c13b0] | (simp only [i64_w, i32_w]; rw [c13b0]) | skip)
                  by_cases c14 : 0 ≤ x9_1
                  · rw [if_pos c14] at H
                    have c14b0 : decide (0 ≤ x9_1) = true := decide_eq_true c14
                    clear c14
                    by_cases c16 : (bt t101 x9_1) = 110
                    · rw [if_pos c16] at H
                      have c16b0 : ((bt t101 x9_1) == 110) = true := beq_iff_eq.mpr c16
                      have c16b1 : ((bt t101 x9_1) != 110) = false := bne_eq_false_iff_eq.mpr c16
                      clear c16
                      have H' := Aside0.mk H
                      clear H
                      have p15 : 0 ≤ (x9_1 : Int) := of_decide_eq_true (by first | (with_reducible assumption) | assumption)
                      have q15 : x9_1 < (t101.size : Int) := of_decide_eq_true (by first | (with_reducible assumption) | assumption)
                      have hx15 := bt_at t101 x9_1
                      replace p15 := eq_true p15
                      replace q15 := eq_true q15
                      go_wp2
                      repeat (go_quiet (fail); try go_wp2)
                      go_meet
                      case rel => exact ⟨_, (x9_1), (by first | rfl | (simp; done) | (simp [*]; done)), H', ⟨by have := HK1.out; first | omega | exact Nat.le_refl _⟩, ⟨by repeat (first | (with_reducible first | exact HB.out | apply below_alloc | apply pw_below_drewN | apply below_drew1) | exact HB.out)⟩⟩
                    · rw [if_neg c16] at H
                      have c16b0 : ((bt t101 x9_1) == 110) = false := beq_eq_false_iff_ne.mpr c16
                      have c16b1 : ((bt t101 x9_1) != 110) = true := bne_iff_ne.mpr c16
                      have H' := Aside0.mk H
                      clear H
                      have p15 : 0 ≤ (x9_1 : Int) := of_decide_eq_true (by first | (with_reducible assumption) | assumption)
                      have q15 : x9_1 < (t101.size : Int) := of_decide_eq_true (by first | (with_reducible assumption) | assumption)
                      have hx15 := bt_at t101 x9_1
                      replace p15 := eq_true p15
                      replace q15 := eq_true q15
                      go_wp2
                      repeat (go_quiet (fail); try go_wp2)
                      go_roundg k1
                      case measure => have := HK1.out; omega
                      case rel => exact ⟨(wrap64 (x9_1 + 1)), (by first | rfl | (simp; done) | (simp [*]; done)), H', ⟨by have := HK1.out; omega⟩, ⟨by repeat (first | (with_reducible first | exact HB.out | apply below_alloc | apply pw_below_drewN | apply below_drew1) | exact HB.out)⟩⟩
                  · rw [if_neg c14] at H
                    exact absurd H (by simp)
                · rw [if_neg c13] at H
                  have c13b0 : decide (x9_1 < (t101.size : Int)) = false := decide_eq_false c13
                  clear c13
                  (first | rw [c13b0] | (simp only [i64_w, i32_w]; rw [c13b0]) | skip)
                  have H' := Aside0.mk H
                  clear H
                  go_wp2
                  repeat (go_quiet (fail); try go_wp2)
                  go_meet
                  case rel => exact ⟨_, (x9_1), (by first | rfl | (simp; done) | (simp [*]; done)), H', ⟨by have := HK1.out; first | omega | exact Nat.le_refl _⟩, ⟨by repeat (first | (with_reducible first | exact HB.out | apply below_alloc | apply pw_below_drewN | apply below_drew1) | exact HB.out)⟩⟩
          case rest =>
            clear HC11
            try clear c1
            try clear p1
            try clear q1
            try clear hx1
            try clear p2
            try clear c3
            try clear c4
            try clear c4b0
            try clear c4b1
            try clear c6
            try clear c6b0
            try clear c6b1
            try clear p6
            try clear c9
            try clear c13
            try clear c13b0
            try clear c14
            try clear c14b0
            try clear p15
            try clear q15
            try clear hx15
            try clear c16
            try clear c16b0
            try clear c16b1
            try clear p15
            try clear p2
            try clear q15
            obtain ⟨kq, x9_10, rfl, HA, HJ10, HB⟩ := hcut
            cases kq with
            | zero => exact absurd HA.out (by simp [gouacheref04_Parse.j1])
            | succ kj10 =>
              have H := HA.out
              clear HA
              simp only [gouacheref04_Parse.j1] at H
              by_cases c17 : x9_10 = (t101.size : Int)
              · rw [if_pos c17] at H
                have c17b0 : (x9_10 == (t101.size : Int)) = true := beq_iff_eq.mpr c17
                have c17b1 : (x9_10 != (t101.size : Int)) = false := bne_eq_false_iff_eq.mpr c17
                clear c17
                simp only [Option.some.injEq, Prod.mk.injEq] at H
                obtain ⟨rfl, rfl, rfl⟩ := H
                go_wp2
                repeat (go_quiet (fail); try go_wp2)
                go_ret3
                exact ⟨by first | rfl | (simp [errW_none, errW_some] <;> rfl) | (simp [*, errW_none, errW_some] <;> rfl), by repeat (first | (with_reducible first | exact HB.out | apply below_alloc | apply pw_below_drewN | apply below_drew1) | exact HB.out)⟩
              · rw [if_neg c17] at H
                have c17b0 : (x9_10 == (t101.size : Int)) = false := beq_eq_false_iff_ne.mpr c17
                have c17b1 : (x9_10 != (t101.size : Int)) = true := bne_iff_ne.mpr c17
                by_cases c18 : 0 ≤ x9_10
                · rw [if_pos c18] at H
                  have c18b0 := eq_true c18
                  have c18b1 : decide (0 ≤ x9_10) = true := decide_eq_true c18
                  clear c18
                  by_cases c19 : x9_10 ≤ (t101.size : Int)
                  · rw [if_pos c19] at H
                    have c19b0 := eq_true c19
                    have c19b1 : decide (x9_10 ≤ (t101.size : Int)) = true := decide_eq_true c19
                    clear c19
                    obtain ⟨ji20, hji20⟩ : ∃ j_ : Int, (wrap64 (x9_10 + 1)) = j_ := ⟨_, rfl⟩
                    replace H : (if 0 ≤ (ji20) then (if (ji20) ≤ (t101.size : Int) then (if (t101.extract 0 (x9_10 : Int).toNat).toList = ([] : List UInt8) then (gouacheref04_Parse.j2 kj10 (t101.extract 0 (x9_10 : Int).toNat) (t101.extract ((ji20) : Int).toNat t101.size) true) else (if (t101.extract 0 (x9_10 : Int).toNat).toList = ([43] : List UInt8) then (gouacheref04_Parse.j2 kj10 (t101.extract 0 (x9_10 : Int).toNat) (t101.extract ((ji20) : Int).toNat t101.size) true) else (gouacheref04_Parse.j2 kj10 (t101.extract 0 (x9_10 : Int).toNat) (t101.extract ((ji20) : Int).toNat t101.size) ((t101.extract 0 (x9_10 : Int).toNat).toList == ([45] : List UInt8))))) else (none)) else (none)) = some (r1, r2, r3) := by first | (rw [hji20] at H; exact H) | (simp only [hji20] at H ⊢; exact H)
                    have hji20w : (IntKind.i64.wrap (x9_10 + 1)) = ji20 := (i64_w _).trans hji20
                    by_cases c21 : 0 ≤ (ji20)
                    · rw [if_pos c21] at H
                      have c21b0 := eq_true c21
                      have c21b1 : decide (0 ≤ (ji20)) = true := decide_eq_true c21
                      clear c21
                      by_cases c22 : (ji20) ≤ (t101.size : Int)
                      · rw [if_pos c22] at H
                        have c22b0 := eq_true c22
                        have c22b1 : decide ((ji20) ≤ (t101.size : Int)) = true := decide_eq_true c22
                        clear c22
                        have HC23 := Aside0.mk H
                        clear H
                        go_upto_region 17 with (fail)
                        repeat (go_quiet (fail); go_upto_region 17 with (fail))
                        go_cut [69] (fun v69 wc => ∃ (kq : Nat) (x69_22 : Bool), v69 = .bool x69_22 ∧ Aside0 (gouacheref04_Parse.j2 kq (t101.extract 0 (x9_10 : Int).toNat) (t101.extract ((ji20) : Int).toNat t101.size) x69_22 = some (r1, r2, r3)) ∧ Aside0 (kq ≤ kj10) ∧ Aside0 (Below w.heap.size w wc))
                        case first =>
                          have H := HC23.out
                          clear HC23
                          by_cases c24 : (t101.extract 0 (x9_10 : Int).toNat).toList = ([] : List UInt8)
                          · rw [if_pos c24] at H
                            have c24b0 : ((t101.extract 0 (x9_10 : Int).toNat).toList == ([] : List UInt8)) = true := beq_iff_eq.mpr c24
                            have c24b1 : ((t101.extract 0 (x9_10 : Int).toNat).toList != ([] : List UInt8)) = false := bne_eq_false_iff_eq.mpr c24
                            clear c24
                            (first | rw [c24b0] | (simp only [i64_w, i32_w]; rw [c24b0]) | skip)
                            have H' := Aside0.mk H
                            clear H
                            go_wp2
                            repeat (go_quiet (fail); try go_wp2)
                            go_meet
                            case rel => exact ⟨_, (true), (by first | rfl | (simp; done) | (simp [*]; done)), H', ⟨by have := HJ10.out; first | omega | exact Nat.le_refl _⟩, ⟨by repeat (first | (with_reducible first | exact HB.out | apply below_alloc | apply pw_below_drewN | apply below_drew1) | exact HB.out)⟩⟩
                          · rw [if_neg c24] at H
                            have c24b0 : ((t101.extract 0 (x9_10 : Int).toNat).toList == ([] : List UInt8)) = false := beq_eq_false_iff_ne.mpr c24
                            have c24b1 : ((t101.extract 0 (x9_10 : Int).toNat).toList != ([] : List UInt8)) = true := bne_iff_ne.mpr c24
                            (first | rw [c24b0] | (simp only [i64_w, i32_w]; rw [c24b0]) | skip)
                            by_cases c25 : (t101.extract 0 (x9_10 : Int).toNat).toList = ([43] : List UInt8)
                            · rw [if_pos c25] at H
                              have c25b0 : ((t101.extract 0 (x9_10 : Int).toNat).toList == ([43] : List UInt8)) = true := beq_iff_eq.mpr c25
                              have c25b1 : ((t101.extract 0 (x9_10 : Int).toNat).toList != ([43] : List UInt8)) = false := bne_eq_false_iff_eq.mpr c25
                              clear c25
                              have H' := Aside0.mk H
                              clear H
                              go_wp2
                              repeat (go_quiet (fail); try go_wp2)
                              go_meet
                              case rel => exact ⟨_, (true), (by first | rfl | (simp; done) | (simp [*]; done)), H', ⟨by have := HJ10.out; first | omega | exact Nat.le_refl _⟩, ⟨by repeat (first | (with_reducible first | exact HB.out | apply below_alloc | apply pw_below_drewN | apply below_drew1) | exact HB.out)⟩⟩
                            · rw [if_neg c25] at H
                              have c25b0 : ((t101.extract 0 (x9_10 : Int).toNat).toList == ([43] : List UInt8)) = false := beq_eq_false_iff_ne.mpr c25
                              have c25b1 : ((t101.extract 0 (x9_10 : Int).toNat).toList != ([43] : List UInt8)) = true := bne_iff_ne.mpr c25
                              have H' := Aside0.mk H
                              clear H
                              go_wp2
                              repeat (go_quiet (fail); try go_wp2)
                              go_meet
                              case rel => exact ⟨_, (((t101.extract 0 (x9_10 : Int).toNat).toList == ([45] : List UInt8))), (by first | rfl | (simp; done) | (simp [*]; done)), H', ⟨by have := HJ10.out; first | omega | exact Nat.le_refl _⟩, ⟨by repeat (first | (with_reducible first | exact HB.out | apply below_alloc | apply pw_below_drewN | apply below_drew1) | exact HB.out)⟩⟩
                        case rest =>
                          clear HC23
                          try clear c1
                          try clear p1
                          try clear q1
                          try clear hx1
                          try clear c2
                          try clear p2
                          try clear c3
                          try clear c4
                          try clear c4b0
                          try clear c4b1
                          try clear c6
                          try clear c6b0
                          try clear c6b1
                          try clear p6
                          try clear c9
                          try clear c13
                          try clear c13b0
                          try clear c14
                          try clear c14b0
                          try clear p15
                          try clear q15
                          try clear hx15
                          try clear c16
                          try clear c16b0
                          try clear c16b1
                          try clear c17
                          try clear c17b0
                          try clear c17b1
                          try clear c18
                          try clear c18b0
                          try clear c18b1
                          try clear c19
                          try clear c19b0
                          try clear c19b1
                          try clear c21
                          try clear c21b0
                          try clear c21b1
                          try clear c22
                          try clear c22b0
                          try clear c22b1
                          try clear c24
                          try clear c24b0
                          try clear c24b1
                          try clear c25
                          try clear c25b0
                          try clear c25b1
                          try clear p1
                          try clear p15
                          try clear p2
                          try clear p6
                          try clear q1
                          try clear q15
                          obtain ⟨kq, x69_22, rfl, HA, HJ22, HB⟩ := hcut
                          cases kq with
                          | zero => exact absurd HA.out (by simp [gouacheref04_Parse.j2])
                          | succ kj22 =>
                            have H := HA.out
                            clear HA
                            simp only [gouacheref04_Parse.j2] at H
                            have HC26 := Aside0.mk H
                            clear H
                            go_upto_if 69 with (fail)
                            repeat (go_quiet (fail); go_upto_if 69 with (fail))
                            go_cut [10] (fun v10 wc => ∃ (kq : Nat) (x10_25 : ByteArray), v10 = .string x10_25 ∧ Aside0 (gouacheref04_Parse.j3 kq x10_25 (t101.extract ((ji20) : Int).toNat t101.size) = some (r1, r2, r3)) ∧ Aside0 (kq ≤ kj22) ∧ Aside0 (Below w.heap.size w wc))
                            case first =>
                              have H := HC26.out
                              clear HC26
                              by_cases c27 : x69_22 = true
                              · subst c27
                                have H1 : (if (t101.extract 0 (x9_10 : Int).toNat).size + 1 ≤ 9223372036854775807 then (gouacheref04_Parse.j3 kj22 ((t101.extract 0 (x9_10 : Int).toNat) ++ (⟨#[49]⟩ : ByteArray)) (t101.extract ((ji20) : Int).toNat t101.size)) else (none)) = some (r1, r2, r3) := by rw [if_pos rfl] at H; exact H
                                clear H
                                have H := H1
                                clear H1
                                by_cases c28 : (t101.extract 0 (x9_10 : Int).toNat).size + 1 ≤ 9223372036854775807
                                · rw [if_pos c28] at H
                                  have c28b0 := eq_true c28
                                  have c28b1 : decide ((t101.extract 0 (x9_10 : Int).toNat).size + 1 ≤ 9223372036854775807) = true := decide_eq_true c28
                                  try have c28b2 : (9223372036854775807 < (t101.extract 0 (x9_10 : Int).toNat).size + 1) = False := eq_false (Nat.not_lt.2 c28)
                                  have c28s0 : (min x9_10.toNat t101.size + 1 ≤ 9223372036854775807) = True := eq_true (by have h_ := c28; simpa using h_)
                                  have c28s1 : (9223372036854775807 < min x9_10.toNat t101.size + 1) = False := eq_false (by have h_ := of_eq_true c28s0; omega)
                                  have c28s2 : (min x9_10.toNat t101.size < 9223372036854775807) = True := eq_true (by have h_ := of_eq_true c28s0; omega)
                                  have c28s3 : (9223372036854775807 ≤ min x9_10.toNat t101.size) = False := eq_false (by have h_ := of_eq_true c28s0; omega)
                                  have H' := Aside0.mk H
                                  clear H
                                  go_wp2
                                  repeat (go_quiet (fail); try go_wp2)
                                  go_meet
                                  case rel => exact ⟨_, ((t101.extract 0 (x9_10 : Int).toNat) ++ (⟨#[49]⟩ : ByteArray)), (by first | rfl | (simp; done) | (simp [*]; done)), H', ⟨by have := HJ10.out; have := HJ22.out; first | omega | exact Nat.le_refl _⟩, ⟨by repeat (first | (with_reducible first | exact HB.out | apply below_alloc | apply pw_below_drewN | apply below_drew1) | exact HB.out)⟩⟩
                                · rw [if_neg c28] at H
                                  exact absurd H (by simp)
                              · replace c27 := Bool.eq_false_iff.mpr c27
                                subst c27
                                have H1 : (gouacheref04_Parse.j3 kj22 (t101.extract 0 (x9_10 : Int).toNat) (t101.extract ((ji20) : Int).toNat t101.size)) = some (r1, r2, r3) := by rw [if_neg (show ¬ (false = true) by decide)] at H; exact H
                                clear H
                                have H := H1
                                clear H1
                                have H' := Aside0.mk H
                                clear H
                                go_wp2
                                repeat (go_quiet (fail); try go_wp2)
                                go_meet
                                case rel => exact ⟨_, ((t101.extract 0 (x9_10 : Int).toNat)), (by first | rfl | (simp; done) | (simp [*]; done)), H', ⟨by have := HJ10.out; have := HJ22.out; first | omega | exact Nat.le_refl _⟩, ⟨by repeat (first | (with_reducible first | exact HB.out | apply below_alloc | apply pw_below_drewN | apply below_drew1) | exact HB.out)⟩⟩
                            case rest =>
                              clear HC26
                              try clear c1
                              try clear p1
                              try clear q1
                              try clear hx1
                              try clear c2
                              try clear p2
                              try clear c3
                              try clear c4
                              try clear c4b0
                              try clear c4b1
                              try clear c6
                              try clear c6b0
                              try clear c6b1
                              try clear p6
                              try clear c9
                              try clear c13
                              try clear c13b0
                              try clear c14
                              try clear c14b0
                              try clear p15
                              try clear q15
                              try clear hx15
                              try clear c16
                              try clear c16b0
                              try clear c16b1
                              try clear c17
                              try clear c17b0
                              try clear c17b1
                              try clear c18
                              try clear c18b0
                              try clear c18b1
                              try clear c19
                              try clear c19b0
                              try clear c19b1
                              try clear c21
                              try clear c21b0
                              try clear c21b1
                              try clear c22
                              try clear c22b0
                              try clear c22b1
                              try clear c24
                              try clear c24b0
                              try clear c24b1
                              try clear c25
                              try clear c25b0
                              try clear c25b1
                              try clear c27
                              try clear c28
                              try clear c28b0
                              try clear c28b1
                              try clear c28b2
                              try clear p1
                              try clear p15
                              try clear p2
                              try clear p6
                              try clear q1
                              try clear q15
                              obtain ⟨kq, x10_25, rfl, HA, HJ25, HB⟩ := hcut
                              cases kq with
                              | zero => exact absurd HA.out (by simp [gouacheref04_Parse.j3])
                              | succ kj25 =>
                                have H := HA.out
                                clear HA
                                simp only [gouacheref04_Parse.j3] at H
                                replace H := Option.bind_eq_some_iff.mp H
                                obtain ⟨⟨t105, t106⟩, A290, H⟩ := H
                                replace H : (if t106 = true then (if (t101.extract ((ji20) : Int).toNat t101.size).toList = ([] : List UInt8) then (some (t105, 0, true)) else ((gouacheref04_blank.f (t101.extract ((ji20) : Int).toNat t101.size)).bind fun t107 => (if t107.toList = ([] : List UInt8) then (gouacheref04_Parse.j4 kj25 t107 t105 true) else (if 0 < (t107.size : Int) then (if (bt t107 0) = 43 then (gouacheref04_Parse.j4 kj25 t107 t105 false) else (gouacheref04_Parse.j4 kj25 t107 t105 ((bt t107 0) != 45))) else (none))))) else (some (0, 0, false))) = some (r1, r2, r3) := H
                                have A29 := Aside0.mk A290
                                clear A290
                                by_cases c30 : t106 = true
                                · subst c30
                                  have H1 : (if (t101.extract ((ji20) : Int).toNat t101.size).toList = ([] : List UInt8) then (some (t105, 0, true)) else ((gouacheref04_blank.f (t101.extract ((ji20) : Int).toNat t101.size)).bind fun t107 => (if t107.toList = ([] : List UInt8) then (gouacheref04_Parse.j4 kj25 t107 t105 true) else (if 0 < (t107.size : Int) then (if (bt t107 0) = 43 then (gouacheref04_Parse.j4 kj25 t107 t105 false) else (gouacheref04_Parse.j4 kj25 t107 t105 ((bt t107 0) != 45))) else (none))))) = some (r1, r2, r3) := by rw [if_pos rfl] at H; exact H
                                  clear H
                                  have H := H1
                                  clear H1
                                  by_cases c31 : (t101.extract ((ji20) : Int).toNat t101.size).toList = ([] : List UInt8)
                                  · rw [if_pos c31] at H
                                    have c31b0 : ((t101.extract ((ji20) : Int).toNat t101.size).toList == ([] : List UInt8)) = true := beq_iff_eq.mpr c31
                                    have c31b1 : ((t101.extract ((ji20) : Int).toNat t101.size).toList != ([] : List UInt8)) = false := bne_eq_false_iff_eq.mpr c31
                                    clear c31
                                    simp only [Option.some.injEq, Prod.mk.injEq] at H
                                    obtain ⟨rfl, rfl, rfl⟩ := H
                                    go_wp2_with (first | (go_at_call 25; (with_reducible refine (gouacheref02_Whole.calls kj25 x10_25 t105 true _ A29.out).mono ?_); rintro e w' ⟨rfl, ⟨nd, rfl⟩⟩; (try first | exact ⟨rfl, _, World.drewN_drewN _ _ _⟩ | exact ⟨rfl, _, Eq.trans (World.drewN_drewN _ _ _) (congrArg (World.drewN _) (Nat.add_assoc _ _ _))⟩)))
                                    repeat (go_quiet (first | (go_at_call 25; (with_reducible refine (gouacheref02_Whole.calls kj25 x10_25 t105 true _ A29.out).mono ?_); rintro e w' ⟨rfl, ⟨nd, rfl⟩⟩; (try first | exact ⟨rfl, _, World.drewN_drewN _ _ _⟩ | exact ⟨rfl, _, Eq.trans (World.drewN_drewN _ _ _) (congrArg (World.drewN _) (Nat.add_assoc _ _ _))⟩))); try go_wp2_with (first | (go_at_call 25; (with_reducible refine (gouacheref02_Whole.calls kj25 x10_25 t105 true _ A29.out).mono ?_); rintro e w' ⟨rfl, ⟨nd, rfl⟩⟩; (try first | exact ⟨rfl, _, World.drewN_drewN _ _ _⟩ | exact ⟨rfl, _, Eq.trans (World.drewN_drewN _ _ _) (congrArg (World.drewN _) (Nat.add_assoc _ _ _))⟩))))
                                    go_ret3
                                    exact ⟨by first | rfl | (simp [errW_none, errW_some] <;> rfl) | (simp only [← hji20]; first | rfl | (simp [errW_none, errW_some] <;> rfl)) | (simp [*, errW_none, errW_some] <;> rfl), by repeat (first | (with_reducible first | exact HB.out | apply below_alloc | apply pw_below_drewN | apply below_drew1) | exact HB.out)⟩
                                  · rw [if_neg c31] at H
                                    have c31b0 : ((t101.extract ((ji20) : Int).toNat t101.size).toList == ([] : List UInt8)) = false := beq_eq_false_iff_ne.mpr c31
                                    have c31b1 : ((t101.extract ((ji20) : Int).toNat t101.size).toList != ([] : List UInt8)) = true := bne_iff_ne.mpr c31
                                    replace H := Option.bind_eq_some_iff.mp H
                                    obtain ⟨t107, A320, H⟩ := H
                                    replace H : (if t107.toList = ([] : List UInt8) then (gouacheref04_Parse.j4 kj25 t107 t105 true) else (if 0 < (t107.size : Int) then (if (bt t107 0) = 43 then (gouacheref04_Parse.j4 kj25 t107 t105 false) else (gouacheref04_Parse.j4 kj25 t107 t105 ((bt t107 0) != 45))) else (none))) = some (r1, r2, r3) := H
                                    have A32 := Aside0.mk A320
                                    clear A320
                                    have HC33 := Aside0.mk H
                                    clear H
                                    go_upto_region 25 with (first | (go_at_call 25; (with_reducible refine (gouacheref02_Whole.calls kj25 x10_25 t105 true _ A29.out).mono ?_); rintro e w' ⟨rfl, ⟨nd, rfl⟩⟩; (try first | exact ⟨rfl, _, World.drewN_drewN _ _ _⟩ | exact ⟨rfl, _, Eq.trans (World.drewN_drewN _ _ _) (congrArg (World.drewN _) (Nat.add_assoc _ _ _))⟩)) | (go_at_call 26; (with_reducible refine (gouacheref04_blank.calls (t101.extract ((ji20) : Int).toNat t101.size) t107 _ A32.out).mono ?_); rintro e w' ⟨rfl, ⟨nd, rfl⟩⟩; (try first | exact ⟨rfl, _, World.drewN_drewN _ _ _⟩ | exact ⟨rfl, _, Eq.trans (World.drewN_drewN _ _ _) (congrArg (World.drewN _) (Nat.add_assoc _ _ _))⟩)))
                                    repeat (go_quiet (first | (go_at_call 25; (with_reducible refine (gouacheref02_Whole.calls kj25 x10_25 t105 true _ A29.out).mono ?_); rintro e w' ⟨rfl, ⟨nd, rfl⟩⟩; (try first | exact ⟨rfl, _, World.drewN_drewN _ _ _⟩ | exact ⟨rfl, _, Eq.trans (World.drewN_drewN _ _ _) (congrArg (World.drewN _) (Nat.add_assoc _ _ _))⟩)) | (go_at_call 26; (with_reducible refine (gouacheref04_blank.calls (t101.extract ((ji20) : Int).toNat t101.size) t107 _ A32.out).mono ?_); rintro e w' ⟨rfl, ⟨nd, rfl⟩⟩; (try first | exact ⟨rfl, _, World.drewN_drewN _ _ _⟩ | exact ⟨rfl, _, Eq.trans (World.drewN_drewN _ _ _) (congrArg (World.drewN _) (Nat.add_assoc _ _ _))⟩))); go_upto_region 25 with (first | (go_at_call 25; (with_reducible refine (gouacheref02_Whole.calls kj25 x10_25 t105 true _ A29.out).mono ?_); rintro e w' ⟨rfl, ⟨nd, rfl⟩⟩; (try first | exact ⟨rfl, _, World.drewN_drewN _ _ _⟩ | exact ⟨rfl, _, Eq.trans (World.drewN_drewN _ _ _) (congrArg (World.drewN _) (Nat.add_assoc _ _ _))⟩)) | (go_at_call 26; (with_reducible refine (gouacheref04_blank.calls (t101.extract ((ji20) : Int).toNat t101.size) t107 _ A32.out).mono ?_); rintro e w' ⟨rfl, ⟨nd, rfl⟩⟩; (try first | exact ⟨rfl, _, World.drewN_drewN _ _ _⟩ | exact ⟨rfl, _, Eq.trans (World.drewN_drewN _ _ _) (congrArg (World.drewN _) (Nat.add_assoc _ _ _))⟩))))
                                    (try simp only [Act.put, List.setIfInBounds_toArray, List.set_cons_zero, List.set_cons_succ])
                                    go_cut [95] (fun v95 wc => ∃ (kq : Nat) (x95_32 : Bool), v95 = .bool x95_32 ∧ Aside0 (gouacheref04_Parse.j4 kq t107 t105 x95_32 = some (r1, r2, r3)) ∧ Aside0 (kq ≤ kj25) ∧ Aside0 (Below w.heap.size w wc))
                                    case first =>
                                      have H := HC33.out
                                      clear HC33
                                      by_cases c34 : t107.toList = ([] : List UInt8)
                                      · rw [if_pos c34] at H
                                        have c34b0 : (t107.toList == ([] : List UInt8)) = true := beq_iff_eq.mpr c34
                                        have c34b1 : (t107.toList != ([] : List UInt8)) = false := bne_eq_false_iff_eq.mpr c34
                                        clear c34
                                        (first | rw [c34b0] | (simp only [i64_w, i32_w]; rw [c34b0]) | skip)
                                        have H' := Aside0.mk H
                                        clear H
                                        go_wp2
                                        repeat (go_quiet (fail); try go_wp2)
                                        go_meet
                                        case rel => exact ⟨_, (true), (by first | rfl | (simp; done) | (simp [*]; done)), H', ⟨by have := HJ10.out; have := HJ22.out; have := HJ25.out; first | omega | exact Nat.le_refl _⟩, ⟨by repeat (first | (with_reducible first | exact HB.out | apply below_alloc | apply pw_below_drewN | apply below_drew1) | exact HB.out)⟩⟩
                                      · rw [if_neg c34] at H
                                        have c34b0 : (t107.toList == ([] : List UInt8)) = false := beq_eq_false_iff_ne.mpr c34
                                        have c34b1 : (t107.toList != ([] : List UInt8)) = true := bne_iff_ne.mpr c34
                                        (first | rw [c34b0] | (simp only [i64_w, i32_w]; rw [c34b0]) | skip)
                                        by_cases c35 : 0 < (t107.size : Int)
                                        · rw [if_pos c35] at H
                                          have c35b0 : decide (0 < (t107.size : Int)) = true := decide_eq_true c35
                                          have c35b1 : decide (0 < t107.size) = true := decide_eq_true (by omega)
                                          clear c35
                                          by_cases c37 : (bt t107 0) = 43
                                          · rw [if_pos c37] at H
                                            have c37b0 : ((bt t107 0) == 43) = true := beq_iff_eq.mpr c37
                                            have c37b1 : ((bt t107 0) != 43) = false := bne_eq_false_iff_eq.mpr c37
                                            clear c37
                                            have H' := Aside0.mk H
                                            clear H
                                            have p36 : 0 ≤ (0 : Int) := (by omega)
                                            have q36 : 0 < t107.size := (by have : (0 : Int) < (t107.size : Int) := of_decide_eq_true (by first | (with_reducible assumption) | assumption); omega)
                                            have hx36 : ∀ h : 0 < t107.size, ((t107[0]'h).toNat : Int) = bt t107 0 := bt_at t107 0
                                            clear p36
                                            have qi36 : (0 < (t107.size : Int)) = True := eq_true (of_decide_eq_true (by first | (with_reducible assumption) | assumption))
                                            replace q36 := eq_true q36
                                            go_wp2
                                            repeat (go_quiet (fail); try go_wp2)
                                            go_meet
                                            case rel => exact ⟨_, (false), (by first | rfl | (simp; done) | (simp [*]; done)), H', ⟨by have := HJ10.out; have := HJ22.out; have := HJ25.out; first | omega | exact Nat.le_refl _⟩, ⟨by repeat (first | (with_reducible first | exact HB.out | apply below_alloc | apply pw_below_drewN | apply below_drew1) | exact HB.out)⟩⟩
                                          · rw [if_neg c37] at H
                                            have c37b0 : ((bt t107 0) == 43) = false := beq_eq_false_iff_ne.mpr c37
                                            have c37b1 : ((bt t107 0) != 43) = true := bne_iff_ne.mpr c37
                                            have H' := Aside0.mk H
                                            clear H
                                            have p36 : 0 ≤ (0 : Int) := (by omega)
                                            have q36 : 0 < t107.size := (by have : (0 : Int) < (t107.size : Int) := of_decide_eq_true (by first | (with_reducible assumption) | assumption); omega)
                                            have hx36 : ∀ h : 0 < t107.size, ((t107[0]'h).toNat : Int) = bt t107 0 := bt_at t107 0
                                            clear p36
                                            have qi36 : (0 < (t107.size : Int)) = True := eq_true (of_decide_eq_true (by first | (with_reducible assumption) | assumption))
                                            replace q36 := eq_true q36
                                            have p38 : 0 ≤ (0 : Int) := (by omega)
                                            have q38 : 0 < t107.size := (by have : (0 : Int) < (t107.size : Int) := of_decide_eq_true (by first | (with_reducible assumption) | assumption); omega)
                                            have hx38 : ∀ h : 0 < t107.size, ((t107[0]'h).toNat : Int) = bt t107 0 := bt_at t107 0
                                            clear p38
                                            have qi38 : (0 < (t107.size : Int)) = True := eq_true (of_decide_eq_true (by first | (with_reducible assumption) | assumption))
                                            replace q38 := eq_true q38
                                            go_wp2
                                            repeat (go_quiet (fail); try go_wp2)
                                            go_meet
                                            case rel => exact ⟨_, (((bt t107 0) != 45)), (by first | rfl | (simp; done) | (simp [*]; done)), H', ⟨by have := HJ10.out; have := HJ22.out; have := HJ25.out; first | omega | exact Nat.le_refl _⟩, ⟨by repeat (first | (with_reducible first | exact HB.out | apply below_alloc | apply pw_below_drewN | apply below_drew1) | exact HB.out)⟩⟩
                                        · rw [if_neg c35] at H
                                          exact absurd H (by simp)
                                    case rest =>
                                      clear HC33
                                      try clear c1
                                      try clear p1
                                      try clear q1
                                      try clear hx1
                                      try clear c2
                                      try clear p2
                                      try clear c3
                                      try clear p3
                                      try clear q3
                                      try clear hx3
                                      try clear qi3
                                      try clear c4
                                      try clear c4b0
                                      try clear c4b1
                                      try clear c6
                                      try clear c6b0
                                      try clear c6b1
                                      try clear p6
                                      try clear c9
                                      try clear c13
                                      try clear c13b0
                                      try clear c14
                                      try clear c14b0
                                      try clear p15
                                      try clear q15
                                      try clear hx15
                                      try clear c16
                                      try clear c16b0
                                      try clear c16b1
                                      try clear c17
                                      try clear c17b0
                                      try clear c17b1
                                      try clear c18
                                      try clear c18b0
                                      try clear c18b1
                                      try clear c19
                                      try clear c19b0
                                      try clear c19b1
                                      try clear c21
                                      try clear c21b0
                                      try clear c21b1
                                      try clear c22
                                      try clear c22b0
                                      try clear c22b1
                                      try clear c24
                                      try clear c24b0
                                      try clear c24b1
                                      try clear c25
                                      try clear c25b0
                                      try clear c25b1
                                      try clear c27
                                      try clear c28
                                      try clear c28b0
                                      try clear c28b1
                                      try clear c28b2
                                      try clear c30
                                      try clear c31
                                      try clear c31b0
                                      try clear c31b1
                                      try clear c34
                                      try clear c34b0
                                      try clear c34b1
                                      try clear c35
                                      try clear c35b0
                                      try clear c35b1
                                      try clear p36
                                      try clear q36
                                      try clear hx36
                                      try clear qi36
                                      try clear c37
                                      try clear c37b0
                                      try clear c37b1
                                      try clear p38
                                      try clear q38
                                      try clear hx38
                                      try clear qi38
                                      try clear p1
                                      try clear p15
                                      try clear p2
                                      try clear p36
                                      try clear p38
                                      try clear p6
                                      try clear q1
                                      try clear q15
                                      try clear q36
                                      try clear q38
                                      obtain ⟨kq, x95_32, rfl, HA, HJ32, HB⟩ := hcut
                                      cases kq with
                                      | zero => exact absurd HA.out (by simp [gouacheref04_Parse.j4])
                                      | succ kj32 =>
                                        have H := HA.out
                                        clear HA
                                        simp only [gouacheref04_Parse.j4] at H
                                        by_cases c39 : x95_32 = true
                                        · subst c39
                                          have H1 : (some (0, 0, false)) = some (r1, r2, r3) := by rw [if_pos rfl] at H; exact H
                                          clear H
                                          have H := H1
                                          clear H1
                                          simp only [Option.some.injEq, Prod.mk.injEq] at H
                                          obtain ⟨rfl, rfl, rfl⟩ := H
                                          go_wp2
                                          repeat (go_quiet (fail); try go_wp2)
                                          go_ret3
                                          exact ⟨by first | rfl | (simp [errW_none, errW_some] <;> rfl) | (simp only [← hji20]; first | rfl | (simp [errW_none, errW_some] <;> rfl)) | (simp [*, errW_none, errW_some] <;> rfl), by repeat (first | (with_reducible first | exact HB.out | apply below_alloc | apply pw_below_drewN | apply below_drew1) | exact HB.out)⟩
                                        · replace c39 := Bool.eq_false_iff.mpr c39
                                          subst c39
                                          have H1 : (if 1 ≤ (t107.size : Int) then ((gouacheref04_blank.f (t107.extract 1 t107.size)).bind fun t108 => (if (t108.size : Int) = 0 then (gouacheref04_Parse.j5 kj32 t107 t105 t108 true) else (if 0 < (t108.size : Int) then (if (bt t108 0) < 48 then (gouacheref04_Parse.j5 kj32 t107 t105 t108 true) else (gouacheref04_Parse.j5 kj32 t107 t105 t108 (decide ((bt t108 0) > 57)))) else (none)))) else (none)) = some (r1, r2, r3) := by rw [if_neg (show ¬ (false = true) by decide)] at H; exact H
                                          clear H
                                          have H := H1
                                          clear H1
                                          by_cases c40 : 1 ≤ (t107.size : Int)
                                          · rw [if_pos c40] at H
                                            have c40b0 := eq_true c40
                                            have c40b1 : decide (1 ≤ (t107.size : Int)) = true := decide_eq_true c40
                                            clear c40
                                            replace H := Option.bind_eq_some_iff.mp H
                                            obtain ⟨t108, A410, H⟩ := H
                                            replace H : (if (t108.size : Int) = 0 then (gouacheref04_Parse.j5 kj32 t107 t105 t108 true) else (if 0 < (t108.size : Int) then (if (bt t108 0) < 48 then (gouacheref04_Parse.j5 kj32 t107 t105 t108 true) else (gouacheref04_Parse.j5 kj32 t107 t105 t108 (decide ((bt t108 0) > 57)))) else (none))) = some (r1, r2, r3) := H
                                            have A41 := Aside0.mk A410
                                            clear A410
                                            have HC42 := Aside0.mk H
                                            clear H
                                            go_upto_region 28 with (first | (go_at_call 26; (with_reducible refine (gouacheref04_blank.calls (t107.extract 1 t107.size) t108 _ A41.out).mono ?_); rintro e w' ⟨rfl, ⟨nd, rfl⟩⟩; (try first | exact ⟨rfl, _, World.drewN_drewN _ _ _⟩ | exact ⟨rfl, _, Eq.trans (World.drewN_drewN _ _ _) (congrArg (World.drewN _) (Nat.add_assoc _ _ _))⟩)))
                                            repeat (go_quiet (first | (go_at_call 26; (with_reducible refine (gouacheref04_blank.calls (t107.extract 1 t107.size) t108 _ A41.out).mono ?_); rintro e w' ⟨rfl, ⟨nd, rfl⟩⟩; (try first | exact ⟨rfl, _, World.drewN_drewN _ _ _⟩ | exact ⟨rfl, _, Eq.trans (World.drewN_drewN _ _ _) (congrArg (World.drewN _) (Nat.add_assoc _ _ _))⟩))); go_upto_region 28 with (first | (go_at_call 26; (with_reducible refine (gouacheref04_blank.calls (t107.extract 1 t107.size) t108 _ A41.out).mono ?_); rintro e w' ⟨rfl, ⟨nd, rfl⟩⟩; (try first | exact ⟨rfl, _, World.drewN_drewN _ _ _⟩ | exact ⟨rfl, _, Eq.trans (World.drewN_drewN _ _ _) (congrArg (World.drewN _) (Nat.add_assoc _ _ _))⟩))))
                                            (try simp only [Act.put, List.setIfInBounds_toArray, List.set_cons_zero, List.set_cons_succ])
                                            go_cut [111] (fun v111 wc => ∃ (kq : Nat) (x111_41 : Bool), v111 = .bool x111_41 ∧ Aside0 (gouacheref04_Parse.j5 kq t107 t105 t108 x111_41 = some (r1, r2, r3)) ∧ Aside0 (kq ≤ kj32) ∧ Aside0 (Below w.heap.size w wc))
                                            case first =>
                                              have H := HC42.out
                                              clear HC42
                                              by_cases c43 : (t108.size : Int) = 0
                                              · rw [if_pos c43] at H
                                                have c43b0 : ((t108.size : Int) == 0) = true := beq_iff_eq.mpr c43
                                                have c43b1 : ((t108.size : Int) != 0) = false := bne_eq_false_iff_eq.mpr c43
                                                clear c43
                                                (first | rw [c43b0] | (simp only [i64_w, i32_w]; rw [c43b0]) | skip)
                                                have H' := Aside0.mk H
                                                clear H
                                                go_wp2
                                                repeat (go_quiet (fail); try go_wp2)
                                                go_meet
                                                case rel => exact ⟨_, (true), (by first | rfl | (simp; done) | (simp [*]; done)), H', ⟨by have := HJ10.out; have := HJ22.out; have := HJ25.out; have := HJ32.out; first | omega | exact Nat.le_refl _⟩, ⟨by repeat (first | (with_reducible first | exact HB.out | apply below_alloc | apply pw_below_drewN | apply below_drew1) | exact HB.out)⟩⟩
                                              · rw [if_neg c43] at H
                                                have c43b0 : ((t108.size : Int) == 0) = false := beq_eq_false_iff_ne.mpr c43
                                                have c43b1 : ((t108.size : Int) != 0) = true := bne_iff_ne.mpr c43
                                                (first | rw [c43b0] | (simp only [i64_w, i32_w]; rw [c43b0]) | skip)
                                                by_cases c44 : 0 < (t108.size : Int)
                                                · rw [if_pos c44] at H
                                                  have c44b0 : decide (0 < (t108.size : Int)) = true := decide_eq_true c44
                                                  have c44b1 : decide (0 < t108.size) = true := decide_eq_true (by omega)
                                                  clear c44
                                                  by_cases c46 : (bt t108 0) < 48
                                                  · rw [if_pos c46] at H
                                                    have c46b0 : decide ((bt t108 0) < 48) = true := decide_eq_true c46
                                                    clear c46
                                                    have H' := Aside0.mk H
                                                    clear H
                                                    have p45 : 0 ≤ (0 : Int) := (by omega)
                                                    have q45 : 0 < t108.size := (by have : (0 : Int) < (t108.size : Int) := of_decide_eq_true (by first | (with_reducible assumption) | assumption); omega)
                                                    have hx45 : ∀ h : 0 < t108.size, ((t108[0]'h).toNat : Int) = bt t108 0 := bt_at t108 0
                                                    clear p45
                                                    have qi45 : (0 < (t108.size : Int)) = True := eq_true (of_decide_eq_true (by first | (with_reducible assumption) | assumption))
                                                    replace q45 := eq_true q45
                                                    go_wp2
                                                    repeat (go_quiet (fail); try go_wp2)
                                                    go_meet
                                                    case rel => exact ⟨_, (true), (by first | rfl | (simp; done) | (simp [*]; done)), H', ⟨by have := HJ10.out; have := HJ22.out; have := HJ25.out; have := HJ32.out; first | omega | exact Nat.le_refl _⟩, ⟨by repeat (first | (with_reducible first | exact HB.out | apply below_alloc | apply pw_below_drewN | apply below_drew1) | exact HB.out)⟩⟩
                                                  · rw [if_neg c46] at H
                                                    have c46b0 : decide ((bt t108 0) < 48) = false := decide_eq_false c46
                                                    clear c46
                                                    have H' := Aside0.mk H
                                                    clear H
                                                    have p45 : 0 ≤ (0 : Int) := (by omega)
                                                    have q45 : 0 < t108.size := (by have : (0 : Int) < (t108.size : Int) := of_decide_eq_true (by first | (with_reducible assumption) | assumption); omega)
                                                    have hx45 : ∀ h : 0 < t108.size, ((t108[0]'h).toNat : Int) = bt t108 0 := bt_at t108 0
                                                    clear p45
                                                    have qi45 : (0 < (t108.size : Int)) = True := eq_true (of_decide_eq_true (by first | (with_reducible assumption) | assumption))
                                                    replace q45 := eq_true q45
                                                    have p47 : 0 ≤ (0 : Int) := (by omega)
                                                    have q47 : 0 < t108.size := (by have : (0 : Int) < (t108.size : Int) := of_decide_eq_true (by first | (with_reducible assumption) | assumption); omega)
                                                    have hx47 : ∀ h : 0 < t108.size, ((t108[0]'h).toNat : Int) = bt t108 0 := bt_at t108 0
                                                    clear p47
                                                    have qi47 : (0 < (t108.size : Int)) = True := eq_true (of_decide_eq_true (by first | (with_reducible assumption) | assumption))
                                                    replace q47 := eq_true q47
                                                    go_wp2
                                                    repeat (go_quiet (fail); try go_wp2)
                                                    go_meet
                                                    case rel => exact ⟨_, (decide ((bt t108 0) > 57)), (by first | rfl | (simp; done) | (simp [*]; done)), H', ⟨by have := HJ10.out; have := HJ22.out; have := HJ25.out; have := HJ32.out; first | omega | exact Nat.le_refl _⟩, ⟨by repeat (first | (with_reducible first | exact HB.out | apply below_alloc | apply pw_below_drewN | apply below_drew1) | exact HB.out)⟩⟩
                                                · rw [if_neg c44] at H
                                                  exact absurd H (by simp)
                                            case rest =>
                                              clear HC42
                                              try clear c1
                                              try clear p1
                                              try clear q1
                                              try clear hx1
                                              try clear c2
                                              try clear p2
                                              try clear c3
                                              try clear p3
                                              try clear q3
                                              try clear hx3
                                              try clear qi3
                                              try clear c4
                                              try clear c4b0
                                              try clear c4b1
                                              try clear p4
                                              try clear q4
                                              try clear hx4
                                              try clear qi4
                                              try clear c6
                                              try clear c6b0
                                              try clear c6b1
                                              try clear p6
                                              try clear c9
                                              try clear c13
                                              try clear c13b0
                                              try clear c14
                                              try clear c14b0
                                              try clear p15
                                              try clear q15
                                              try clear hx15
                                              try clear c16
                                              try clear c16b0
                                              try clear c16b1
                                              try clear c17
                                              try clear c17b0
                                              try clear c17b1
                                              try clear c18
                                              try clear c18b0
                                              try clear c18b1
                                              try clear c19
                                              try clear c19b0
                                              try clear c19b1
                                              try clear c21
                                              try clear c21b0
                                              try clear c21b1
                                              try clear c22
                                              try clear c22b0
                                              try clear c22b1
                                              try clear c24
                                              try clear c24b0
                                              try clear c24b1
                                              try clear c25
                                              try clear c25b0
                                              try clear c25b1
                                              try clear c27
                                              try clear c28
                                              try clear c28b0
                                              try clear c28b1
                                              try clear c28b2
                                              try clear c30
                                              try clear c31
                                              try clear c31b0
                                              try clear c31b1
                                              try clear c34
                                              try clear c34b0
                                              try clear c34b1
                                              try clear c35
                                              try clear c35b0
                                              try clear c35b1
                                              try clear p36
                                              try clear q36
                                              try clear hx36
                                              try clear qi36
                                              try clear c37
                                              try clear c37b0
                                              try clear c37b1
                                              try clear p38
                                              try clear q38
                                              try clear hx38
                                              try clear qi38
                                              try clear c39
                                              try clear c40
                                              try clear c40b0
                                              try clear c40b1
                                              try clear c43
                                              try clear c43b0
                                              try clear c43b1
                                              try clear c44
                                              try clear c44b0
                                              try clear c44b1
                                              try clear p45
                                              try clear q45
                                              try clear hx45
                                              try clear qi45
                                              try clear c46
                                              try clear c46b0
                                              try clear p47
                                              try clear q47
                                              try clear hx47
                                              try clear qi47
                                              try clear p1
                                              try clear p15
                                              try clear p2
                                              try clear p3
                                              try clear p36
                                              try clear p38
                                              try clear p45
                                              try clear p47
                                              try clear p6
                                              try clear q1
                                              try clear q15
                                              try clear q3
                                              try clear q36
                                              try clear q38
                                              try clear q45
                                              try clear q47
                                              obtain ⟨kq, x111_41, rfl, HA, HJ41, HB⟩ := hcut
                                              cases kq with
                                              | zero => exact absurd HA.out (by simp [gouacheref04_Parse.j5])
                                              | succ kj41 =>
                                                have H := HA.out
                                                clear HA
                                                simp only [gouacheref04_Parse.j5] at H
                                                by_cases c48 : x111_41 = true
                                                · subst c48
                                                  have H1 : (some (0, 0, false)) = some (r1, r2, r3) := by rw [if_pos rfl] at H; exact H
                                                  clear H
                                                  have H := H1
                                                  clear H1
                                                  simp only [Option.some.injEq, Prod.mk.injEq] at H
                                                  obtain ⟨rfl, rfl, rfl⟩ := H
                                                  go_wp2
                                                  repeat (go_quiet (fail); try go_wp2)
                                                  go_ret3
                                                  exact ⟨by first | rfl | (simp [errW_none, errW_some] <;> rfl) | (simp only [← hji20]; first | rfl | (simp [errW_none, errW_some] <;> rfl)) | (simp [*, errW_none, errW_some] <;> rfl), by repeat (first | (with_reducible first | exact HB.out | apply below_alloc | apply pw_below_drewN | apply below_drew1) | exact HB.out)⟩
                                                · replace c48 := Bool.eq_false_iff.mpr c48
                                                  subst c48
                                                  have H1 : (if 1 ≤ (t107.size : Int) then (if (t107.extract 0 1).size + t108.size ≤ 9223372036854775807 then ((gouacheref02_Whole.f kj41 ((t107.extract 0 1) ++ t108)).bind fun bt109 => (if bt109.2 = true then (some (t105, bt109.1, true)) else (some (0, 0, false)))) else (none)) else (none)) = some (r1, r2, r3) := by rw [if_neg (show ¬ (false = true) by decide)] at H; exact H
                                                  clear H
                                                  have H := H1
                                                  clear H1
                                                  by_cases c49 : 1 ≤ (t107.size : Int)
                                                  · rw [if_pos c49] at H
                                                    have c49b0 := eq_true c49
                                                    have c49b1 : decide (1 ≤ (t107.size : Int)) = true := decide_eq_true c49
                                                    clear c49
                                                    by_cases c50 : (t107.extract 0 1).size + t108.size ≤ 9223372036854775807
                                                    · rw [if_pos c50] at H
                                                      have c50b0 := eq_true c50
                                                      have c50b1 : decide ((t107.extract 0 1).size + t108.size ≤ 9223372036854775807) = true := decide_eq_true c50
                                                      try have c50b2 : (9223372036854775807 < (t107.extract 0 1).size + t108.size) = False := eq_false (Nat.not_lt.2 c50)
                                                      replace H := Option.bind_eq_some_iff.mp H
                                                      obtain ⟨⟨t109, t110⟩, A510, H⟩ := H
                                                      replace H : (if t110 = true then (some (t105, t109, true)) else (some (0, 0, false))) = some (r1, r2, r3) := H
                                                      have A51 := Aside0.mk A510
                                                      clear A510
                                                      by_cases c52 : t110 = true
                                                      · subst c52
                                                        have H1 : (some (t105, t109, true)) = some (r1, r2, r3) := by rw [if_pos rfl] at H; exact H
                                                        clear H
                                                        have H := H1
                                                        clear H1
                                                        simp only [Option.some.injEq, Prod.mk.injEq] at H
                                                        obtain ⟨rfl, rfl, rfl⟩ := H
                                                        go_wp2_with (first | (go_at_call 25; (with_reducible refine (gouacheref02_Whole.calls kj41 ((t107.extract 0 1) ++ t108) t109 true _ A51.out).mono ?_); rintro e w' ⟨rfl, ⟨nd, rfl⟩⟩; (try first | exact ⟨rfl, _, World.drewN_drewN _ _ _⟩ | exact ⟨rfl, _, Eq.trans (World.drewN_drewN _ _ _) (congrArg (World.drewN _) (Nat.add_assoc _ _ _))⟩)))
                                                        repeat (go_quiet (first | (go_at_call 25; (with_reducible refine (gouacheref02_Whole.calls kj41 ((t107.extract 0 1) ++ t108) t109 true _ A51.out).mono ?_); rintro e w' ⟨rfl, ⟨nd, rfl⟩⟩; (try first | exact ⟨rfl, _, World.drewN_drewN _ _ _⟩ | exact ⟨rfl, _, Eq.trans (World.drewN_drewN _ _ _) (congrArg (World.drewN _) (Nat.add_assoc _ _ _))⟩))); try go_wp2_with (first | (go_at_call 25; (with_reducible refine (gouacheref02_Whole.calls kj41 ((t107.extract 0 1) ++ t108) t109 true _ A51.out).mono ?_); rintro e w' ⟨rfl, ⟨nd, rfl⟩⟩; (try first | exact ⟨rfl, _, World.drewN_drewN _ _ _⟩ | exact ⟨rfl, _, Eq.trans (World.drewN_drewN _ _ _) (congrArg (World.drewN _) (Nat.add_assoc _ _ _))⟩))))
                                                        go_ret3
                                                        exact ⟨by first | rfl | (simp [errW_none, errW_some] <;> rfl) | (simp only [← hji20]; first | rfl | (simp [errW_none, errW_some] <;> rfl)) | (simp [*, errW_none, errW_some] <;> rfl), by repeat (first | (with_reducible first | exact HB.out | apply below_alloc | apply pw_below_drewN | apply below_drew1) | exact HB.out)⟩
                                                      · replace c52 := Bool.eq_false_iff.mpr c52
                                                        subst c52
                                                        have H1 : (some (0, 0, false)) = some (r1, r2, r3) := by rw [if_neg (show ¬ (false = true) by decide)] at H; exact H
                                                        clear H
                                                        have H := H1
                                                        clear H1
                                                        simp only [Option.some.injEq, Prod.mk.injEq] at H
                                                        obtain ⟨rfl, rfl, rfl⟩ := H
                                                        go_wp2_with (first | (go_at_call 25; (with_reducible refine (gouacheref02_Whole.calls kj41 ((t107.extract 0 1) ++ t108) t109 false _ A51.out).mono ?_); rintro e w' ⟨rfl, ⟨nd, rfl⟩⟩; (try first | exact ⟨rfl, _, World.drewN_drewN _ _ _⟩ | exact ⟨rfl, _, Eq.trans (World.drewN_drewN _ _ _) (congrArg (World.drewN _) (Nat.add_assoc _ _ _))⟩)))
                                                        repeat (go_quiet (first | (go_at_call 25; (with_reducible refine (gouacheref02_Whole.calls kj41 ((t107.extract 0 1) ++ t108) t109 false _ A51.out).mono ?_); rintro e w' ⟨rfl, ⟨nd, rfl⟩⟩; (try first | exact ⟨rfl, _, World.drewN_drewN _ _ _⟩ | exact ⟨rfl, _, Eq.trans (World.drewN_drewN _ _ _) (congrArg (World.drewN _) (Nat.add_assoc _ _ _))⟩))); try go_wp2_with (first | (go_at_call 25; (with_reducible refine (gouacheref02_Whole.calls kj41 ((t107.extract 0 1) ++ t108) t109 false _ A51.out).mono ?_); rintro e w' ⟨rfl, ⟨nd, rfl⟩⟩; (try first | exact ⟨rfl, _, World.drewN_drewN _ _ _⟩ | exact ⟨rfl, _, Eq.trans (World.drewN_drewN _ _ _) (congrArg (World.drewN _) (Nat.add_assoc _ _ _))⟩))))
                                                        go_ret3
                                                        exact ⟨by first | rfl | (simp [errW_none, errW_some] <;> rfl) | (simp only [← hji20]; first | rfl | (simp [errW_none, errW_some] <;> rfl)) | (simp [*, errW_none, errW_some] <;> rfl), by repeat (first | (with_reducible first | exact HB.out | apply below_alloc | apply pw_below_drewN | apply below_drew1) | exact HB.out)⟩
                                                    · rw [if_neg c50] at H
                                                      exact absurd H (by simp)
                                                  · rw [if_neg c49] at H
                                                    exact absurd H (by simp)
                                          · rw [if_neg c40] at H
                                            exact absurd H (by simp)
                                · replace c30 := Bool.eq_false_iff.mpr c30
                                  subst c30
                                  have H1 : (some (0, 0, false)) = some (r1, r2, r3) := by rw [if_neg (show ¬ (false = true) by decide)] at H; exact H
                                  clear H
                                  have H := H1
                                  clear H1
                                  simp only [Option.some.injEq, Prod.mk.injEq] at H
                                  obtain ⟨rfl, rfl, rfl⟩ := H
                                  go_wp2_with (first | (go_at_call 25; (with_reducible refine (gouacheref02_Whole.calls kj25 x10_25 t105 false _ A29.out).mono ?_); rintro e w' ⟨rfl, ⟨nd, rfl⟩⟩; (try first | exact ⟨rfl, _, World.drewN_drewN _ _ _⟩ | exact ⟨rfl, _, Eq.trans (World.drewN_drewN _ _ _) (congrArg (World.drewN _) (Nat.add_assoc _ _ _))⟩)))
                                  repeat (go_quiet (first | (go_at_call 25; (with_reducible refine (gouacheref02_Whole.calls kj25 x10_25 t105 false _ A29.out).mono ?_); rintro e w' ⟨rfl, ⟨nd, rfl⟩⟩; (try first | exact ⟨rfl, _, World.drewN_drewN _ _ _⟩ | exact ⟨rfl, _, Eq.trans (World.drewN_drewN _ _ _) (congrArg (World.drewN _) (Nat.add_assoc _ _ _))⟩))); try go_wp2_with (first | (go_at_call 25; (with_reducible refine (gouacheref02_Whole.calls kj25 x10_25 t105 false _ A29.out).mono ?_); rintro e w' ⟨rfl, ⟨nd, rfl⟩⟩; (try first | exact ⟨rfl, _, World.drewN_drewN _ _ _⟩ | exact ⟨rfl, _, Eq.trans (World.drewN_drewN _ _ _) (congrArg (World.drewN _) (Nat.add_assoc _ _ _))⟩))))
                                  go_ret3
                                  exact ⟨by first | rfl | (simp [errW_none, errW_some] <;> rfl) | (simp only [← hji20]; first | rfl | (simp [errW_none, errW_some] <;> rfl)) | (simp [*, errW_none, errW_some] <;> rfl), by repeat (first | (with_reducible first | exact HB.out | apply below_alloc | apply pw_below_drewN | apply below_drew1) | exact HB.out)⟩
                      · rw [if_neg c22] at H
                        exact absurd H (by simp)
                    · rw [if_neg c21] at H
                      exact absurd H (by simp)
                  · rw [if_neg c19] at H
                    exact absurd H (by simp)
                · rw [if_neg c18] at H
                  exact absurd H (by simp)
  · replace c3 := Bool.eq_false_iff.mpr c3
    subst c3
    have H1 : (some (0, 0, false)) = some (r1, r2, r3) := by rw [if_neg (show ¬ (false = true) by decide)] at H; exact H
    clear H
    have H := H1
    clear H1
    simp only [Option.some.injEq, Prod.mk.injEq] at H
    obtain ⟨rfl, rfl, rfl⟩ := H
    go_enter Tryd.func16, Tryd.ntmps16
    go_wp2_with (first | (go_at_call 24; (with_reducible refine (gouacheref04_written.calls k _ _ l0 t101 false _ ?side1 ?side2 A2.out).mono ?_); (case side1 => repeat (first | exact HR0.out | (with_reducible refine Kd.C_alloc ?_ _) | (with_reducible refine Kd.C_drewN ?_ _) | (with_reducible refine Kd.C_drew ?_))); (case side2 => exact HC0.out); rintro e w53 ⟨rfl, hb⟩; have n0_ := Aside0.mk (below_step (by repeat (first | (with_reducible first | exact HB.out | apply below_alloc | apply pw_below_drewN | apply below_drew1) | exact HB.out)) hb); clear HB; have HB := n0_; clear n0_; (try clear hb); (try clear hb2); (try clear hk); (try clear hi)))
    repeat (go_quiet (first | (go_at_call 24; (with_reducible refine (gouacheref04_written.calls k _ _ l0 t101 false _ ?side1 ?side2 A2.out).mono ?_); (case side1 => repeat (first | exact HR0.out | (with_reducible refine Kd.C_alloc ?_ _) | (with_reducible refine Kd.C_drewN ?_ _) | (with_reducible refine Kd.C_drew ?_))); (case side2 => exact HC0.out); rintro e w53 ⟨rfl, hb⟩; have n0_ := Aside0.mk (below_step (by repeat (first | (with_reducible first | exact HB.out | apply below_alloc | apply pw_below_drewN | apply below_drew1) | exact HB.out)) hb); clear HB; have HB := n0_; clear n0_; (try clear hb); (try clear hb2); (try clear hk); (try clear hi))); try go_wp2_with (first | (go_at_call 24; (with_reducible refine (gouacheref04_written.calls k _ _ l0 t101 false _ ?side1 ?side2 A2.out).mono ?_); (case side1 => repeat (first | exact HR0.out | (with_reducible refine Kd.C_alloc ?_ _) | (with_reducible refine Kd.C_drewN ?_ _) | (with_reducible refine Kd.C_drew ?_))); (case side2 => exact HC0.out); rintro e w53 ⟨rfl, hb⟩; have n0_ := Aside0.mk (below_step (by repeat (first | (with_reducible first | exact HB.out | apply below_alloc | apply pw_below_drewN | apply below_drew1) | exact HB.out)) hb); clear HB; have HB := n0_; clear n0_; (try clear hb); (try clear hb2); (try clear hk); (try clear hi))))
    go_ret3
    exact ⟨by first | rfl | (simp [errW_none, errW_some] <;> rfl) | (simp [*, errW_none, errW_some] <;> rfl), by repeat (first | (with_reducible first | exact HB.out | apply below_alloc | apply pw_below_drewN | apply below_drew1) | exact HB.out)⟩
end Go.Proofs.YtmfnnhmlekdbjaaDoor.P
end
