-- Written by pr.py of this session over the kit's printer.
import Derived.Test.YthaaajpmiofodaaDoorK
namespace Go.Proofs.YthaaajpmiofodaaDoor.P
open Go.RowKit Go.Proofs.YthaaajpmiofodaaDoorW.PrintWords Go.Proofs.YthaaajpmiofodaaDoorW.PrintLast Go.Proofs.YthaaajpmiofodaaDoorW.PrintMore
attribute [local go_sem] max2_int min2_int max_two min_two max_three min_three max_four min_four   -- for this text's walks alone
set_option linter.unusedVariables false
set_option linter.unusedSimpArgs false

/-! ### nth_First: function 12 -/
mutual
def nth_First.j0 : Nat → Int → Int → Int → Bool → Option (Int)
  | 0, _, _, _, _ => none
  | k + 1, x0, x1, x5, x7 => if x7 = true then (if x1 > 1000000 then (some 0) else (some x1)) else (if x0 > 0 then (if (IntKind.u64.wrap (x0)) = 0 then (none) else (if (Int.tmod (IntKind.u64.wrap (1 - (IntKind.u64.wrap (x1)))) (IntKind.u64.wrap (x0))) > 0 then (if (wrap64 (IntKind.u64.wrap ((IntKind.u64.wrap (1 + (IntKind.u64.wrap (x0)))) - (Int.tmod (IntKind.u64.wrap (1 - (IntKind.u64.wrap (x1)))) (IntKind.u64.wrap (x0)))))) > 1000000 then (some 0) else (some (wrap64 (IntKind.u64.wrap ((IntKind.u64.wrap (1 + (IntKind.u64.wrap (x0)))) - (Int.tmod (IntKind.u64.wrap (1 - (IntKind.u64.wrap (x1)))) (IntKind.u64.wrap (x0)))))))) else (some 1))) else (if x0 < 0 then (nth_First.j1 k x0 x1 x5 (decide (x1 ≥ 1))) else (nth_First.j1 k x0 x1 x5 false)))
def nth_First.j1 : Nat → Int → Int → Int → Bool → Option (Int)
  | 0, _, _, _, _ => none
  | k + 1, x0, x1, x5, x32 => if x32 = true then (if (IntKind.u64.wrap (-(IntKind.u64.wrap (x0)))) = 0 then (none) else (if (wrap64 ((wrap64 (Int.tmod (IntKind.u64.wrap ((IntKind.u64.wrap (x1)) - 1)) (IntKind.u64.wrap (-(IntKind.u64.wrap (x0)))))) + 1)) > 1000000 then (some 0) else (some (wrap64 ((wrap64 (Int.tmod (IntKind.u64.wrap ((IntKind.u64.wrap (x1)) - 1)) (IntKind.u64.wrap (-(IntKind.u64.wrap (x0)))))) + 1))))) else (if x5 > 1000000 then (some 0) else (some x5))
end
def nth_First.f (k : Nat) (a0 : Int) (a1 : Int) : Option (Int) := if a1 ≥ 1 then (nth_First.j0 k a0 a1 0 (decide (a0 ≥ 0))) else (nth_First.j0 k a0 a1 0 false)
theorem nth_First.mono_l : ∀ k, (∀ y0 y1 y2 y3, LeO (nth_First.j0 k y0 y1 y2 y3) (nth_First.j0 (k + 1) y0 y1 y2 y3)) ∧ (∀ y0 y1 y2 y3, LeO (nth_First.j1 k y0 y1 y2 y3) (nth_First.j1 (k + 1) y0 y1 y2 y3))
  | 0 => ⟨fun _ _ _ _ r h => by simp [nth_First.j0] at h, fun _ _ _ _ r h => by simp [nth_First.j1] at h⟩
  | k + 1 => by
    obtain ⟨ih0, ih1⟩ := nth_First.mono_l k
    refine ⟨?_, ?_⟩
    · intro y0 y1 y2 y3
      unfold nth_First.j0
      repeat' first
      | (with_reducible exact ih0 _ _ _ _)
      | (with_reducible exact ih1 _ _ _ _)
      | (with_reducible exact LeO.refl _)
      | (with_reducible exact LeO.none _)
      | (with_reducible refine LeO.ite ?_ ?_)
      | (with_reducible refine LeO.bind ?_ (fun _ => ?_))
      | exact ih0 _ _ _ _
      | exact ih1 _ _ _ _
      | exact LeO.none _
      | refine LeO.ite ?_ ?_
      | refine LeO.bind ?_ (fun _ => ?_)
    · intro y0 y1 y2 y3
      unfold nth_First.j1
      repeat' first
      | (with_reducible exact ih0 _ _ _ _)
      | (with_reducible exact ih1 _ _ _ _)
      | (with_reducible exact LeO.refl _)
      | (with_reducible exact LeO.none _)
      | (with_reducible refine LeO.ite ?_ ?_)
      | (with_reducible refine LeO.bind ?_ (fun _ => ?_))
      | exact ih0 _ _ _ _
      | exact ih1 _ _ _ _
      | exact LeO.none _
      | refine LeO.ite ?_ ?_
      | refine LeO.bind ?_ (fun _ => ?_)
theorem nth_First.mono : ∀ a0 a1 k, LeO (nth_First.f k a0 a1) (nth_First.f (k + 1) a0 a1) := by
  intro a0 a1 k
  obtain ⟨ih0, ih1⟩ := nth_First.mono_l k
  unfold nth_First.f
  repeat' first
      | (with_reducible exact ih0 _ _ _ _)
      | (with_reducible exact ih1 _ _ _ _)
      | (with_reducible exact LeO.refl _)
      | (with_reducible exact LeO.none _)
      | (with_reducible refine LeO.ite ?_ ?_)
      | (with_reducible refine LeO.bind ?_ (fun _ => ?_))
      | exact ih0 _ _ _ _
      | exact ih1 _ _ _ _
      | exact LeO.none _
      | refine LeO.ite ?_ ?_
      | refine LeO.bind ?_ (fun _ => ?_)
set_option maxHeartbeats 8000000 in
set_option maxRecDepth 100000 in
theorem nth_First.calls (k : Nat) (a0 : Int) (a1 : Int) (r : Int) (w : World) (h : nth_First.f k a0 a1 = some r) :
    Calls Tryd.prog 12 #[.int .i64 a0, .int .i64 a1] w fun e w' => e = .returned (.int .i64 r) ∧ Drawn0 w w' := by
  have H : (if a1 ≥ 1 then (nth_First.j0 k a0 a1 0 (decide (a0 ≥ 0))) else (nth_First.j0 k a0 a1 0 false)) = some r := h
  clear h
  have HC3 := Aside0.mk H
  clear H
  go_enter Tryd.func12, Tryd.ntmps12
  go_upto_region 2 with (fail)
  go_cut [7] (fun v7 wc => ∃ (kq : Nat) (x7_2 : Bool), v7 = .bool x7_2 ∧ Aside0 (nth_First.j0 kq a0 a1 0 x7_2 = some r) ∧ Aside0 (kq ≤ k) ∧ Drawn0 w wc)
  case first =>
    have H := HC3.out
    clear HC3
    by_cases c4 : a1 ≥ 1
    · rw [if_pos c4] at H
      have c4b0 : decide (1 ≤ a1) = true := decide_eq_true c4
      clear c4
      (first | rw [c4b0] | (simp only [i64_w, i32_w]; rw [c4b0]) | skip)
      have H' := Aside0.mk H
      clear H
      go_wp2
      go_meet
      case rel => exact ⟨_, (decide (a0 ≥ 0)), (by first | rfl | (simp; done) | (simp [*]; done)), H', ⟨by first | omega | exact Nat.le_refl _⟩, by repeat (first | exact Drawn0.refl _ | apply Drawn0.step)⟩
    · rw [if_neg c4] at H
      have c4b0 : decide (1 ≤ a1) = false := decide_eq_false c4
      clear c4
      (first | rw [c4b0] | (simp only [i64_w, i32_w]; rw [c4b0]) | skip)
      have H' := Aside0.mk H
      clear H
      go_wp2
      go_meet
      case rel => exact ⟨_, (false), (by first | rfl | (simp; done) | (simp [*]; done)), H', ⟨by first | omega | exact Nat.le_refl _⟩, by repeat (first | exact Drawn0.refl _ | apply Drawn0.step)⟩
  case rest =>
    clear HC3
    try clear c1
    try clear p2
    try clear c4
    try clear c4b0
    obtain ⟨kq, x7_2, rfl, HA, HJ2, ⟨mc2, rfl⟩⟩ := hcut
    cases kq with
    | zero => exact absurd HA.out (by simp [nth_First.j0])
    | succ kj2 =>
      have H := HA.out
      clear HA
      simp only [nth_First.j0] at H
      by_cases c5 : x7_2 = true
      · subst c5
        have H1 : (if a1 > 1000000 then (some 0) else (some a1)) = some r := by rw [if_pos rfl] at H; exact H
        clear H
        have H := H1
        clear H1
        by_cases c6 : a1 > 1000000
        · rw [if_pos c6] at H
          have c6b0 : decide (1000000 < a1) = true := decide_eq_true c6
          clear c6
          obtain rfl := Option.some.inj H
          go_wp2
          go_ret
          exact ⟨by first | rfl | (simp; done) | (simp [*]; done), by repeat (first | exact Drawn0.refl _ | apply Drawn0.step)⟩
        · rw [if_neg c6] at H
          have c6b0 : decide (1000000 < a1) = false := decide_eq_false c6
          clear c6
          obtain rfl := Option.some.inj H
          go_wp2
          go_ret
          exact ⟨by first | rfl | (simp; done) | (simp [*]; done), by repeat (first | exact Drawn0.refl _ | apply Drawn0.step)⟩
      · replace c5 := Bool.eq_false_iff.mpr c5
        subst c5
        have H1 : (if a0 > 0 then (if (IntKind.u64.wrap (a0)) = 0 then (none) else (if (Int.tmod (IntKind.u64.wrap (1 - (IntKind.u64.wrap (a1)))) (IntKind.u64.wrap (a0))) > 0 then (if (wrap64 (IntKind.u64.wrap ((IntKind.u64.wrap (1 + (IntKind.u64.wrap (a0)))) - (Int.tmod (IntKind.u64.wrap (1 - (IntKind.u64.wrap (a1)))) (IntKind.u64.wrap (a0)))))) > 1000000 then (some 0) else (some (wrap64 (IntKind.u64.wrap ((IntKind.u64.wrap (1 + (IntKind.u64.wrap (a0)))) - (Int.tmod (IntKind.u64.wrap (1 - (IntKind.u64.wrap (a1)))) (IntKind.u64.wrap (a0)))))))) else (some 1))) else (if a0 < 0 then (nth_First.j1 kj2 a0 a1 0 (decide (a1 ≥ 1))) else (nth_First.j1 kj2 a0 a1 0 false))) = some r := by rw [if_neg (show ¬ (false = true) by decide)] at H; exact H
        clear H
        have H := H1
        clear H1
        by_cases c7 : a0 > 0
        · rw [if_pos c7] at H
          have c7b0 : decide (0 < a0) = true := decide_eq_true c7
          clear c7
          by_cases c8 : (IntKind.u64.wrap (a0)) = 0
          · rw [if_pos c8] at H
            exact absurd H (by simp)
          · rw [if_neg c8] at H
            have c8b0 : ((IntKind.u64.wrap (a0)) == 0) = false := beq_eq_false_iff_ne.mpr c8
            have c8b1 : ((IntKind.u64.wrap (a0)) != 0) = true := bne_iff_ne.mpr c8
            by_cases c9 : (Int.tmod (IntKind.u64.wrap (1 - (IntKind.u64.wrap (a1)))) (IntKind.u64.wrap (a0))) > 0
            · rw [if_pos c9] at H
              have c9b0 : decide (0 < (Int.tmod (IntKind.u64.wrap (1 - (IntKind.u64.wrap (a1)))) (IntKind.u64.wrap (a0)))) = true := decide_eq_true c9
              clear c9
              by_cases c10 : (wrap64 (IntKind.u64.wrap ((IntKind.u64.wrap (1 + (IntKind.u64.wrap (a0)))) - (Int.tmod (IntKind.u64.wrap (1 - (IntKind.u64.wrap (a1)))) (IntKind.u64.wrap (a0)))))) > 1000000
              · rw [if_pos c10] at H
                have c10b0 : decide (1000000 < (wrap64 (IntKind.u64.wrap ((IntKind.u64.wrap (1 + (IntKind.u64.wrap (a0)))) - (Int.tmod (IntKind.u64.wrap (1 - (IntKind.u64.wrap (a1)))) (IntKind.u64.wrap (a0))))))) = true := decide_eq_true c10
                clear c10
                obtain rfl := Option.some.inj H
                go_wp2
                go_ret
                exact ⟨by first | rfl | (simp; done) | (simp [*]; done), by repeat (first | exact Drawn0.refl _ | apply Drawn0.step)⟩
              · rw [if_neg c10] at H
                have c10b0 : decide (1000000 < (wrap64 (IntKind.u64.wrap ((IntKind.u64.wrap (1 + (IntKind.u64.wrap (a0)))) - (Int.tmod (IntKind.u64.wrap (1 - (IntKind.u64.wrap (a1)))) (IntKind.u64.wrap (a0))))))) = false := decide_eq_false c10
                clear c10
                obtain rfl := Option.some.inj H
                go_wp2
                go_ret
                exact ⟨by first | rfl | (simp; done) | (simp [*]; done), by repeat (first | exact Drawn0.refl _ | apply Drawn0.step)⟩
            · rw [if_neg c9] at H
              have c9b0 : decide (0 < (Int.tmod (IntKind.u64.wrap (1 - (IntKind.u64.wrap (a1)))) (IntKind.u64.wrap (a0)))) = false := decide_eq_false c9
              clear c9
              obtain rfl := Option.some.inj H
              go_wp2
              go_ret
              exact ⟨by first | rfl | (simp; done) | (simp [*]; done), by repeat (first | exact Drawn0.refl _ | apply Drawn0.step)⟩
        · rw [if_neg c7] at H
          have c7b0 : decide (0 < a0) = false := decide_eq_false c7
          clear c7
          have HC11 := Aside0.mk H
          clear H
          go_upto_region 9 with (fail)
          go_cut [32] (fun v32 wc => ∃ (kq : Nat) (x32_10 : Bool), v32 = .bool x32_10 ∧ Aside0 (nth_First.j1 kq a0 a1 0 x32_10 = some r) ∧ Aside0 (kq ≤ kj2) ∧ Drawn0 w wc)
          case first =>
            have H := HC11.out
            clear HC11
            by_cases c12 : a0 < 0
            · rw [if_pos c12] at H
              have c12b0 : decide (a0 < 0) = true := decide_eq_true c12
              clear c12
              (first | rw [c12b0] | (simp only [i64_w, i32_w]; rw [c12b0]) | skip)
              have H' := Aside0.mk H
              clear H
              go_wp2
              go_meet
              case rel => exact ⟨_, (decide (a1 ≥ 1)), (by first | rfl | (simp; done) | (simp [*]; done)), H', ⟨by have := HJ2.out; first | omega | exact Nat.le_refl _⟩, by repeat (first | exact Drawn0.refl _ | apply Drawn0.step)⟩
            · rw [if_neg c12] at H
              have c12b0 : decide (a0 < 0) = false := decide_eq_false c12
              clear c12
              (first | rw [c12b0] | (simp only [i64_w, i32_w]; rw [c12b0]) | skip)
              have H' := Aside0.mk H
              clear H
              go_wp2
              go_meet
              case rel => exact ⟨_, (false), (by first | rfl | (simp; done) | (simp [*]; done)), H', ⟨by have := HJ2.out; first | omega | exact Nat.le_refl _⟩, by repeat (first | exact Drawn0.refl _ | apply Drawn0.step)⟩
          case rest =>
            clear HC11
            try clear c1
            try clear c2
            try clear p2
            try clear c4
            try clear c4b0
            try clear c5
            try clear c6
            try clear c6b0
            try clear p6
            try clear c7
            try clear c7b0
            try clear c8
            try clear c8b0
            try clear c8b1
            try clear c9
            try clear c9b0
            try clear c10
            try clear c10b0
            try clear c12
            try clear c12b0
            try clear p2
            obtain ⟨kq, x32_10, rfl, HA, HJ10, ⟨mc10, rfl⟩⟩ := hcut
            cases kq with
            | zero => exact absurd HA.out (by simp [nth_First.j1])
            | succ kj10 =>
              have H := HA.out
              clear HA
              simp only [nth_First.j1] at H
              by_cases c13 : x32_10 = true
              · subst c13
                have H1 : (if (IntKind.u64.wrap (-(IntKind.u64.wrap (a0)))) = 0 then (none) else (if (wrap64 ((wrap64 (Int.tmod (IntKind.u64.wrap ((IntKind.u64.wrap (a1)) - 1)) (IntKind.u64.wrap (-(IntKind.u64.wrap (a0)))))) + 1)) > 1000000 then (some 0) else (some (wrap64 ((wrap64 (Int.tmod (IntKind.u64.wrap ((IntKind.u64.wrap (a1)) - 1)) (IntKind.u64.wrap (-(IntKind.u64.wrap (a0)))))) + 1))))) = some r := by rw [if_pos rfl] at H; exact H
                clear H
                have H := H1
                clear H1
                by_cases c14 : (IntKind.u64.wrap (-(IntKind.u64.wrap (a0)))) = 0
                · rw [if_pos c14] at H
                  exact absurd H (by simp)
                · rw [if_neg c14] at H
                  have c14b0 : ((IntKind.u64.wrap (-(IntKind.u64.wrap (a0)))) == 0) = false := beq_eq_false_iff_ne.mpr c14
                  have c14b1 : ((IntKind.u64.wrap (-(IntKind.u64.wrap (a0)))) != 0) = true := bne_iff_ne.mpr c14
                  by_cases c15 : (wrap64 ((wrap64 (Int.tmod (IntKind.u64.wrap ((IntKind.u64.wrap (a1)) - 1)) (IntKind.u64.wrap (-(IntKind.u64.wrap (a0)))))) + 1)) > 1000000
                  · rw [if_pos c15] at H
                    have c15b0 : decide (1000000 < (wrap64 ((wrap64 (Int.tmod (IntKind.u64.wrap ((IntKind.u64.wrap (a1)) - 1)) (IntKind.u64.wrap (-(IntKind.u64.wrap (a0)))))) + 1))) = true := decide_eq_true c15
                    clear c15
                    obtain rfl := Option.some.inj H
                    go_wp2
                    go_ret
                    exact ⟨by first | rfl | (simp; done) | (simp [*]; done), by repeat (first | exact Drawn0.refl _ | apply Drawn0.step)⟩
                  · rw [if_neg c15] at H
                    have c15b0 : decide (1000000 < (wrap64 ((wrap64 (Int.tmod (IntKind.u64.wrap ((IntKind.u64.wrap (a1)) - 1)) (IntKind.u64.wrap (-(IntKind.u64.wrap (a0)))))) + 1))) = false := decide_eq_false c15
                    clear c15
                    obtain rfl := Option.some.inj H
                    go_wp2
                    go_ret
                    exact ⟨by first | rfl | (simp; done) | (simp [*]; done), by repeat (first | exact Drawn0.refl _ | apply Drawn0.step)⟩
              · replace c13 := Bool.eq_false_iff.mpr c13
                subst c13
                have H1 : (if 0 > 1000000 then (some 0) else (some 0)) = some r := by rw [if_neg (show ¬ (false = true) by decide)] at H; exact H
                clear H
                have H := H1
                clear H1
                by_cases c16 : 0 > 1000000
                · rw [if_pos c16] at H
                  have c16b0 : decide (1000000 < 0) = true := decide_eq_true c16
                  clear c16
                  obtain rfl := Option.some.inj H
                  go_wp2
                  go_ret
                  exact ⟨by first | rfl | (simp; done) | (simp [*]; done), by repeat (first | exact Drawn0.refl _ | apply Drawn0.step)⟩
                · rw [if_neg c16] at H
                  have c16b0 : decide (1000000 < 0) = false := decide_eq_false c16
                  clear c16
                  obtain rfl := Option.some.inj H
                  go_wp2
                  go_ret
                  exact ⟨by first | rfl | (simp; done) | (simp [*]; done), by repeat (first | exact Drawn0.refl _ | apply Drawn0.step)⟩

end Go.Proofs.YthaaajpmiofodaaDoor.P
