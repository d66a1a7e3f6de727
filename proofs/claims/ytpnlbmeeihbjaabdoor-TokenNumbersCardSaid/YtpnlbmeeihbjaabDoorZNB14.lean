/- The law TokenNumbers (layer 2): the row and its tied card: for every input the law returns true, and the arguments read behind the call as they read before. No condition of ours. -/
import Derived.Test.YtpnlbmeeihbjaabDoorZNB7
import Derived.Test.YtpnlbmeeihbjaabDoorZNB11
import Derived.Test.YtpnlbmeeihbjaabDoorZNB13
section
set_option linter.unusedVariables false
set_option linter.unusedSimpArgs false
namespace Go.Proofs.YtpnlbmeeihbjaabDoor.P
open Go.RowKit Go.Proofs.YtpnlbmeeihbjaabDoorW.PrintWords Go.Proofs.YtpnlbmeeihbjaabDoorW.PrintLast Go.Proofs.YtpnlbmeeihbjaabDoorW.PrintMore
attribute [local go_sem] max2_int min2_int max_two min_two max_three min_three max_four min_four
set_option linter.unusedVariables false
set_option linter.unusedSimpArgs false
attribute [local go_sem high] eqA26
mutual
def gouachelaw02_TokenNumbers.j0 : Nat → Int → ByteArray → Bool → Option (Bool)
  | 0, _, _, _ => none
  | k + 1, x0, x1, x26 => if x26 = true then ((gouachelaw02_lives.f).bind fun t102 => (some t102)) else ((gouachelaw02_digits.f k x0).bind fun t103 => (if x0 > 1000000 then (gouachelaw02_TokenNumbers.j1 k x1 t103 1000000) else (gouachelaw02_TokenNumbers.j1 k x1 t103 x0)))
def gouachelaw02_TokenNumbers.j1 : Nat → ByteArray → ByteArray → Int → Option (Bool)
  | 0, _, _, _ => none
  | k + 1, x1, x5, x6 => if x6 < (-1000000) then (gouachelaw02_TokenNumbers.j2 k x1 x5 (-1000000)) else (gouachelaw02_TokenNumbers.j2 k x1 x5 x6)
def gouachelaw02_TokenNumbers.j2 : Nat → ByteArray → ByteArray → Int → Option (Bool)
  | 0, _, _, _ => none
  | k + 1, x1, x5, x6 => (gouachelaw02_cut.f x5).bind fun t104 => (if x5.size + 1 ≤ 9223372036854775807 then ((gouachelaw02_cut.f (x5 ++ (⟨#[37]⟩ : ByteArray))).bind fun t107 => ((token_Source.f k 12 x5 x1 true false).bind fun t111 => ((gouachelaw02_cut.f t111).bind fun t112 => (if (t104.length : Int) = 1 then (if (t107.length : Int) = 1 then (if (t112.length : Int) = 1 then (if 0 < (t112.length : Int) then (if (!(((rd_T26 t112 0).f0) == 12) || (!((((rd_T26 t112 0).f1).toList) == x5.toList) || (!((((rd_T26 t112 0).f2).toList) == x1.toList) || (!((rd_T26 t112 0).f3) || (((rd_T26 t112 0).f4)))))) = true then (gouachelaw02_TokenNumbers.j3 k x6 t104 t107 true) else (if 0 < (t104.length : Int) then (if ((rd_T26 t104 0).f0) = 10 then (if 0 < (t107.length : Int) then (if ((rd_T26 t107 0).f0) = 11 then (gouachelaw02_TokenNumbers.j3 k x6 t104 t107 (((rd_T26 t104 0).f1).toList != x5.toList)) else (gouachelaw02_TokenNumbers.j3 k x6 t104 t107 true)) else (none)) else (gouachelaw02_TokenNumbers.j3 k x6 t104 t107 true)) else (none))) else (none)) else (gouachelaw02_TokenNumbers.j3 k x6 t104 t107 true)) else (gouachelaw02_TokenNumbers.j3 k x6 t104 t107 true)) else (gouachelaw02_TokenNumbers.j3 k x6 t104 t107 true))))) else (none))
def gouachelaw02_TokenNumbers.j3 : Nat → Int → List (S26) → List (S26) → Bool → Option (Bool)
  | 0, _, _, _, _ => none
  | k + 1, x6, x7, x8, x87 => if x87 = true then (some false) else (if 0 < (x7.length : Int) then ((token_Int.f ((rd_T26 x7 0).f0) ((rd_T26 x7 0).f1) ((rd_T26 x7 0).f2) ((rd_T26 x7 0).f3) ((rd_T26 x7 0).f4)).bind fun bt120 => (if 0 < (x8.length : Int) then ((token_Int.f ((rd_T26 x8 0).f0) ((rd_T26 x8 0).f1) ((rd_T26 x8 0).f2) ((rd_T26 x8 0).f3) ((rd_T26 x8 0).f4)).bind fun bt123 => (if bt120.2 = true then (if bt123.2 = true then (if bt120.1 = x6 then (if bt123.1 = x6 then ((gouachelaw02_lives.f).bind fun t125 => (some t125)) else (some false)) else (some false)) else (some false)) else (some false))) else (none))) else (none))
end
def gouachelaw02_TokenNumbers.f (k : Nat) (a0 : Int) (a1 : ByteArray) : Option (Bool) := if (a1.size : Int) > 200 then (gouachelaw02_TokenNumbers.j0 k a0 a1 true) else ((gouachelaw02_clean.f a1).bind fun t101 => (if t101 = true then (gouachelaw02_TokenNumbers.j0 k a0 a1 (a1.toList == ([] : List UInt8))) else (gouachelaw02_TokenNumbers.j0 k a0 a1 true)))
set_option maxHeartbeats 8000000 in
set_option maxRecDepth 100000 in
theorem gouachelaw02_TokenNumbers.calls (k : Nat) (a0 : Int) (a1 : ByteArray) (r : Bool) (w : World) (h : gouachelaw02_TokenNumbers.f k a0 a1 = some r) (hT : WT w) :
    Calls Tryd.prog 8 #[.int .i64 a0, .string a1] w fun e w' => e = .returned (.bool r) ∧ Below w.heap.size w w' := by
  have HT := Aside0.mk hT
  clear hT
  have hu26 := Tryd.underlying26
  have HB := Aside0.mk (Below.refl w.heap.size w)
  have H : (if (a1.size : Int) > 200 then (gouachelaw02_TokenNumbers.j0 k a0 a1 true) else ((gouachelaw02_clean.f a1).bind fun t101 => (if t101 = true then (gouachelaw02_TokenNumbers.j0 k a0 a1 (a1.toList == ([] : List UInt8))) else (gouachelaw02_TokenNumbers.j0 k a0 a1 true)))) = some r := h
  clear h
  have HC3 := Aside0.mk H
  clear H
  go_enter Tryd.func8, Tryd.ntmps8
  go_upto_region 1 with (fail)
  repeat (go_quiet (fail); go_upto_region 1 with (fail))
  go_cut [26] (fun v26 wc => ∃ (kq : Nat) (x26_2 : Bool), v26 = .bool x26_2 ∧ Aside0 (gouachelaw02_TokenNumbers.j0 kq a0 a1 x26_2 = some r) ∧ Aside0 (kq ≤ k) ∧ Aside0 (Below w.heap.size w wc))
  case first =>
    have H := HC3.out
    clear HC3
    by_cases c4 : (a1.size : Int) > 200
    · rw [if_pos c4] at H
      have c4b0 : decide (200 < (a1.size : Int)) = true := decide_eq_true c4
      have c4b1 : decide (200 < a1.size) = true := decide_eq_true (by omega)
      clear c4
      (first | rw [c4b0] | (simp only [i64_w, i32_w]; rw [c4b0]) | skip)
      have H' := Aside0.mk H
      clear H
      go_wp2
      repeat (go_quiet (fail); try go_wp2)
      go_meet
      case rel => exact ⟨_, (true), (by first | rfl | (simp; done) | (simp [*]; done)), H', ⟨by first | omega | exact Nat.le_refl _⟩, ⟨by repeat (first | (with_reducible first | exact HB.out | apply below_alloc | apply pw_below_drewN | apply below_drew1) | exact HB.out)⟩⟩
    · rw [if_neg c4] at H
      have c4b0 : decide (200 < (a1.size : Int)) = false := decide_eq_false c4
      have c4b1 : decide (200 < a1.size) = false := decide_eq_false (by omega)
      clear c4
      (first | rw [c4b0] | (simp only [i64_w, i32_w]; rw [c4b0]) | skip)
      replace H := Option.bind_eq_some_iff.mp H
      obtain ⟨t101, A50, H⟩ := H
      replace H : (if t101 = true then (gouachelaw02_TokenNumbers.j0 k a0 a1 (a1.toList == ([] : List UInt8))) else (gouachelaw02_TokenNumbers.j0 k a0 a1 true)) = some r := H
      have A5 := Aside0.mk A50
      clear A50
      by_cases c6 : t101 = true
      · subst c6
        have H1 : (gouachelaw02_TokenNumbers.j0 k a0 a1 (a1.toList == ([] : List UInt8))) = some r := by rw [if_pos rfl] at H; exact H
        clear H
        have H := H1
        clear H1
        have H' := Aside0.mk H
        clear H
        go_wp2_with (first | (go_at_call 12; (with_reducible refine (gouachelaw02_clean.calls a1 true _ A5.out).mono ?_); rintro e w7 ⟨rfl, hb⟩; have n0_ := Aside0.mk (below_step (by repeat (first | (with_reducible first | exact HB.out | apply below_alloc | apply pw_below_drewN | apply below_drew1) | exact HB.out)) hb); clear HB; have HB := n0_; clear n0_; (try clear hb); (try clear hb2); (try clear hk); (try clear hi)))
        repeat (go_quiet (first | (go_at_call 12; (with_reducible refine (gouachelaw02_clean.calls a1 true _ A5.out).mono ?_); rintro e w7 ⟨rfl, hb⟩; have n0_ := Aside0.mk (below_step (by repeat (first | (with_reducible first | exact HB.out | apply below_alloc | apply pw_below_drewN | apply below_drew1) | exact HB.out)) hb); clear HB; have HB := n0_; clear n0_; (try clear hb); (try clear hb2); (try clear hk); (try clear hi))); try go_wp2_with (first | (go_at_call 12; (with_reducible refine (gouachelaw02_clean.calls a1 true _ A5.out).mono ?_); rintro e w7 ⟨rfl, hb⟩; have n0_ := Aside0.mk (below_step (by repeat (first | (with_reducible first | exact HB.out | apply below_alloc | apply pw_below_drewN | apply below_drew1) | exact HB.out)) hb); clear HB; have HB := n0_; clear n0_; (try clear hb); (try clear hb2); (try clear hk); (try clear hi))))
        go_meet
        case rel => exact ⟨_, ((a1.toList == ([] : List UInt8))), (by first | rfl | (simp; done) | (simp [*]; done)), H', ⟨by first | omega | exact Nat.le_refl _⟩, ⟨by repeat (first | (with_reducible first | exact HB.out | apply below_alloc | apply pw_below_drewN | apply below_drew1) | exact HB.out)⟩⟩
      · replace c6 := Bool.eq_false_iff.mpr c6
        subst c6
        have H1 : (gouachelaw02_TokenNumbers.j0 k a0 a1 true) = some r := by rw [if_neg (show ¬ (false = true) by decide)] at H; exact H
        clear H
        have H := H1
        clear H1
        have H' := Aside0.mk H
        clear H
        go_wp2_with (first | (go_at_call 12; (with_reducible refine (gouachelaw02_clean.calls a1 false _ A5.out).mono ?_); rintro e w8 ⟨rfl, hb⟩; have n0_ := Aside0.mk (below_step (by repeat (first | (with_reducible first | exact HB.out | apply below_alloc | apply pw_below_drewN | apply below_drew1) | exact HB.out)) hb); clear HB; have HB := n0_; clear n0_; (try clear hb); (try clear hb2); (try clear hk); (try clear hi)))
        repeat (go_quiet (first | (go_at_call 12; (with_reducible refine (gouachelaw02_clean.calls a1 false _ A5.out).mono ?_); rintro e w8 ⟨rfl, hb⟩; have n0_ := Aside0.mk (below_step (by repeat (first | (with_reducible first | exact HB.out | apply below_alloc | apply pw_below_drewN | apply below_drew1) | exact HB.out)) hb); clear HB; have HB := n0_; clear n0_; (try clear hb); (try clear hb2); (try clear hk); (try clear hi))); try go_wp2_with (first | (go_at_call 12; (with_reducible refine (gouachelaw02_clean.calls a1 false _ A5.out).mono ?_); rintro e w8 ⟨rfl, hb⟩; have n0_ := Aside0.mk (below_step (by repeat (first | (with_reducible first | exact HB.out | apply below_alloc | apply pw_below_drewN | apply below_drew1) | exact HB.out)) hb); clear HB; have HB := n0_; clear n0_; (try clear hb); (try clear hb2); (try clear hk); (try clear hi))))
        go_meet
        case rel => exact ⟨_, (true), (by first | rfl | (simp; done) | (simp [*]; done)), H', ⟨by first | omega | exact Nat.le_refl _⟩, ⟨by repeat (first | (with_reducible first | exact HB.out | apply below_alloc | apply pw_below_drewN | apply below_drew1) | exact HB.out)⟩⟩
  case rest =>
    clear HC3
    try clear p2
    try clear c4
    try clear c4b0
    try clear c4b1
    try clear c6
    try clear c8
    obtain ⟨kq, x26_2, rfl, HA, HJ2, HB⟩ := hcut
    cases kq with
    | zero => exact absurd HA.out (by simp [gouachelaw02_TokenNumbers.j0])
    | succ kj2 =>
      have H := HA.out
      clear HA
      simp only [gouachelaw02_TokenNumbers.j0] at H
      by_cases c9 : x26_2 = true
      · subst c9
        have H1 : ((gouachelaw02_lives.f).bind fun t102 => (some t102)) = some r := by rw [if_pos rfl] at H; exact H
        clear H
        have H := H1
        clear H1
        replace H := Option.bind_eq_some_iff.mp H
        obtain ⟨t102, A100, H⟩ := H
        replace H : (some t102) = some r := H
        have A10 := Aside0.mk A100
        clear A100
        obtain rfl := Option.some.inj H
        go_wp2_with (first | (go_at_call 9; (with_reducible refine (gouachelaw02_lives.calls  t102 _ A10.out (HT.out.below (by repeat (first | (with_reducible first | exact HB.out | apply below_alloc | apply pw_below_drewN | apply below_drew1) | exact HB.out)))).mono ?_); rintro e w11 ⟨rfl, hb⟩; have n0_ := Aside0.mk (below_step (by repeat (first | (with_reducible first | exact HB.out | apply below_alloc | apply pw_below_drewN | apply below_drew1) | exact HB.out)) hb); clear HB; have HB := n0_; clear n0_; (try clear hb); (try clear hb2); (try clear hk); (try clear hi)))
        repeat (go_quiet (first | (go_at_call 9; (with_reducible refine (gouachelaw02_lives.calls  t102 _ A10.out (HT.out.below (by repeat (first | (with_reducible first | exact HB.out | apply below_alloc | apply pw_below_drewN | apply below_drew1) | exact HB.out)))).mono ?_); rintro e w11 ⟨rfl, hb⟩; have n0_ := Aside0.mk (below_step (by repeat (first | (with_reducible first | exact HB.out | apply below_alloc | apply pw_below_drewN | apply below_drew1) | exact HB.out)) hb); clear HB; have HB := n0_; clear n0_; (try clear hb); (try clear hb2); (try clear hk); (try clear hi))); try go_wp2_with (first | (go_at_call 9; (with_reducible refine (gouachelaw02_lives.calls  t102 _ A10.out (HT.out.below (by repeat (first | (with_reducible first | exact HB.out | apply below_alloc | apply pw_below_drewN | apply below_drew1) | exact HB.out)))).mono ?_); rintro e w11 ⟨rfl, hb⟩; have n0_ := Aside0.mk (below_step (by repeat (first | (with_reducible first | exact HB.out | apply below_alloc | apply pw_below_drewN | apply below_drew1) | exact HB.out)) hb); clear HB; have HB := n0_; clear n0_; (try clear hb); (try clear hb2); (try clear hk); (try clear hi))))
        go_ret
        exact ⟨by first | rfl | (simp [errW_none, errW_some] <;> rfl) | (simp [*, errW_none, errW_some] <;> rfl), by repeat (first | (with_reducible first | exact HB.out | apply below_alloc | apply pw_below_drewN | apply below_drew1) | exact HB.out)⟩
      · replace c9 := Bool.eq_false_iff.mpr c9
        subst c9
        have H1 : ((gouachelaw02_digits.f kj2 a0).bind fun t103 => (if a0 > 1000000 then (gouachelaw02_TokenNumbers.j1 kj2 a1 t103 1000000) else (gouachelaw02_TokenNumbers.j1 kj2 a1 t103 a0))) = some r := by rw [if_neg (show ¬ (false = true) by decide)] at H; exact H
        clear H
        have H := H1
        clear H1
        replace H := Option.bind_eq_some_iff.mp H
        obtain ⟨t103, A120, H⟩ := H
        replace H : (if a0 > 1000000 then (gouachelaw02_TokenNumbers.j1 kj2 a1 t103 1000000) else (gouachelaw02_TokenNumbers.j1 kj2 a1 t103 a0)) = some r := H
        have A12 := Aside0.mk A120
        clear A120
        have HC13 := Aside0.mk H
        clear H
        go_upto_if 32 with (first | (go_at_call 22; (with_reducible refine (gouachelaw02_digits.calls kj2 a0 t103 _ A12.out).mono ?_); rintro e w' ⟨rfl, ⟨nd, rfl⟩⟩; (try first | exact ⟨rfl, _, World.drewN_drewN _ _ _⟩ | exact ⟨rfl, _, Eq.trans (World.drewN_drewN _ _ _) (congrArg (World.drewN _) (Nat.add_assoc _ _ _))⟩)))
        repeat (go_quiet (first | (go_at_call 22; (with_reducible refine (gouachelaw02_digits.calls kj2 a0 t103 _ A12.out).mono ?_); rintro e w' ⟨rfl, ⟨nd, rfl⟩⟩; (try first | exact ⟨rfl, _, World.drewN_drewN _ _ _⟩ | exact ⟨rfl, _, Eq.trans (World.drewN_drewN _ _ _) (congrArg (World.drewN _) (Nat.add_assoc _ _ _))⟩))); go_upto_if 32 with (first | (go_at_call 22; (with_reducible refine (gouachelaw02_digits.calls kj2 a0 t103 _ A12.out).mono ?_); rintro e w' ⟨rfl, ⟨nd, rfl⟩⟩; (try first | exact ⟨rfl, _, World.drewN_drewN _ _ _⟩ | exact ⟨rfl, _, Eq.trans (World.drewN_drewN _ _ _) (congrArg (World.drewN _) (Nat.add_assoc _ _ _))⟩))))
        (try simp only [Act.put, List.setIfInBounds_toArray, List.set_cons_zero, List.set_cons_succ])
        go_cut [6] (fun v6 wc => ∃ (kq : Nat) (x6_12 : Int), v6 = .int .i64 x6_12 ∧ Aside0 (gouachelaw02_TokenNumbers.j1 kq a1 t103 x6_12 = some r) ∧ Aside0 (kq ≤ kj2) ∧ Aside0 (Below w.heap.size w wc))
        case first =>
          have H := HC13.out
          clear HC13
          by_cases c14 : a0 > 1000000
          · rw [if_pos c14] at H
            have c14b0 : decide (1000000 < a0) = true := decide_eq_true c14
            clear c14
            (first | rw [c14b0] | (simp only [i64_w, i32_w]; rw [c14b0]) | skip)
            have H' := Aside0.mk H
            clear H
            go_wp2
            repeat (go_quiet (fail); try go_wp2)
            go_meet
            case rel => exact ⟨_, (1000000), (by first | rfl | (simp; done) | (simp [*]; done)), H', ⟨by have := HJ2.out; first | omega | exact Nat.le_refl _⟩, ⟨by repeat (first | (with_reducible first | exact HB.out | apply below_alloc | apply pw_below_drewN | apply below_drew1) | exact HB.out)⟩⟩
          · rw [if_neg c14] at H
            have c14b0 : decide (1000000 < a0) = false := decide_eq_false c14
            clear c14
            (first | rw [c14b0] | (simp only [i64_w, i32_w]; rw [c14b0]) | skip)
            have H' := Aside0.mk H
            clear H
            go_wp2
            repeat (go_quiet (fail); try go_wp2)
            go_meet
            case rel => exact ⟨_, (a0), (by first | rfl | (simp; done) | (simp [*]; done)), H', ⟨by have := HJ2.out; first | omega | exact Nat.le_refl _⟩, ⟨by repeat (first | (with_reducible first | exact HB.out | apply below_alloc | apply pw_below_drewN | apply below_drew1) | exact HB.out)⟩⟩
        case rest =>
          clear HC13
          try clear c1
          try clear p2
          try clear c4
          try clear c4b0
          try clear c4b1
          try clear c6
          try clear c8
          try clear c9
          try clear c14
          try clear c14b0
          try clear p2
          obtain ⟨kq, x6_12, rfl, HA, HJ12, HB⟩ := hcut
          cases kq with
          | zero => exact absurd HA.out (by simp [gouachelaw02_TokenNumbers.j1])
          | succ kj12 =>
            have H := HA.out
            clear HA
            simp only [gouachelaw02_TokenNumbers.j1] at H
            have HC15 := Aside0.mk H
            clear H
            go_upto_if 34 with (fail)
            repeat (go_quiet (fail); go_upto_if 34 with (fail))
            go_cut [6] (fun v6 wc => ∃ (kq : Nat) (x6_14 : Int), v6 = .int .i64 x6_14 ∧ Aside0 (gouachelaw02_TokenNumbers.j2 kq a1 t103 x6_14 = some r) ∧ Aside0 (kq ≤ kj12) ∧ Aside0 (Below w.heap.size w wc))
            case first =>
              have H := HC15.out
              clear HC15
              by_cases c16 : x6_12 < (-1000000)
              · rw [if_pos c16] at H
                have c16b0 : decide (x6_12 < (-1000000)) = true := decide_eq_true c16
                clear c16
                (first | rw [c16b0] | (simp only [i64_w, i32_w]; rw [c16b0]) | skip)
                have H' := Aside0.mk H
                clear H
                go_wp2
                repeat (go_quiet (fail); try go_wp2)
                go_meet
                case rel => exact ⟨_, ((-1000000)), (by first | rfl | (simp; done) | (simp [*]; done)), H', ⟨by have := HJ2.out; have := HJ12.out; first | omega | exact Nat.le_refl _⟩, ⟨by repeat (first | (with_reducible first | exact HB.out | apply below_alloc | apply pw_below_drewN | apply below_drew1) | exact HB.out)⟩⟩
              · rw [if_neg c16] at H
                have c16b0 : decide (x6_12 < (-1000000)) = false := decide_eq_false c16
                clear c16
                (first | rw [c16b0] | (simp only [i64_w, i32_w]; rw [c16b0]) | skip)
                have H' := Aside0.mk H
                clear H
                go_wp2
                repeat (go_quiet (fail); try go_wp2)
                go_meet
                case rel => exact ⟨_, (x6_12), (by first | rfl | (simp; done) | (simp [*]; done)), H', ⟨by have := HJ2.out; have := HJ12.out; first | omega | exact Nat.le_refl _⟩, ⟨by repeat (first | (with_reducible first | exact HB.out | apply below_alloc | apply pw_below_drewN | apply below_drew1) | exact HB.out)⟩⟩
            case rest =>
              clear HC15
              try clear c1
              try clear p2
              try clear c4
              try clear c4b0
              try clear c4b1
              try clear c6
              try clear c8
              try clear c9
              try clear c14
              try clear c14b0
              try clear c16
              try clear c16b0
              try clear p2
              obtain ⟨kq, x6_14, rfl, HA, HJ14, HB⟩ := hcut
              cases kq with
              | zero => exact absurd HA.out (by simp [gouachelaw02_TokenNumbers.j2])
              | succ kj14 =>
                have H := HA.out
                clear HA
                simp only [gouachelaw02_TokenNumbers.j2] at H
                replace H := Option.bind_eq_some_iff.mp H
                obtain ⟨t104, A170, H⟩ := H
                replace H : (if t103.size + 1 ≤ 9223372036854775807 then ((gouachelaw02_cut.f (t103 ++ (⟨#[37]⟩ : ByteArray))).bind fun t107 => ((token_Source.f kj14 12 t103 a1 true false).bind fun t111 => ((gouachelaw02_cut.f t111).bind fun t112 => (if (t104.length : Int) = 1 then (if (t107.length : Int) = 1 then (if (t112.length : Int) = 1 then (if 0 < (t112.length : Int) then (if (!(((rd_T26 t112 0).f0) == 12) || (!((((rd_T26 t112 0).f1).toList) == t103.toList) || (!((((rd_T26 t112 0).f2).toList) == a1.toList) || (!((rd_T26 t112 0).f3) || (((rd_T26 t112 0).f4)))))) = true then (gouachelaw02_TokenNumbers.j3 kj14 x6_14 t104 t107 true) else (if 0 < (t104.length : Int) then (if ((rd_T26 t104 0).f0) = 10 then (if 0 < (t107.length : Int) then (if ((rd_T26 t107 0).f0) = 11 then (gouachelaw02_TokenNumbers.j3 kj14 x6_14 t104 t107 (((rd_T26 t104 0).f1).toList != t103.toList)) else (gouachelaw02_TokenNumbers.j3 kj14 x6_14 t104 t107 true)) else (none)) else (gouachelaw02_TokenNumbers.j3 kj14 x6_14 t104 t107 true)) else (none))) else (none)) else (gouachelaw02_TokenNumbers.j3 kj14 x6_14 t104 t107 true)) else (gouachelaw02_TokenNumbers.j3 kj14 x6_14 t104 t107 true)) else (gouachelaw02_TokenNumbers.j3 kj14 x6_14 t104 t107 true))))) else (none)) = some r := H
                have A17 := Aside0.mk A170
                clear A170
                by_cases c18 : t103.size + 1 ≤ 9223372036854775807
                · rw [if_pos c18] at H
                  have c18b0 := eq_true c18
                  have c18b1 : decide (t103.size + 1 ≤ 9223372036854775807) = true := decide_eq_true c18
                  try have c18b2 : (9223372036854775807 < t103.size + 1) = False := eq_false (Nat.not_lt.2 c18)
                  replace H := Option.bind_eq_some_iff.mp H
                  obtain ⟨t107, A190, H⟩ := H
                  replace H : ((token_Source.f kj14 12 t103 a1 true false).bind fun t111 => ((gouachelaw02_cut.f t111).bind fun t112 => (if (t104.length : Int) = 1 then (if (t107.length : Int) = 1 then (if (t112.length : Int) = 1 then (if 0 < (t112.length : Int) then (if (!(((rd_T26 t112 0).f0) == 12) || (!((((rd_T26 t112 0).f1).toList) == t103.toList) || (!((((rd_T26 t112 0).f2).toList) == a1.toList) || (!((rd_T26 t112 0).f3) || (((rd_T26 t112 0).f4)))))) = true then (gouachelaw02_TokenNumbers.j3 kj14 x6_14 t104 t107 true) else (if 0 < (t104.length : Int) then (if ((rd_T26 t104 0).f0) = 10 then (if 0 < (t107.length : Int) then (if ((rd_T26 t107 0).f0) = 11 then (gouachelaw02_TokenNumbers.j3 kj14 x6_14 t104 t107 (((rd_T26 t104 0).f1).toList != t103.toList)) else (gouachelaw02_TokenNumbers.j3 kj14 x6_14 t104 t107 true)) else (none)) else (gouachelaw02_TokenNumbers.j3 kj14 x6_14 t104 t107 true)) else (none))) else (none)) else (gouachelaw02_TokenNumbers.j3 kj14 x6_14 t104 t107 true)) else (gouachelaw02_TokenNumbers.j3 kj14 x6_14 t104 t107 true)) else (gouachelaw02_TokenNumbers.j3 kj14 x6_14 t104 t107 true)))) = some r := H
                  have A19 := Aside0.mk A190
                  clear A190
                  replace H := Option.bind_eq_some_iff.mp H
                  obtain ⟨t111, A200, H⟩ := H
                  replace H : ((gouachelaw02_cut.f t111).bind fun t112 => (if (t104.length : Int) = 1 then (if (t107.length : Int) = 1 then (if (t112.length : Int) = 1 then (if 0 < (t112.length : Int) then (if (!(((rd_T26 t112 0).f0) == 12) || (!((((rd_T26 t112 0).f1).toList) == t103.toList) || (!((((rd_T26 t112 0).f2).toList) == a1.toList) || (!((rd_T26 t112 0).f3) || (((rd_T26 t112 0).f4)))))) = true then (gouachelaw02_TokenNumbers.j3 kj14 x6_14 t104 t107 true) else (if 0 < (t104.length : Int) then (if ((rd_T26 t104 0).f0) = 10 then (if 0 < (t107.length : Int) then (if ((rd_T26 t107 0).f0) = 11 then (gouachelaw02_TokenNumbers.j3 kj14 x6_14 t104 t107 (((rd_T26 t104 0).f1).toList != t103.toList)) else (gouachelaw02_TokenNumbers.j3 kj14 x6_14 t104 t107 true)) else (none)) else (gouachelaw02_TokenNumbers.j3 kj14 x6_14 t104 t107 true)) else (none))) else (none)) else (gouachelaw02_TokenNumbers.j3 kj14 x6_14 t104 t107 true)) else (gouachelaw02_TokenNumbers.j3 kj14 x6_14 t104 t107 true)) else (gouachelaw02_TokenNumbers.j3 kj14 x6_14 t104 t107 true))) = some r := H
                  have A20 := Aside0.mk A200
                  clear A200
                  replace H := Option.bind_eq_some_iff.mp H
                  obtain ⟨t112, A210, H⟩ := H
                  replace H : (if (t104.length : Int) = 1 then (if (t107.length : Int) = 1 then (if (t112.length : Int) = 1 then (if 0 < (t112.length : Int) then (if (!(((rd_T26 t112 0).f0) == 12) || (!((((rd_T26 t112 0).f1).toList) == t103.toList) || (!((((rd_T26 t112 0).f2).toList) == a1.toList) || (!((rd_T26 t112 0).f3) || (((rd_T26 t112 0).f4)))))) = true then (gouachelaw02_TokenNumbers.j3 kj14 x6_14 t104 t107 true) else (if 0 < (t104.length : Int) then (if ((rd_T26 t104 0).f0) = 10 then (if 0 < (t107.length : Int) then (if ((rd_T26 t107 0).f0) = 11 then (gouachelaw02_TokenNumbers.j3 kj14 x6_14 t104 t107 (((rd_T26 t104 0).f1).toList != t103.toList)) else (gouachelaw02_TokenNumbers.j3 kj14 x6_14 t104 t107 true)) else (none)) else (gouachelaw02_TokenNumbers.j3 kj14 x6_14 t104 t107 true)) else (none))) else (none)) else (gouachelaw02_TokenNumbers.j3 kj14 x6_14 t104 t107 true)) else (gouachelaw02_TokenNumbers.j3 kj14 x6_14 t104 t107 true)) else (gouachelaw02_TokenNumbers.j3 kj14 x6_14 t104 t107 true)) = some r := H
                  have A21 := Aside0.mk A210
                  clear A210
                  have HC22 := Aside0.mk H
                  clear H
                  go_upto_region 12 with (first | (go_at_call 10; (with_reducible refine (gouachelaw02_cut.calls t103 t104 _ A17.out).mono ?_); rintro e w23 ⟨v105, rfl, ho0, hb⟩; have n0_ := Aside0.mk (Kd.R_lower ho0 (below_size (by repeat (first | (with_reducible first | exact HB.out | apply below_alloc | apply pw_below_drewN | apply below_drew1) | exact HB.out)))); have n1_ := Aside0.mk (below_step (by repeat (first | (with_reducible first | exact HB.out | apply below_alloc | apply pw_below_drewN | apply below_drew1) | exact HB.out)) hb); clear HB; have HO106 := n0_; have HB := n1_; clear n0_ n1_; (try clear hb); (try clear hb2); (try clear hk); (try clear hi); (try clear ho0)) | (go_at_call 10; (with_reducible refine (gouachelaw02_cut.calls (t103 ++ (⟨#[37]⟩ : ByteArray)) t107 _ A19.out).mono ?_); rintro e w24 ⟨v108, rfl, ho0, hb⟩; have n0_ := Aside0.mk (Kd.R_elder' (by (with_reducible repeat (first | apply Kd.R_alloc | apply Kd.R_drewN | apply Kd.R_drew)); exact HO106.out) (Kd.R_base ho0) hb); have n1_ := Aside0.mk (Kd.R_lower (Kd.R_new' ho0 (Kd.R_lt (by (with_reducible repeat (first | apply Kd.R_alloc | apply Kd.R_drewN | apply Kd.R_drew)); exact HO106.out))) (below_size (by repeat (first | (with_reducible first | exact HB.out | apply below_alloc | apply pw_below_drewN | apply below_drew1) | exact HB.out)))); have n2_ := Aside0.mk (below_step (by repeat (first | (with_reducible first | exact HB.out | apply below_alloc | apply pw_below_drewN | apply below_drew1) | exact HB.out)) hb); clear HO106; clear HB; have HO106 := n0_; have HO109 := n1_; have HB := n2_; clear n0_ n1_ n2_; (try clear hb); (try clear hb2); (try clear hk); (try clear hi); (try clear ho0)) | ((with_reducible refine gate_dst (N := 9) rfl ?_); (try (refine gate_guard (by rfl) ?_; dsimp only)); refine box_event ?hg (N := 9) ?hd (cs := #[.int .i64 0, .string (⟨#[]⟩ : ByteArray), .string (⟨#[]⟩ : ByteArray), .bool false, .bool false]) (t := 26) ?hr ?_; (case hd => rfl); (case hg => rfl); (case hr => first | (go_simp; done) | (go_simp; rfl)); intro gb110 hg w25 hbox hb; have n0_ := Aside0.mk (Kd.R_below (Kd.R_elderB (by (with_reducible repeat (first | apply Kd.R_alloc | apply Kd.R_drewN | apply Kd.R_drew)); exact HO106.out) gb110 (Nat.le_of_eq hg.symm)) hb); have n1_ := Aside0.mk (Kd.R_below (Kd.R_elderB (by (with_reducible repeat (first | apply Kd.R_alloc | apply Kd.R_drewN | apply Kd.R_drew)); exact HO109.out) gb110 (Nat.le_of_eq hg.symm)) hb); have n2_ := Aside0.mk (below_step (by repeat (first | (with_reducible first | exact HB.out | apply below_alloc | apply pw_below_drewN | apply below_drew1) | exact HB.out)) hb); have n3_ := Aside0.mk (hbox); have n4_ := Aside0.mk ((by rw [hg]; exact (below_size (by repeat (first | (with_reducible first | exact HB.out | apply below_alloc | apply pw_below_drewN | apply below_drew1) | exact HB.out))) : w.heap.size ≤ gb110)); have n5_ := Aside0.mk ((by rw [hg]; exact (below_size (by repeat (first | (with_reducible first | exact HB.out | apply below_alloc | apply pw_below_drewN | apply below_drew1) | exact HB.out))) : w.heap.size ≤ gb110)); clear HO106; clear HO109; clear HB; have HO106 := n0_; have HO109 := n1_; have HB := n2_; have BK110 := n3_; have GW110 := n4_; have GE110 := n5_; clear n0_ n1_ n2_ n3_ n4_ n5_; clear hb hbox hg; have hcz26_0 : w25.cell? ⟨gb110, 0, none⟩ = some (.int .i64 0) := (blk_cell BK110.out 0).trans rfl; have hcz26_1 : w25.cell? ⟨gb110, 1, none⟩ = some (.string (⟨#[]⟩ : ByteArray)) := (blk_cell BK110.out 1).trans rfl; have hcz26_2 : w25.cell? ⟨gb110, 2, none⟩ = some (.string (⟨#[]⟩ : ByteArray)) := (blk_cell BK110.out 2).trans rfl; have hcz26_3 : w25.cell? ⟨gb110, 3, none⟩ = some (.bool false) := (blk_cell BK110.out 3).trans rfl; have hcz26_4 : w25.cell? ⟨gb110, 4, none⟩ = some (.bool false) := (blk_cell BK110.out 4).trans rfl; have hfz26_0 := blk_frozen BK110.out 0; have hfz26_1 := blk_frozen BK110.out 1; have hfz26_2 := blk_frozen BK110.out 2; have hfz26_3 := blk_frozen BK110.out 3; have hfz26_4 := blk_frozen BK110.out 4) | (go_at_call 16; (with_reducible refine (token_Source.calls kj14 12 t103 a1 true false t111 _ A20.out (HT.out.below (below_set (below_set (below_set (below_set (below_set HB.out GE110.out) GE110.out) GE110.out) GE110.out) GE110.out))).mono ?_); rintro e w27 ⟨rfl, hb⟩; have n0_ := Aside0.mk (Kd.R_below (by (with_reducible repeat (first | apply Kd.R_alloc | apply Kd.R_drewN | apply Kd.R_drew)); exact (Kd.R_mono (Kd.R_far (p := ⟨gb110, 4, none⟩) (Kd.R_far (p := ⟨gb110, 3, none⟩) (Kd.R_far (p := ⟨gb110, 2, none⟩) (Kd.R_far (p := ⟨gb110, 1, none⟩) (Kd.R_far (p := ⟨gb110, 0, none⟩) (Kd.R_mono HO106.out (fun k_ hk => (⟨hk, hk.2⟩ : _ ∧ k_ ≠ gb110))) (fun _ hk => hk.2) (.int .i64 12)) (fun _ hk => hk.2) (.string t103)) (fun _ hk => hk.2) (.string a1)) (fun _ hk => hk.2) (.bool true)) (fun _ hk => hk.2) (.bool false)) (fun _ h_ => h_.1))) hb); have n1_ := Aside0.mk (Kd.R_below (by (with_reducible repeat (first | apply Kd.R_alloc | apply Kd.R_drewN | apply Kd.R_drew)); exact (Kd.R_mono (Kd.R_far (p := ⟨gb110, 4, none⟩) (Kd.R_far (p := ⟨gb110, 3, none⟩) (Kd.R_far (p := ⟨gb110, 2, none⟩) (Kd.R_far (p := ⟨gb110, 1, none⟩) (Kd.R_far (p := ⟨gb110, 0, none⟩) (Kd.R_mono HO109.out (fun k_ hk => (⟨hk, hk.2⟩ : _ ∧ k_ ≠ gb110))) (fun _ hk => hk.2) (.int .i64 12)) (fun _ hk => hk.2) (.string t103)) (fun _ hk => hk.2) (.string a1)) (fun _ hk => hk.2) (.bool true)) (fun _ hk => hk.2) (.bool false)) (fun _ h_ => h_.1))) hb); have n2_ := Aside0.mk (blk_below (g := gb110) (o := .cells #[.int .i64 12, .string t103, .string a1, .bool true, .bool false] 26 (0, 0)) (by (with_reducible repeat (first | refine blk_drewN ?_ _ | refine blk_drew ?_ | refine blk_alloc ?_ _)); refine blk_put (cs := #[.int .i64 12, .string t103, .string a1, .bool true, .bool false]) ?_ 4 _ rfl; (with_reducible repeat (first | refine blk_drewN ?_ _ | refine blk_drew ?_ | refine blk_alloc ?_ _)); refine blk_put (cs := #[.int .i64 12, .string t103, .string a1, .bool false, .bool false]) ?_ 3 _ rfl; (with_reducible repeat (first | refine blk_drewN ?_ _ | refine blk_drew ?_ | refine blk_alloc ?_ _)); refine blk_put (cs := #[.int .i64 12, .string t103, .string (⟨#[]⟩ : ByteArray), .bool false, .bool false]) ?_ 2 _ rfl; (with_reducible repeat (first | refine blk_drewN ?_ _ | refine blk_drew ?_ | refine blk_alloc ?_ _)); refine blk_put (cs := #[.int .i64 12, .string (⟨#[]⟩ : ByteArray), .string (⟨#[]⟩ : ByteArray), .bool false, .bool false]) ?_ 1 _ rfl; (with_reducible repeat (first | refine blk_drewN ?_ _ | refine blk_drew ?_ | refine blk_alloc ?_ _)); refine blk_put (cs := #[.int .i64 0, .string (⟨#[]⟩ : ByteArray), .string (⟨#[]⟩ : ByteArray), .bool false, .bool false]) ?_ 0 _ rfl; (with_reducible repeat (first | refine blk_drewN ?_ _ | refine blk_drew ?_ | refine blk_alloc ?_ _)); exact BK110.out) hb); have n3_ := Aside0.mk (below_step (by repeat (first | (with_reducible first | exact HB.out | apply below_alloc | apply pw_below_drewN | apply below_drew1 | refine below_set ?_ GE110.out) | exact HB.out)) hb); clear HO106; clear HO109; clear BK110; clear HB; have HO106 := n0_; have HO109 := n1_; have BK110 := n2_; have HB := n3_; clear n0_ n1_ n2_ n3_; (try clear hb); (try clear hb2); (try clear hk); (try clear hi)) | (go_at_call 10; (with_reducible refine (gouachelaw02_cut.calls t111 t112 _ A21.out).mono ?_); rintro e w28 ⟨v113, rfl, ho0, hb⟩; have n0_ := Aside0.mk (Kd.R_elder' (by (with_reducible repeat (first | apply Kd.R_alloc | apply Kd.R_drewN | apply Kd.R_drew)); exact HO106.out) (Kd.R_base ho0) hb); have n1_ := Aside0.mk (Kd.R_elder' (by (with_reducible repeat (first | apply Kd.R_alloc | apply Kd.R_drewN | apply Kd.R_drew)); exact HO109.out) (Kd.R_base ho0) hb); have n2_ := Aside0.mk (Kd.R_lower (Kd.R_newB (Kd.R_new' (Kd.R_new' ho0 (Kd.R_lt (by (with_reducible repeat (first | apply Kd.R_alloc | apply Kd.R_drewN | apply Kd.R_drew)); exact HO106.out))) (Kd.R_lt (by (with_reducible repeat (first | apply Kd.R_alloc | apply Kd.R_drewN | apply Kd.R_drew)); exact HO109.out))) (g := gb110) (o := .cells #[.int .i64 12, .string t103, .string a1, .bool true, .bool false] 26 (0, 0)) (by (with_reducible repeat (first | refine blk_drewN ?_ _ | refine blk_drew ?_ | refine blk_alloc ?_ _)); exact BK110.out)) (below_size (by repeat (first | (with_reducible first | exact HB.out | apply below_alloc | apply pw_below_drewN | apply below_drew1 | refine below_set ?_ GE110.out) | exact HB.out)))); have n3_ := Aside0.mk (blk_below (g := gb110) (o := .cells #[.int .i64 12, .string t103, .string a1, .bool true, .bool false] 26 (0, 0)) (by (with_reducible repeat (first | refine blk_drewN ?_ _ | refine blk_drew ?_ | refine blk_alloc ?_ _)); exact BK110.out) hb); have n4_ := Aside0.mk (below_step (by repeat (first | (with_reducible first | exact HB.out | apply below_alloc | apply pw_below_drewN | apply below_drew1 | refine below_set ?_ GE110.out) | exact HB.out)) hb); clear HO106; clear HO109; clear BK110; clear HB; have HO106 := n0_; have HO109 := n1_; have HO114 := n2_; have BK110 := n3_; have HB := n4_; clear n0_ n1_ n2_ n3_ n4_; (try clear hb); (try clear hb2); (try clear hk); (try clear hi); (try clear ho0)))
                  repeat (go_quiet (first | (go_at_call 10; (with_reducible refine (gouachelaw02_cut.calls t103 t104 _ A17.out).mono ?_); rintro e w23 ⟨v105, rfl, ho0, hb⟩; have n0_ := Aside0.mk (Kd.R_lower ho0 (below_size (by repeat (first | (with_reducible first | exact HB.out | apply below_alloc | apply pw_below_drewN | apply below_drew1) | exact HB.out)))); have n1_ := Aside0.mk (below_step (by repeat (first | (with_reducible first | exact HB.out | apply below_alloc | apply pw_below_drewN | apply below_drew1) | exact HB.out)) hb); clear HB; have HO106 := n0_; have HB := n1_; clear n0_ n1_; (try clear hb); (try clear hb2); (try clear hk); (try clear hi); (try clear ho0)) | (go_at_call 10; (with_reducible refine (gouachelaw02_cut.calls (t103 ++ (⟨#[37]⟩ : ByteArray)) t107 _ A19.out).mono ?_); rintro e w24 ⟨v108, rfl, ho0, hb⟩; have n0_ := Aside0.mk (Kd.R_elder' (by (with_reducible repeat (first | apply Kd.R_alloc | apply Kd.R_drewN | apply Kd.R_drew)); exact HO106.out) (Kd.R_base ho0) hb); have n1_ := Aside0.mk (Kd.R_lower (Kd.R_new' ho0 (Kd.R_lt (by (with_reducible repeat (first | apply Kd.R_alloc | apply Kd.R_drewN | apply Kd.R_drew)); exact HO106.out))) (below_size (by repeat (first | (with_reducible first | exact HB.out | apply below_alloc | apply pw_below_drewN | apply below_drew1) | exact HB.out)))); have n2_ := Aside0.mk (below_step (by repeat (first | (with_reducible first | exact HB.out | apply below_alloc | apply pw_below_drewN | apply below_drew1) | exact HB.out)) hb); clear HO106; clear HB; have HO106 := n0_; have HO109 := n1_; have HB := n2_; clear n0_ n1_ n2_; (try clear hb); (try clear hb2); (try clear hk); (try clear hi); (try clear ho0)) | ((with_reducible refine gate_dst (N := 9) rfl ?_); (try (refine gate_guard (by rfl) ?_; dsimp only)); refine box_event ?hg (N := 9) ?hd (cs := #[.int .i64 0, .string (⟨#[]⟩ : ByteArray), .string (⟨#[]⟩ : ByteArray), .bool false, .bool false]) (t := 26) ?hr ?_; (case hd => rfl); (case hg => rfl); (case hr => first | (go_simp; done) | (go_simp; rfl)); intro gb110 hg w25 hbox hb; have n0_ := Aside0.mk (Kd.R_below (Kd.R_elderB (by (with_reducible repeat (first | apply Kd.R_alloc | apply Kd.R_drewN | apply Kd.R_drew)); exact HO106.out) gb110 (Nat.le_of_eq hg.symm)) hb); have n1_ := Aside0.mk (Kd.R_below (Kd.R_elderB (by (with_reducible repeat (first | apply Kd.R_alloc | apply Kd.R_drewN | apply Kd.R_drew)); exact HO109.out) gb110 (Nat.le_of_eq hg.symm)) hb); have n2_ := Aside0.mk (below_step (by repeat (first | (with_reducible first | exact HB.out | apply below_alloc | apply pw_below_drewN | apply below_drew1) | exact HB.out)) hb); have n3_ := Aside0.mk (hbox); have n4_ := Aside0.mk ((by rw [hg]; exact (below_size (by repeat (first | (with_reducible first | exact HB.out | apply below_alloc | apply pw_below_drewN | apply below_drew1) | exact HB.out))) : w.heap.size ≤ gb110)); have n5_ := Aside0.mk ((by rw [hg]; exact (below_size (by repeat (first | (with_reducible first | exact HB.out | apply below_alloc | apply pw_below_drewN | apply below_drew1) | exact HB.out))) : w.heap.size ≤ gb110)); clear HO106; clear HO109; clear HB; have HO106 := n0_; have HO109 := n1_; have HB := n2_; have BK110 := n3_; have GW110 := n4_; have GE110 := n5_; clear n0_ n1_ n2_ n3_ n4_ n5_; clear hb hbox hg; have hcz26_0 : w25.cell? ⟨gb110, 0, none⟩ = some (.int .i64 0) := (blk_cell BK110.out 0).trans rfl; have hcz26_1 : w25.cell? ⟨gb110, 1, none⟩ = some (.string (⟨#[]⟩ : ByteArray)) := (blk_cell BK110.out 1).trans rfl; have hcz26_2 : w25.cell? ⟨gb110, 2, none⟩ = some (.string (⟨#[]⟩ : ByteArray)) := (blk_cell BK110.out 2).trans rfl; have hcz26_3 : w25.cell? ⟨gb110, 3, none⟩ = some (.bool false) := (blk_cell BK110.out 3).trans rfl; have hcz26_4 : w25.cell? ⟨gb110, 4, none⟩ = some (.bool false) := (blk_cell BK110.out 4).trans rfl; have hfz26_0 := blk_frozen BK110.out 0; have hfz26_1 := blk_frozen BK110.out 1; have hfz26_2 := blk_frozen BK110.out 2; have hfz26_3 := blk_frozen BK110.out 3; have hfz26_4 := blk_frozen BK110.out 4) | (go_at_call 16; (with_reducible refine (token_Source.calls kj14 12 t103 a1 true false t111 _ A20.out (HT.out.below (below_set (below_set (below_set (below_set (below_set HB.out GE110.out) GE110.out) GE110.out) GE110.out) GE110.out))).mono ?_); rintro e w27 ⟨rfl, hb⟩; have n0_ := Aside0.mk (Kd.R_below (by (with_reducible repeat (first | apply Kd.R_alloc | apply Kd.R_drewN | apply Kd.R_drew)); exact (Kd.R_mono (Kd.R_far (p := ⟨gb110, 4, none⟩) (Kd.R_far (p := ⟨gb110, 3, none⟩) (Kd.R_far (p := ⟨gb110, 2, none⟩) (Kd.R_far (p := ⟨gb110, 1, none⟩) (Kd.R_far (p := ⟨gb110, 0, none⟩) (Kd.R_mono HO106.out (fun k_ hk => (⟨hk, hk.2⟩ : _ ∧ k_ ≠ gb110))) (fun _ hk => hk.2) (.int .i64 12)) (fun _ hk => hk.2) (.string t103)) (fun _ hk => hk.2) (.string a1)) (fun _ hk => hk.2) (.bool true)) (fun _ hk => hk.2) (.bool false)) (fun _ h_ => h_.1))) hb); have n1_ := Aside0.mk (Kd.R_below (by (with_reducible repeat (first | apply Kd.R_alloc | apply Kd.R_drewN | apply Kd.R_drew)); exact (Kd.R_mono (Kd.R_far (p := ⟨gb110, 4, none⟩) (Kd.R_far (p := ⟨gb110, 3, none⟩) (Kd.R_far (p := ⟨gb110, 2, none⟩) (Kd.R_far (p := ⟨gb110, 1, none⟩) (Kd.R_far (p := ⟨gb110, 0, none⟩) (Kd.R_mono HO109.out (fun k_ hk => (⟨hk, hk.2⟩ : _ ∧ k_ ≠ gb110))) (fun _ hk => hk.2) (.int .i64 12)) (fun _ hk => hk.2) (.string t103)) (fun _ hk => hk.2) (.string a1)) (fun _ hk => hk.2) (.bool true)) (fun _ hk => hk.2) (.bool false)) (fun _ h_ => h_.1))) hb); have n2_ := Aside0.mk (blk_below (g := gb110) (o := .cells #[.int .i64 12, .string t103, .string a1, .bool true, .bool false] 26 (0, 0)) (by (with_reducible repeat (first | refine blk_drewN ?_ _ | refine blk_drew ?_ | refine blk_alloc ?_ _)); refine blk_put (cs := #[.int .i64 12, .string t103, .string a1, .bool true, .bool false]) ?_ 4 _ rfl; (with_reducible repeat (first | refine blk_drewN ?_ _ | refine blk_drew ?_ | refine blk_alloc ?_ _)); refine blk_put (cs := #[.int .i64 12, .string t103, .string a1, .bool false, .bool false]) ?_ 3 _ rfl; (with_reducible repeat (first | refine blk_drewN ?_ _ | refine blk_drew ?_ | refine blk_alloc ?_ _)); refine blk_put (cs := #[.int .i64 12, .string t103, .string (⟨#[]⟩ : ByteArray), .bool false, .bool false]) ?_ 2 _ rfl; (with_reducible repeat (first | refine blk_drewN ?_ _ | refine blk_drew ?_ | refine blk_alloc ?_ _)); refine blk_put (cs := #[.int .i64 12, .string (⟨#[]⟩ : ByteArray), .string (⟨#[]⟩ : ByteArray), .bool false, .bool false]) ?_ 1 _ rfl; (with_reducible repeat (first | refine blk_drewN ?_ _ | refine blk_drew ?_ | refine blk_alloc ?_ _)); refine blk_put (cs := #[.int .i64 0, .string (⟨#[]⟩ : ByteArray), .string (⟨#[]⟩ : ByteArray), .bool false, .bool false]) ?_ 0 _ rfl; (with_reducible repeat (first | refine blk_drewN ?_ _ | refine blk_drew ?_ | refine blk_alloc ?_ _)); exact BK110.out) hb); have n3_ := Aside0.mk (below_step (by repeat (first | (with_reducible first | exact HB.out | apply below_alloc | apply pw_below_drewN | apply below_drew1 | refine below_set ?_ GE110.out) | exact HB.out)) hb); clear HO106; clear HO109; clear BK110; clear HB; have HO106 := n0_; have HO109 := n1_; have BK110 := n2_; have HB := n3_; clear n0_ n1_ n2_ n3_; (try clear hb); (try clear hb2); (try clear hk); (try clear hi)) | (go_at_call 10; (with_reducible refine (gouachelaw02_cut.calls t111 t112 _ A21.out).mono ?_); rintro e w28 ⟨v113, rfl, ho0, hb⟩; have n0_ := Aside0.mk (Kd.R_elder' (by (with_reducible repeat (first | apply Kd.R_alloc | apply Kd.R_drewN | apply Kd.R_drew)); exact HO106.out) (Kd.R_base ho0) hb); have n1_ := Aside0.mk (Kd.R_elder' (by (with_reducible repeat (first | apply Kd.R_alloc | apply Kd.R_drewN | apply Kd.R_drew)); exact HO109.out) (Kd.R_base ho0) hb); have n2_ := Aside0.mk (Kd.R_lower (Kd.R_newB (Kd.R_new' (Kd.R_new' ho0 (Kd.R_lt (by (with_reducible repeat (first | apply Kd.R_alloc | apply Kd.R_drewN | apply Kd.R_drew)); exact HO106.out))) (Kd.R_lt (by (with_reducible repeat (first | apply Kd.R_alloc | apply Kd.R_drewN | apply Kd.R_drew)); exact HO109.out))) (g := gb110) (o := .cells #[.int .i64 12, .string t103, .string a1, .bool true, .bool false] 26 (0, 0)) (by (with_reducible repeat (first | refine blk_drewN ?_ _ | refine blk_drew ?_ | refine blk_alloc ?_ _)); exact BK110.out)) (below_size (by repeat (first | (with_reducible first | exact HB.out | apply below_alloc | apply pw_below_drewN | apply below_drew1 | refine below_set ?_ GE110.out) | exact HB.out)))); have n3_ := Aside0.mk (blk_below (g := gb110) (o := .cells #[.int .i64 12, .string t103, .string a1, .bool true, .bool false] 26 (0, 0)) (by (with_reducible repeat (first | refine blk_drewN ?_ _ | refine blk_drew ?_ | refine blk_alloc ?_ _)); exact BK110.out) hb); have n4_ := Aside0.mk (below_step (by repeat (first | (with_reducible first | exact HB.out | apply below_alloc | apply pw_below_drewN | apply below_drew1 | refine below_set ?_ GE110.out) | exact HB.out)) hb); clear HO106; clear HO109; clear BK110; clear HB; have HO106 := n0_; have HO109 := n1_; have HO114 := n2_; have BK110 := n3_; have HB := n4_; clear n0_ n1_ n2_ n3_ n4_; (try clear hb); (try clear hb2); (try clear hk); (try clear hi); (try clear ho0))); go_upto_region 12 with (first | (go_at_call 10; (with_reducible refine (gouachelaw02_cut.calls t103 t104 _ A17.out).mono ?_); rintro e w23 ⟨v105, rfl, ho0, hb⟩; have n0_ := Aside0.mk (Kd.R_lower ho0 (below_size (by repeat (first | (with_reducible first | exact HB.out | apply below_alloc | apply pw_below_drewN | apply below_drew1) | exact HB.out)))); have n1_ := Aside0.mk (below_step (by repeat (first | (with_reducible first | exact HB.out | apply below_alloc | apply pw_below_drewN | apply below_drew1) | exact HB.out)) hb); clear HB; have HO106 := n0_; have HB := n1_; clear n0_ n1_; (try clear hb); (try clear hb2); (try clear hk); (try clear hi); (try clear ho0)) | (go_at_call 10; (with_reducible refine (gouachelaw02_cut.calls (t103 ++ (⟨#[37]⟩ : ByteArray)) t107 _ A19.out).mono ?_); rintro e w24 ⟨v108, rfl, ho0, hb⟩; have n0_ := Aside0.mk (Kd.R_elder' (by (with_reducible repeat (first | apply Kd.R_alloc | apply Kd.R_drewN | apply Kd.R_drew)); exact HO106.out) (Kd.R_base ho0) hb); have n1_ := Aside0.mk (Kd.R_lower (Kd.R_new' ho0 (Kd.R_lt (by (with_reducible repeat (first | apply Kd.R_alloc | apply Kd.R_drewN | apply Kd.R_drew)); exact HO106.out))) (below_size (by repeat (first | (with_reducible first | exact HB.out | apply below_alloc | apply pw_below_drewN | apply below_drew1) | exact HB.out)))); have n2_ := Aside0.mk (below_step (by repeat (first | (with_reducible first | exact HB.out | apply below_alloc | apply pw_below_drewN | apply below_drew1) | exact HB.out)) hb); clear HO106; clear HB; have HO106 := n0_; have HO109 := n1_; have HB := n2_; clear n0_ n1_ n2_; (try clear hb); (try clear hb2); (try clear hk); (try clear hi); (try clear ho0)) | ((with_reducible refine gate_dst (N := 9) rfl ?_); (try (refine gate_guard (by rfl) ?_; dsimp only)); refine box_event ?hg (N := 9) ?hd (cs := #[.int .i64 0, .string (⟨#[]⟩ : ByteArray), .string (⟨#[]⟩ : ByteArray), .bool false, .bool false]) (t := 26) ?hr ?_; (case hd => rfl); (case hg => rfl); (case hr => first | (go_simp; done) | (go_simp; rfl)); intro gb110 hg w25 hbox hb; have n0_ := Aside0.mk (Kd.R_below (Kd.R_elderB (by (with_reducible repeat (first | apply Kd.R_alloc | apply Kd.R_drewN | apply Kd.R_drew)); exact HO106.out) gb110 (Nat.le_of_eq hg.symm)) hb); have n1_ := Aside0.mk (Kd.R_below (Kd.R_elderB (by (with_reducible repeat (first | apply Kd.R_alloc | apply Kd.R_drewN | apply Kd.R_drew)); exact HO109.out) gb110 (Nat.le_of_eq hg.symm)) hb); have n2_ := Aside0.mk (below_step (by repeat (first | (with_reducible first | exact HB.out | apply below_alloc | apply pw_below_drewN | apply below_drew1) | exact HB.out)) hb); have n3_ := Aside0.mk (hbox); have n4_ := Aside0.mk ((by rw [hg]; exact (below_size (by repeat (first | (with_reducible first | exact HB.out | apply below_alloc | apply pw_below_drewN | apply below_drew1) | exact HB.out))) : w.heap.size ≤ gb110)); have n5_ := Aside0.mk ((by rw [hg]; exact (below_size (by repeat (first | (with_reducible first | exact HB.out | apply below_alloc | apply pw_below_drewN | apply below_drew1) | exact HB.out))) : w.heap.size ≤ gb110)); clear HO106; clear HO109; clear HB; have HO106 := n0_; have HO109 := n1_; have HB := n2_; have BK110 := n3_; have GW110 := n4_; have GE110 := n5_; clear n0_ n1_ n2_ n3_ n4_ n5_; clear hb hbox hg; have hcz26_0 : w25.cell? ⟨gb110, 0, none⟩ = some (.int .i64 0) := (blk_cell BK110.out 0).trans rfl; have hcz26_1 : w25.cell? ⟨gb110, 1, none⟩ = some (.string (⟨#[]⟩ : ByteArray)) := (blk_cell BK110.out 1).trans rfl; have hcz26_2 : w25.cell? ⟨gb110, 2, none⟩ = some (.string (⟨#[]⟩ : ByteArray)) := (blk_cell BK110.out 2).trans rfl; have hcz26_3 : w25.cell? ⟨gb110, 3, none⟩ = some (.bool false) := (blk_cell BK110.out 3).trans rfl; have hcz26_4 : w25.cell? ⟨gb110, 4, none⟩ = some (.bool false) := (blk_cell BK110.out 4).trans rfl; have hfz26_0 := blk_frozen BK110.out 0; have hfz26_1 := blk_frozen BK110.out 1; have hfz26_2 := blk_frozen BK110.out 2; have hfz26_3 := blk_frozen BK110.out 3; have hfz26_4 := blk_frozen BK110.out 4) | (go_at_call 16; (with_reducible refine (token_Source.calls kj14 12 t103 a1 true false t111 _ A20.out (HT.out.below (below_set (below_set (below_set (below_set (below_set HB.out GE110.out) GE110.out) GE110.out) GE110.out) GE110.out))).mono ?_); rintro e w27 ⟨rfl, hb⟩; have n0_ := Aside0.mk (Kd.R_below (by (with_reducible repeat (first | apply Kd.R_alloc | apply Kd.R_drewN | apply Kd.R_drew)); exact (Kd.R_mono (Kd.R_far (p := ⟨gb110, 4, none⟩) (Kd.R_far (p := ⟨gb110, 3, none⟩) (Kd.R_far (p := ⟨gb110, 2, none⟩) (Kd.R_far (p := ⟨gb110, 1, none⟩) (Kd.R_far (p := ⟨gb110, 0, none⟩) (Kd.R_mono HO106.out (fun k_ hk => (⟨hk, hk.2⟩ : _ ∧ k_ ≠ gb110))) (fun _ hk => hk.2) (.int .i64 12)) (fun _ hk => hk.2) (.string t103)) (fun _ hk => hk.2) (.string a1)) (fun _ hk => hk.2) (.bool true)) (fun _ hk => hk.2) (.bool false)) (fun _ h_ => h_.1))) hb); have n1_ := Aside0.mk (Kd.R_below (by (with_reducible repeat (first | apply Kd.R_alloc | apply Kd.R_drewN | apply Kd.R_drew)); exact (Kd.R_mono (Kd.R_far (p := ⟨gb110, 4, none⟩) (Kd.R_far (p := ⟨gb110, 3, none⟩) (Kd.R_far (p := ⟨gb110, 2, none⟩) (Kd.R_far (p := ⟨gb110, 1, none⟩) (Kd.R_far (p := ⟨gb110, 0, none⟩) (Kd.R_mono HO109.out (fun k_ hk => (⟨hk, hk.2⟩ : _ ∧ k_ ≠ gb110))) (fun _ hk => hk.2) (.int .i64 12)) (fun _ hk => hk.2) (.string t103)) (fun _ hk => hk.2) (.string a1)) (fun _ hk => hk.2) (.bool true)) (fun _ hk => hk.2) (.bool false)) (fun _ h_ => h_.1))) hb); have n2_ := Aside0.mk (blk_below (g := gb110) (o := .cells #[.int .i64 12, .string t103, .string a1, .bool true, .bool false] 26 (0, 0)) (by (with_reducible repeat (first | refine blk_drewN ?_ _ | refine blk_drew ?_ | refine blk_alloc ?_ _)); refine blk_put (cs := #[.int .i64 12, .string t103, .string a1, .bool true, .bool false]) ?_ 4 _ rfl; (with_reducible repeat (first | refine blk_drewN ?_ _ | refine blk_drew ?_ | refine blk_alloc ?_ _)); refine blk_put (cs := #[.int .i64 12, .string t103, .string a1, .bool false, .bool false]) ?_ 3 _ rfl; (with_reducible repeat (first | refine blk_drewN ?_ _ | refine blk_drew ?_ | refine blk_alloc ?_ _)); refine blk_put (cs := #[.int .i64 12, .string t103, .string (⟨#[]⟩ : ByteArray), .bool false, .bool false]) ?_ 2 _ rfl; (with_reducible repeat (first | refine blk_drewN ?_ _ | refine blk_drew ?_ | refine blk_alloc ?_ _)); refine blk_put (cs := #[.int .i64 12, .string (⟨#[]⟩ : ByteArray), .string (⟨#[]⟩ : ByteArray), .bool false, .bool false]) ?_ 1 _ rfl; (with_reducible repeat (first | refine blk_drewN ?_ _ | refine blk_drew ?_ | refine blk_alloc ?_ _)); refine blk_put (cs := #[.int .i64 0, .string (⟨#[]⟩ : ByteArray), .string (⟨#[]⟩ : ByteArray), .bool false, .bool false]) ?_ 0 _ rfl; (with_reducible repeat (first | refine blk_drewN ?_ _ | refine blk_drew ?_ | refine blk_alloc ?_ _)); exact BK110.out) hb); have n3_ := Aside0.mk (below_step (by repeat (first | (with_reducible first | exact HB.out | apply below_alloc | apply pw_below_drewN | apply below_drew1 | refine below_set ?_ GE110.out) | exact HB.out)) hb); clear HO106; clear HO109; clear BK110; clear HB; have HO106 := n0_; have HO109 := n1_; have BK110 := n2_; have HB := n3_; clear n0_ n1_ n2_ n3_; (try clear hb); (try clear hb2); (try clear hk); (try clear hi)) | (go_at_call 10; (with_reducible refine (gouachelaw02_cut.calls t111 t112 _ A21.out).mono ?_); rintro e w28 ⟨v113, rfl, ho0, hb⟩; have n0_ := Aside0.mk (Kd.R_elder' (by (with_reducible repeat (first | apply Kd.R_alloc | apply Kd.R_drewN | apply Kd.R_drew)); exact HO106.out) (Kd.R_base ho0) hb); have n1_ := Aside0.mk (Kd.R_elder' (by (with_reducible repeat (first | apply Kd.R_alloc | apply Kd.R_drewN | apply Kd.R_drew)); exact HO109.out) (Kd.R_base ho0) hb); have n2_ := Aside0.mk (Kd.R_lower (Kd.R_newB (Kd.R_new' (Kd.R_new' ho0 (Kd.R_lt (by (with_reducible repeat (first | apply Kd.R_alloc | apply Kd.R_drewN | apply Kd.R_drew)); exact HO106.out))) (Kd.R_lt (by (with_reducible repeat (first | apply Kd.R_alloc | apply Kd.R_drewN | apply Kd.R_drew)); exact HO109.out))) (g := gb110) (o := .cells #[.int .i64 12, .string t103, .string a1, .bool true, .bool false] 26 (0, 0)) (by (with_reducible repeat (first | refine blk_drewN ?_ _ | refine blk_drew ?_ | refine blk_alloc ?_ _)); exact BK110.out)) (below_size (by repeat (first | (with_reducible first | exact HB.out | apply below_alloc | apply pw_below_drewN | apply below_drew1 | refine below_set ?_ GE110.out) | exact HB.out)))); have n3_ := Aside0.mk (blk_below (g := gb110) (o := .cells #[.int .i64 12, .string t103, .string a1, .bool true, .bool false] 26 (0, 0)) (by (with_reducible repeat (first | refine blk_drewN ?_ _ | refine blk_drew ?_ | refine blk_alloc ?_ _)); exact BK110.out) hb); have n4_ := Aside0.mk (below_step (by repeat (first | (with_reducible first | exact HB.out | apply below_alloc | apply pw_below_drewN | apply below_drew1 | refine below_set ?_ GE110.out) | exact HB.out)) hb); clear HO106; clear HO109; clear BK110; clear HB; have HO106 := n0_; have HO109 := n1_; have HO114 := n2_; have BK110 := n3_; have HB := n4_; clear n0_ n1_ n2_ n3_ n4_; (try clear hb); (try clear hb2); (try clear hk); (try clear hi); (try clear ho0))))
                  (try simp only [Act.put, List.setIfInBounds_toArray, List.set_cons_zero, List.set_cons_succ])
                  go_cut [87] (fun v87 wc => ∃ (kq : Nat) (x87_21 : Bool), v87 = .bool x87_21 ∧ Aside0 (gouachelaw02_TokenNumbers.j3 kq x6_14 t104 t107 x87_21 = some r) ∧ Aside0 (kq ≤ kj14) ∧ Aside0 (Kd.R k26 26 wc w.heap.size (fun k_ => some k_ ≠ (v108 : Value).ownBlock ∧ k_ ≠ gb110) v105 t104) ∧ Aside0 (Kd.R k26 26 wc w.heap.size (fun k_ => some k_ ≠ (v105 : Value).ownBlock ∧ k_ ≠ gb110) v108 t107) ∧ Aside0 (wc.heap[gb110]? = some (.cells #[.int .i64 12, .string t103, .string a1, .bool true, .bool false] 26 (0, 0))) ∧ Aside0 (Below w.heap.size w wc))
                  case first =>
                    have H := HC22.out
                    clear HC22
                    by_cases c29 : (t104.length : Int) = 1
                    · rw [if_pos c29] at H
                      have c29b0 : ((t104.length : Int) == 1) = true := beq_iff_eq.mpr c29
                      have c29b1 : ((t104.length : Int) != 1) = false := bne_eq_false_iff_eq.mpr c29
                      clear c29
                      (first | rw [c29b0] | (simp only [i64_w, i32_w]; rw [c29b0]) | skip)
                      by_cases c30 : (t107.length : Int) = 1
                      · rw [if_pos c30] at H
                        have c30b0 : ((t107.length : Int) == 1) = true := beq_iff_eq.mpr c30
                        have c30b1 : ((t107.length : Int) != 1) = false := bne_eq_false_iff_eq.mpr c30
                        clear c30
                        by_cases c31 : (t112.length : Int) = 1
                        · rw [if_pos c31] at H
                          have c31b0 : ((t112.length : Int) == 1) = true := beq_iff_eq.mpr c31
                          have c31b1 : ((t112.length : Int) != 1) = false := bne_eq_false_iff_eq.mpr c31
                          clear c31
                          by_cases c32 : 0 < (t112.length : Int)
                          · rw [if_pos c32] at H
                            have c32b0 : decide (0 < (t112.length : Int)) = true := decide_eq_true c32
                            have c32b1 : decide (0 < t112.length) = true := decide_eq_true (by omega)
                            clear c32
                            by_cases c33 : (!(((rd_T26 t112 0).f0) == 12) || (!((((rd_T26 t112 0).f1).toList) == t103.toList) || (!((((rd_T26 t112 0).f2).toList) == a1.toList) || (!((rd_T26 t112 0).f3) || (((rd_T26 t112 0).f4)))))) = true
                            · rw [if_pos c33] at H
                              have c33b0 : (!(((rd_T26 t112 0).f0) == 12) || (!((((rd_T26 t112 0).f1).toList) == t103.toList) || (!((((rd_T26 t112 0).f2).toList) == a1.toList) || (!((rd_T26 t112 0).f3) || (((rd_T26 t112 0).f4)))))) = true := c33
                              clear c33
                              have H' := Aside0.mk H
                              clear H
                              obtain ⟨Ao34, co34, eo34⟩ := Kd.R_slice HO106.out
                              subst eo34
                              obtain ⟨Ao35, co35, eo35⟩ := Kd.R_slice HO109.out
                              subst eo35
                              obtain ⟨Ao36, co36, eo36⟩ := Kd.R_slice HO114.out
                              subst eo36
                              have p115 : 0 ≤ (0 : Int) := (by omega)
                              have q115 : 0 < (t112.length : Int) := of_decide_eq_true (by first | (with_reducible assumption) | assumption)
                              obtain ⟨ad115, e115, hx115_0, hx115_1, hx115_2, hx115_3, hx115_4⟩ := at_T26 (Kd.R_reads' HO114.out).2.2 0 p115 q115
                              cases e115
                              have qi115 : (0 < t112.length) = True := eq_true (by omega)
                              (try rw [show ((0 : Int)).toNat = 0 from rfl] at hx115_0)
                              (try rw [show 0 * 5 = 0 from rfl] at hx115_0)
                              (try rw [Addr.add_zero'] at hx115_0)
                              (try rw [show ((0 : Int)).toNat = 0 from rfl] at hx115_1)
                              (try rw [show 0 * 5 = 0 from rfl] at hx115_1)
                              (try rw [Addr.add_zero'] at hx115_1)
                              (try rw [show ((0 : Int)).toNat = 0 from rfl] at hx115_2)
                              (try rw [show 0 * 5 = 0 from rfl] at hx115_2)
                              (try rw [Addr.add_zero'] at hx115_2)
                              (try rw [show ((0 : Int)).toNat = 0 from rfl] at hx115_3)
                              (try rw [show 0 * 5 = 0 from rfl] at hx115_3)
                              (try rw [Addr.add_zero'] at hx115_3)
                              (try rw [show ((0 : Int)).toNat = 0 from rfl] at hx115_4)
                              (try rw [show 0 * 5 = 0 from rfl] at hx115_4)
                              (try rw [Addr.add_zero'] at hx115_4)
                              replace p115 := eq_true p115
                              replace q115 := eq_true q115
                              have hcz37_0 : w28.cell? ⟨gb110, 0, none⟩ = some (.int .i64 12) := (blk_cell BK110.out 0).trans rfl
                              have hcz37_1 : w28.cell? ⟨gb110, 1, none⟩ = some (.string t103) := (blk_cell BK110.out 1).trans rfl
                              have hcz37_2 : w28.cell? ⟨gb110, 2, none⟩ = some (.string a1) := (blk_cell BK110.out 2).trans rfl
                              have hcz37_3 : w28.cell? ⟨gb110, 3, none⟩ = some (.bool true) := (blk_cell BK110.out 3).trans rfl
                              have hcz37_4 : w28.cell? ⟨gb110, 4, none⟩ = some (.bool false) := (blk_cell BK110.out 4).trans rfl
                              have hfz37_0 := blk_frozen BK110.out 0
                              have hfz37_1 := blk_frozen BK110.out 1
                              have hfz37_2 := blk_frozen BK110.out 2
                              have hfz37_3 := blk_frozen BK110.out 3
                              have hfz37_4 := blk_frozen BK110.out 4
                              go_wp2
                              repeat (go_quiet (fail); try go_wp2)
                              go_meet
                              case rel => exact ⟨_, (true), (by first | rfl | (simp; done) | (simp [*]; done)), H', ⟨by have := HJ2.out; have := HJ12.out; have := HJ14.out; first | omega | exact Nat.le_refl _⟩, ⟨by (with_reducible repeat (first | apply Kd.R_alloc | apply Kd.R_drewN | apply Kd.R_drew)); exact Kd.R_mono HO106.out (fun _ hk => ⟨hk.1.1.2, hk.1.2⟩)⟩, ⟨by (with_reducible repeat (first | apply Kd.R_alloc | apply Kd.R_drewN | apply Kd.R_drew)); exact Kd.R_mono HO109.out (fun _ hk => ⟨hk.1.1.2, hk.1.2⟩)⟩, ⟨by (with_reducible repeat (first | refine blk_drewN ?_ _ | refine blk_drew ?_ | refine blk_alloc ?_ _)); exact BK110.out⟩, ⟨by repeat (first | (with_reducible first | exact HB.out | apply below_alloc | apply pw_below_drewN | apply below_drew1 | refine below_set ?_ GE110.out) | exact HB.out)⟩⟩
                            · rw [if_neg c33] at H
                              have c33b0 : (!(((rd_T26 t112 0).f0) == 12) || (!((((rd_T26 t112 0).f1).toList) == t103.toList) || (!((((rd_T26 t112 0).f2).toList) == a1.toList) || (!((rd_T26 t112 0).f3) || (((rd_T26 t112 0).f4)))))) = false := by simpa using c33
                              clear c33
                              by_cases c38 : 0 < (t104.length : Int)
                              · rw [if_pos c38] at H
                                have c38b0 : decide (0 < (t104.length : Int)) = true := decide_eq_true c38
                                have c38b1 : decide (0 < t104.length) = true := decide_eq_true (by omega)
                                clear c38
                                by_cases c39 : ((rd_T26 t104 0).f0) = 10
                                · rw [if_pos c39] at H
                                  have c39b0 : (((rd_T26 t104 0).f0) == 10) = true := beq_iff_eq.mpr c39
                                  have c39b1 : (((rd_T26 t104 0).f0) != 10) = false := bne_eq_false_iff_eq.mpr c39
                                  clear c39
                                  by_cases c40 : 0 < (t107.length : Int)
                                  · rw [if_pos c40] at H
                                    have c40b0 : decide (0 < (t107.length : Int)) = true := decide_eq_true c40
                                    have c40b1 : decide (0 < t107.length) = true := decide_eq_true (by omega)
                                    clear c40
                                    by_cases c41 : ((rd_T26 t107 0).f0) = 11
                                    · rw [if_pos c41] at H
                                      have c41b0 : (((rd_T26 t107 0).f0) == 11) = true := beq_iff_eq.mpr c41
                                      have c41b1 : (((rd_T26 t107 0).f0) != 11) = false := bne_eq_false_iff_eq.mpr c41
                                      clear c41
                                      have H' := Aside0.mk H
                                      clear H
                                      obtain ⟨Ao42, co42, eo42⟩ := Kd.R_slice HO106.out
                                      subst eo42
                                      obtain ⟨Ao43, co43, eo43⟩ := Kd.R_slice HO109.out
                                      subst eo43
                                      obtain ⟨Ao44, co44, eo44⟩ := Kd.R_slice HO114.out
                                      subst eo44
                                      have p115 : 0 ≤ (0 : Int) := (by omega)
                                      have q115 : 0 < (t112.length : Int) := of_decide_eq_true (by first | (with_reducible assumption) | assumption)
                                      obtain ⟨ad115, e115, hx115_0, hx115_1, hx115_2, hx115_3, hx115_4⟩ := at_T26 (Kd.R_reads' HO114.out).2.2 0 p115 q115
                                      cases e115
                                      have qi115 : (0 < t112.length) = True := eq_true (by omega)
                                      (try rw [show ((0 : Int)).toNat = 0 from rfl] at hx115_0)
                                      (try rw [show 0 * 5 = 0 from rfl] at hx115_0)
                                      (try rw [Addr.add_zero'] at hx115_0)
                                      (try rw [show ((0 : Int)).toNat = 0 from rfl] at hx115_1)
                                      (try rw [show 0 * 5 = 0 from rfl] at hx115_1)
                                      (try rw [Addr.add_zero'] at hx115_1)
                                      (try rw [show ((0 : Int)).toNat = 0 from rfl] at hx115_2)
                                      (try rw [show 0 * 5 = 0 from rfl] at hx115_2)
                                      (try rw [Addr.add_zero'] at hx115_2)
                                      (try rw [show ((0 : Int)).toNat = 0 from rfl] at hx115_3)
                                      (try rw [show 0 * 5 = 0 from rfl] at hx115_3)
                                      (try rw [Addr.add_zero'] at hx115_3)
                                      (try rw [show ((0 : Int)).toNat = 0 from rfl] at hx115_4)
                                      (try rw [show 0 * 5 = 0 from rfl] at hx115_4)
                                      (try rw [Addr.add_zero'] at hx115_4)
                                      replace p115 := eq_true p115
                                      replace q115 := eq_true q115
                                      have hcz45_0 : w28.cell? ⟨gb110, 0, none⟩ = some (.int .i64 12) := (blk_cell BK110.out 0).trans rfl
                                      have hcz45_1 : w28.cell? ⟨gb110, 1, none⟩ = some (.string t103) := (blk_cell BK110.out 1).trans rfl
                                      have hcz45_2 : w28.cell? ⟨gb110, 2, none⟩ = some (.string a1) := (blk_cell BK110.out 2).trans rfl
                                      have hcz45_3 : w28.cell? ⟨gb110, 3, none⟩ = some (.bool true) := (blk_cell BK110.out 3).trans rfl
                                      have hcz45_4 : w28.cell? ⟨gb110, 4, none⟩ = some (.bool false) := (blk_cell BK110.out 4).trans rfl
                                      have hfz45_0 := blk_frozen BK110.out 0
                                      have hfz45_1 := blk_frozen BK110.out 1
                                      have hfz45_2 := blk_frozen BK110.out 2
                                      have hfz45_3 := blk_frozen BK110.out 3
                                      have hfz45_4 := blk_frozen BK110.out 4
                                      have p116 : 0 ≤ (0 : Int) := (by omega)
                                      have q116 : 0 < (t104.length : Int) := of_decide_eq_true (by first | (with_reducible assumption) | assumption)
                                      obtain ⟨ad116, e116, hx116_0, hx116_1, hx116_2, hx116_3, hx116_4⟩ := at_T26 (Kd.R_reads' HO106.out).2.2 0 p116 q116
                                      cases e116
                                      have qi116 : (0 < t104.length) = True := eq_true (by omega)
                                      (try rw [show ((0 : Int)).toNat = 0 from rfl] at hx116_0)
                                      (try rw [show 0 * 5 = 0 from rfl] at hx116_0)
                                      (try rw [Addr.add_zero'] at hx116_0)
                                      (try rw [show ((0 : Int)).toNat = 0 from rfl] at hx116_1)
                                      (try rw [show 0 * 5 = 0 from rfl] at hx116_1)
                                      (try rw [Addr.add_zero'] at hx116_1)
                                      (try rw [show ((0 : Int)).toNat = 0 from rfl] at hx116_2)
                                      (try rw [show 0 * 5 = 0 from rfl] at hx116_2)
                                      (try rw [Addr.add_zero'] at hx116_2)
                                      (try rw [show ((0 : Int)).toNat = 0 from rfl] at hx116_3)
                                      (try rw [show 0 * 5 = 0 from rfl] at hx116_3)
                                      (try rw [Addr.add_zero'] at hx116_3)
                                      (try rw [show ((0 : Int)).toNat = 0 from rfl] at hx116_4)
                                      (try rw [show 0 * 5 = 0 from rfl] at hx116_4)
                                      (try rw [Addr.add_zero'] at hx116_4)
                                      replace p116 := eq_true p116
                                      replace q116 := eq_true q116
                                      have p117 : 0 ≤ (0 : Int) := (by omega)
                                      have q117 : 0 < (t107.length : Int) := of_decide_eq_true (by first | (with_reducible assumption) | assumption)
                                      obtain ⟨ad117, e117, hx117_0, hx117_1, hx117_2, hx117_3, hx117_4⟩ := at_T26 (Kd.R_reads' HO109.out).2.2 0 p117 q117
                                      cases e117
                                      have qi117 : (0 < t107.length) = True := eq_true (by omega)
                                      (try rw [show ((0 : Int)).toNat = 0 from rfl] at hx117_0)
                                      (try rw [show 0 * 5 = 0 from rfl] at hx117_0)
                                      (try rw [Addr.add_zero'] at hx117_0)
                                      (try rw [show ((0 : Int)).toNat = 0 from rfl] at hx117_1)
                                      (try rw [show 0 * 5 = 0 from rfl] at hx117_1)
                                      (try rw [Addr.add_zero'] at hx117_1)
                                      (try rw [show ((0 : Int)).toNat = 0 from rfl] at hx117_2)
                                      (try rw [show 0 * 5 = 0 from rfl] at hx117_2)
                                      (try rw [Addr.add_zero'] at hx117_2)
                                      (try rw [show ((0 : Int)).toNat = 0 from rfl] at hx117_3)
                                      (try rw [show 0 * 5 = 0 from rfl] at hx117_3)
                                      (try rw [Addr.add_zero'] at hx117_3)
                                      (try rw [show ((0 : Int)).toNat = 0 from rfl] at hx117_4)
                                      (try rw [show 0 * 5 = 0 from rfl] at hx117_4)
                                      (try rw [Addr.add_zero'] at hx117_4)
                                      replace p117 := eq_true p117
                                      replace q117 := eq_true q117
                                      have p118 : 0 ≤ (0 : Int) := (by omega)
                                      have q118 : 0 < (t104.length : Int) := of_decide_eq_true (by first | (with_reducible assumption) | assumption)
                                      obtain ⟨ad118, e118, hx118_0, hx118_1, hx118_2, hx118_3, hx118_4⟩ := at_T26 (Kd.R_reads' HO106.out).2.2 0 p118 q118
                                      obtain rfl : ad116 = ad118 := (by injection e118)
                                      have qi118 : (0 < t104.length) = True := eq_true (by omega)
                                      (try rw [show ((0 : Int)).toNat = 0 from rfl] at hx118_0)
                                      (try rw [show 0 * 5 = 0 from rfl] at hx118_0)
                                      (try rw [Addr.add_zero'] at hx118_0)
                                      (try rw [show ((0 : Int)).toNat = 0 from rfl] at hx118_1)
                                      (try rw [show 0 * 5 = 0 from rfl] at hx118_1)
                                      (try rw [Addr.add_zero'] at hx118_1)
                                      (try rw [show ((0 : Int)).toNat = 0 from rfl] at hx118_2)
                                      (try rw [show 0 * 5 = 0 from rfl] at hx118_2)
                                      (try rw [Addr.add_zero'] at hx118_2)
                                      (try rw [show ((0 : Int)).toNat = 0 from rfl] at hx118_3)
                                      (try rw [show 0 * 5 = 0 from rfl] at hx118_3)
                                      (try rw [Addr.add_zero'] at hx118_3)
                                      (try rw [show ((0 : Int)).toNat = 0 from rfl] at hx118_4)
                                      (try rw [show 0 * 5 = 0 from rfl] at hx118_4)
                                      (try rw [Addr.add_zero'] at hx118_4)
                                      replace p118 := eq_true p118
                                      replace q118 := eq_true q118
                                      go_wp2
                                      repeat (go_quiet (fail); try go_wp2)
                                      go_meet
                                      case rel => exact ⟨_, ((((rd_T26 t104 0).f1).toList != t103.toList)), (by first | rfl | (simp; done) | (simp [*]; done)), H', ⟨by have := HJ2.out; have := HJ12.out; have := HJ14.out; first | omega | exact Nat.le_refl _⟩, ⟨by (with_reducible repeat (first | apply Kd.R_alloc | apply Kd.R_drewN | apply Kd.R_drew)); exact Kd.R_mono HO106.out (fun _ hk => ⟨hk.1.1.2, hk.1.2⟩)⟩, ⟨by (with_reducible repeat (first | apply Kd.R_alloc | apply Kd.R_drewN | apply Kd.R_drew)); exact Kd.R_mono HO109.out (fun _ hk => ⟨hk.1.1.2, hk.1.2⟩)⟩, ⟨by (with_reducible repeat (first | refine blk_drewN ?_ _ | refine blk_drew ?_ | refine blk_alloc ?_ _)); exact BK110.out⟩, ⟨by repeat (first | (with_reducible first | exact HB.out | apply below_alloc | apply pw_below_drewN | apply below_drew1 | refine below_set ?_ GE110.out) | exact HB.out)⟩⟩
                                    · rw [if_neg c41] at H
                                      have c41b0 : (((rd_T26 t107 0).f0) == 11) = false := beq_eq_false_iff_ne.mpr c41
                                      have c41b1 : (((rd_T26 t107 0).f0) != 11) = true := bne_iff_ne.mpr c41
                                      have H' := Aside0.mk H
                                      clear H
                                      obtain ⟨Ao46, co46, eo46⟩ := Kd.R_slice HO106.out
                                      subst eo46
                                      obtain ⟨Ao47, co47, eo47⟩ := Kd.R_slice HO109.out
                                      subst eo47
                                      obtain ⟨Ao48, co48, eo48⟩ := Kd.R_slice HO114.out
                                      subst eo48
                                      have p115 : 0 ≤ (0 : Int) := (by omega)
                                      have q115 : 0 < (t112.length : Int) := of_decide_eq_true (by first | (with_reducible assumption) | assumption)
                                      obtain ⟨ad115, e115, hx115_0, hx115_1, hx115_2, hx115_3, hx115_4⟩ := at_T26 (Kd.R_reads' HO114.out).2.2 0 p115 q115
                                      cases e115
                                      have qi115 : (0 < t112.length) = True := eq_true (by omega)
                                      (try rw [show ((0 : Int)).toNat = 0 from rfl] at hx115_0)
                                      (try rw [show 0 * 5 = 0 from rfl] at hx115_0)
                                      (try rw [Addr.add_zero'] at hx115_0)
                                      (try rw [show ((0 : Int)).toNat = 0 from rfl] at hx115_1)
                                      (try rw [show 0 * 5 = 0 from rfl] at hx115_1)
                                      (try rw [Addr.add_zero'] at hx115_1)
                                      (try rw [show ((0 : Int)).toNat = 0 from rfl] at hx115_2)
                                      (try rw [show 0 * 5 = 0 from rfl] at hx115_2)
                                      (try rw [Addr.add_zero'] at hx115_2)
                                      (try rw [show ((0 : Int)).toNat = 0 from rfl] at hx115_3)
                                      (try rw [show 0 * 5 = 0 from rfl] at hx115_3)
                                      (try rw [Addr.add_zero'] at hx115_3)
                                      (try rw [show ((0 : Int)).toNat = 0 from rfl] at hx115_4)
                                      (try rw [show 0 * 5 = 0 from rfl] at hx115_4)
                                      (try rw [Addr.add_zero'] at hx115_4)
                                      replace p115 := eq_true p115
                                      replace q115 := eq_true q115
                                      have hcz49_0 : w28.cell? ⟨gb110, 0, none⟩ = some (.int .i64 12) := (blk_cell BK110.out 0).trans rfl
                                      have hcz49_1 : w28.cell? ⟨gb110, 1, none⟩ = some (.string t103) := (blk_cell BK110.out 1).trans rfl
                                      have hcz49_2 : w28.cell? ⟨gb110, 2, none⟩ = some (.string a1) := (blk_cell BK110.out 2).trans rfl
                                      have hcz49_3 : w28.cell? ⟨gb110, 3, none⟩ = some (.bool true) := (blk_cell BK110.out 3).trans rfl
                                      have hcz49_4 : w28.cell? ⟨gb110, 4, none⟩ = some (.bool false) := (blk_cell BK110.out 4).trans rfl
                                      have hfz49_0 := blk_frozen BK110.out 0
                                      have hfz49_1 := blk_frozen BK110.out 1
                                      have hfz49_2 := blk_frozen BK110.out 2
                                      have hfz49_3 := blk_frozen BK110.out 3
                                      have hfz49_4 := blk_frozen BK110.out 4
                                      have p116 : 0 ≤ (0 : Int) := (by omega)
                                      have q116 : 0 < (t104.length : Int) := of_decide_eq_true (by first | (with_reducible assumption) | assumption)
                                      obtain ⟨ad116, e116, hx116_0, hx116_1, hx116_2, hx116_3, hx116_4⟩ := at_T26 (Kd.R_reads' HO106.out).2.2 0 p116 q116
                                      cases e116
                                      have qi116 : (0 < t104.length) = True := eq_true (by omega)
                                      (try rw [show ((0 : Int)).toNat = 0 from rfl] at hx116_0)
                                      (try rw [show 0 * 5 = 0 from rfl] at hx116_0)
                                      (try rw [Addr.add_zero'] at hx116_0)
                                      (try rw [show ((0 : Int)).toNat = 0 from rfl] at hx116_1)
                                      (try rw [show 0 * 5 = 0 from rfl] at hx116_1)
                                      (try rw [Addr.add_zero'] at hx116_1)
                                      (try rw [show ((0 : Int)).toNat = 0 from rfl] at hx116_2)
                                      (try rw [show 0 * 5 = 0 from rfl] at hx116_2)
                                      (try rw [Addr.add_zero'] at hx116_2)
                                      (try rw [show ((0 : Int)).toNat = 0 from rfl] at hx116_3)
                                      (try rw [show 0 * 5 = 0 from rfl] at hx116_3)
                                      (try rw [Addr.add_zero'] at hx116_3)
                                      (try rw [show ((0 : Int)).toNat = 0 from rfl] at hx116_4)
                                      (try rw [show 0 * 5 = 0 from rfl] at hx116_4)
                                      (try rw [Addr.add_zero'] at hx116_4)
                                      replace p116 := eq_true p116
                                      replace q116 := eq_true q116
                                      have p117 : 0 ≤ (0 : Int) := (by omega)
                                      have q117 : 0 < (t107.length : Int) := of_decide_eq_true (by first | (with_reducible assumption) | assumption)
                                      obtain ⟨ad117, e117, hx117_0, hx117_1, hx117_2, hx117_3, hx117_4⟩ := at_T26 (Kd.R_reads' HO109.out).2.2 0 p117 q117
                                      cases e117
                                      have qi117 : (0 < t107.length) = True := eq_true (by omega)
                                      (try rw [show ((0 : Int)).toNat = 0 from rfl] at hx117_0)
                                      (try rw [show 0 * 5 = 0 from rfl] at hx117_0)
                                      (try rw [Addr.add_zero'] at hx117_0)
                                      (try rw [show ((0 : Int)).toNat = 0 from rfl] at hx117_1)
                                      (try rw [show 0 * 5 = 0 from rfl] at hx117_1)
                                      (try rw [Addr.add_zero'] at hx117_1)
                                      (try rw [show ((0 : Int)).toNat = 0 from rfl] at hx117_2)
                                      (try rw [show 0 * 5 = 0 from rfl] at hx117_2)
                                      (try rw [Addr.add_zero'] at hx117_2)
                                      (try rw [show ((0 : Int)).toNat = 0 from rfl] at hx117_3)
                                      (try rw [show 0 * 5 = 0 from rfl] at hx117_3)
                                      (try rw [Addr.add_zero'] at hx117_3)
                                      (try rw [show ((0 : Int)).toNat = 0 from rfl] at hx117_4)
                                      (try rw [show 0 * 5 = 0 from rfl] at hx117_4)
                                      (try rw [Addr.add_zero'] at hx117_4)
                                      replace p117 := eq_true p117
                                      replace q117 := eq_true q117
                                      go_wp2
                                      repeat (go_quiet (fail); try go_wp2)
                                      go_meet
                                      case rel => exact ⟨_, (true), (by first | rfl | (simp; done) | (simp [*]; done)), H', ⟨by have := HJ2.out; have := HJ12.out; have := HJ14.out; first | omega | exact Nat.le_refl _⟩, ⟨by (with_reducible repeat (first | apply Kd.R_alloc | apply Kd.R_drewN | apply Kd.R_drew)); exact Kd.R_mono HO106.out (fun _ hk => ⟨hk.1.1.2, hk.1.2⟩)⟩, ⟨by (with_reducible repeat (first | apply Kd.R_alloc | apply Kd.R_drewN | apply Kd.R_drew)); exact Kd.R_mono HO109.out (fun _ hk => ⟨hk.1.1.2, hk.1.2⟩)⟩, ⟨by (with_reducible repeat (first | refine blk_drewN ?_ _ | refine blk_drew ?_ | refine blk_alloc ?_ _)); exact BK110.out⟩, ⟨by repeat (first | (with_reducible first | exact HB.out | apply below_alloc | apply pw_below_drewN | apply below_drew1 | refine below_set ?_ GE110.out) | exact HB.out)⟩⟩
                                  · rw [if_neg c40] at H
                                    exact absurd H (by simp)
                                · rw [if_neg c39] at H
                                  have c39b0 : (((rd_T26 t104 0).f0) == 10) = false := beq_eq_false_iff_ne.mpr c39
                                  have c39b1 : (((rd_T26 t104 0).f0) != 10) = true := bne_iff_ne.mpr c39
                                  have H' := Aside0.mk H
                                  clear H
                                  obtain ⟨Ao50, co50, eo50⟩ := Kd.R_slice HO106.out
                                  subst eo50
                                  obtain ⟨Ao51, co51, eo51⟩ := Kd.R_slice HO109.out
                                  subst eo51
                                  obtain ⟨Ao52, co52, eo52⟩ := Kd.R_slice HO114.out
                                  subst eo52
                                  have p115 : 0 ≤ (0 : Int) := (by omega)
                                  have q115 : 0 < (t112.length : Int) := of_decide_eq_true (by first | (with_reducible assumption) | assumption)
                                  obtain ⟨ad115, e115, hx115_0, hx115_1, hx115_2, hx115_3, hx115_4⟩ := at_T26 (Kd.R_reads' HO114.out).2.2 0 p115 q115
                                  cases e115
                                  have qi115 : (0 < t112.length) = True := eq_true (by omega)
                                  (try rw [show ((0 : Int)).toNat = 0 from rfl] at hx115_0)
                                  (try rw [show 0 * 5 = 0 from rfl] at hx115_0)
                                  (try rw [Addr.add_zero'] at hx115_0)
                                  (try rw [show ((0 : Int)).toNat = 0 from rfl] at hx115_1)
                                  (try rw [show 0 * 5 = 0 from rfl] at hx115_1)
                                  (try rw [Addr.add_zero'] at hx115_1)
                                  (try rw [show ((0 : Int)).toNat = 0 from rfl] at hx115_2)
                                  (try rw [show 0 * 5 = 0 from rfl] at hx115_2)
                                  (try rw [Addr.add_zero'] at hx115_2)
                                  (try rw [show ((0 : Int)).toNat = 0 from rfl] at hx115_3)
                                  (try rw [show 0 * 5 = 0 from rfl] at hx115_3)
                                  (try rw [Addr.add_zero'] at hx115_3)
                                  (try rw [show ((0 : Int)).toNat = 0 from rfl] at hx115_4)
                                  (try rw [show 0 * 5 = 0 from rfl] at hx115_4)
                                  (try rw [Addr.add_zero'] at hx115_4)
                                  replace p115 := eq_true p115
                                  replace q115 := eq_true q115
                                  have hcz53_0 : w28.cell? ⟨gb110, 0, none⟩ = some (.int .i64 12) := (blk_cell BK110.out 0).trans rfl
                                  have hcz53_1 : w28.cell? ⟨gb110, 1, none⟩ = some (.string t103) := (blk_cell BK110.out 1).trans rfl
                                  have hcz53_2 : w28.cell? ⟨gb110, 2, none⟩ = some (.string a1) := (blk_cell BK110.out 2).trans rfl
                                  have hcz53_3 : w28.cell? ⟨gb110, 3, none⟩ = some (.bool true) := (blk_cell BK110.out 3).trans rfl
                                  have hcz53_4 : w28.cell? ⟨gb110, 4, none⟩ = some (.bool false) := (blk_cell BK110.out 4).trans rfl
                                  have hfz53_0 := blk_frozen BK110.out 0
                                  have hfz53_1 := blk_frozen BK110.out 1
                                  have hfz53_2 := blk_frozen BK110.out 2
                                  have hfz53_3 := blk_frozen BK110.out 3
                                  have hfz53_4 := blk_frozen BK110.out 4
                                  have p116 : 0 ≤ (0 : Int) := (by omega)
                                  have q116 : 0 < (t104.length : Int) := of_decide_eq_true (by first | (with_reducible assumption) | assumption)
                                  obtain ⟨ad116, e116, hx116_0, hx116_1, hx116_2, hx116_3, hx116_4⟩ := at_T26 (Kd.R_reads' HO106.out).2.2 0 p116 q116
                                  cases e116
                                  have qi116 : (0 < t104.length) = True := eq_true (by omega)
                                  (try rw [show ((0 : Int)).toNat = 0 from rfl] at hx116_0)
                                  (try rw [show 0 * 5 = 0 from rfl] at hx116_0)
                                  (try rw [Addr.add_zero'] at hx116_0)
                                  (try rw [show ((0 : Int)).toNat = 0 from rfl] at hx116_1)
                                  (try rw [show 0 * 5 = 0 from rfl] at hx116_1)
                                  (try rw [Addr.add_zero'] at hx116_1)
                                  (try rw [show ((0 : Int)).toNat = 0 from rfl] at hx116_2)
                                  (try rw [show 0 * 5 = 0 from rfl] at hx116_2)
                                  (try rw [Addr.add_zero'] at hx116_2)
                                  (try rw [show ((0 : Int)).toNat = 0 from rfl] at hx116_3)
                                  (try rw [show 0 * 5 = 0 from rfl] at hx116_3)
                                  (try rw [Addr.add_zero'] at hx116_3)
                                  (try rw [show ((0 : Int)).toNat = 0 from rfl] at hx116_4)
                                  (try rw [show 0 * 5 = 0 from rfl] at hx116_4)
                                  (try rw [Addr.add_zero'] at hx116_4)
                                  replace p116 := eq_true p116
                                  replace q116 := eq_true q116
                                  go_wp2
                                  repeat (go_quiet (fail); try go_wp2)
                                  go_meet
                                  case rel => exact ⟨_, (true), (by first | rfl | (simp; done) | (simp [*]; done)), H', ⟨by have := HJ2.out; have := HJ12.out; have := HJ14.out; first | omega | exact Nat.le_refl _⟩, ⟨by (with_reducible repeat (first | apply Kd.R_alloc | apply Kd.R_drewN | apply Kd.R_drew)); exact Kd.R_mono HO106.out (fun _ hk => ⟨hk.1.1.2, hk.1.2⟩)⟩, ⟨by (with_reducible repeat (first | apply Kd.R_alloc | apply Kd.R_drewN | apply Kd.R_drew)); exact Kd.R_mono HO109.out (fun _ hk => ⟨hk.1.1.2, hk.1.2⟩)⟩, ⟨by (with_reducible repeat (first | refine blk_drewN ?_ _ | refine blk_drew ?_ | refine blk_alloc ?_ _)); exact BK110.out⟩, ⟨by repeat (first | (with_reducible first | exact HB.out | apply below_alloc | apply pw_below_drewN | apply below_drew1 | refine below_set ?_ GE110.out) | exact HB.out)⟩⟩
                              · rw [if_neg c38] at H
                                exact absurd H (by simp)
                          · rw [if_neg c32] at H
                            exact absurd H (by simp)
                        · rw [if_neg c31] at H
                          have c31b0 : ((t112.length : Int) == 1) = false := beq_eq_false_iff_ne.mpr c31
                          have c31b1 : ((t112.length : Int) != 1) = true := bne_iff_ne.mpr c31
                          have H' := Aside0.mk H
                          clear H
                          obtain ⟨Ao54, co54, eo54⟩ := Kd.R_slice HO106.out
                          subst eo54
                          obtain ⟨Ao55, co55, eo55⟩ := Kd.R_slice HO109.out
                          subst eo55
                          obtain ⟨Ao56, co56, eo56⟩ := Kd.R_slice HO114.out
                          subst eo56
                          go_wp2
                          repeat (go_quiet (fail); try go_wp2)
                          go_meet
                          case rel => exact ⟨_, (true), (by first | rfl | (simp; done) | (simp [*]; done)), H', ⟨by have := HJ2.out; have := HJ12.out; have := HJ14.out; first | omega | exact Nat.le_refl _⟩, ⟨by (with_reducible repeat (first | apply Kd.R_alloc | apply Kd.R_drewN | apply Kd.R_drew)); exact Kd.R_mono HO106.out (fun _ hk => ⟨hk.1.1.2, hk.1.2⟩)⟩, ⟨by (with_reducible repeat (first | apply Kd.R_alloc | apply Kd.R_drewN | apply Kd.R_drew)); exact Kd.R_mono HO109.out (fun _ hk => ⟨hk.1.1.2, hk.1.2⟩)⟩, ⟨by (with_reducible repeat (first | refine blk_drewN ?_ _ | refine blk_drew ?_ | refine blk_alloc ?_ _)); exact BK110.out⟩, ⟨by repeat (first | (with_reducible first | exact HB.out | apply below_alloc | apply pw_below_drewN | apply below_drew1 | refine below_set ?_ GE110.out) | exact HB.out)⟩⟩
                      · rw [if_neg c30] at H
                        have c30b0 : ((t107.length : Int) == 1) = false := beq_eq_false_iff_ne.mpr c30
                        have c30b1 : ((t107.length : Int) != 1) = true := bne_iff_ne.mpr c30
                        have H' := Aside0.mk H
                        clear H
                        obtain ⟨Ao57, co57, eo57⟩ := Kd.R_slice HO106.out
                        subst eo57
                        obtain ⟨Ao58, co58, eo58⟩ := Kd.R_slice HO109.out
                        subst eo58
                        go_wp2
                        repeat (go_quiet (fail); try go_wp2)
                        go_meet
                        case rel => exact ⟨_, (true), (by first | rfl | (simp; done) | (simp [*]; done)), H', ⟨by have := HJ2.out; have := HJ12.out; have := HJ14.out; first | omega | exact Nat.le_refl _⟩, ⟨by (with_reducible repeat (first | apply Kd.R_alloc | apply Kd.R_drewN | apply Kd.R_drew)); exact Kd.R_mono HO106.out (fun _ hk => ⟨hk.1.1.2, hk.1.2⟩)⟩, ⟨by (with_reducible repeat (first | apply Kd.R_alloc | apply Kd.R_drewN | apply Kd.R_drew)); exact Kd.R_mono HO109.out (fun _ hk => ⟨hk.1.1.2, hk.1.2⟩)⟩, ⟨by (with_reducible repeat (first | refine blk_drewN ?_ _ | refine blk_drew ?_ | refine blk_alloc ?_ _)); exact BK110.out⟩, ⟨by repeat (first | (with_reducible first | exact HB.out | apply below_alloc | apply pw_below_drewN | apply below_drew1 | refine below_set ?_ GE110.out) | exact HB.out)⟩⟩
                    · rw [if_neg c29] at H
                      have c29b0 : ((t104.length : Int) == 1) = false := beq_eq_false_iff_ne.mpr c29
                      have c29b1 : ((t104.length : Int) != 1) = true := bne_iff_ne.mpr c29
                      (first | rw [c29b0] | (simp only [i64_w, i32_w]; rw [c29b0]) | skip)
                      have H' := Aside0.mk H
                      clear H
                      obtain ⟨Ao59, co59, eo59⟩ := Kd.R_slice HO106.out
                      subst eo59
                      go_wp2
                      repeat (go_quiet (fail); try go_wp2)
                      go_meet
                      case rel => exact ⟨_, (true), (by first | rfl | (simp; done) | (simp [*]; done)), H', ⟨by have := HJ2.out; have := HJ12.out; have := HJ14.out; first | omega | exact Nat.le_refl _⟩, ⟨by (with_reducible repeat (first | apply Kd.R_alloc | apply Kd.R_drewN | apply Kd.R_drew)); exact Kd.R_mono HO106.out (fun _ hk => ⟨hk.1.1.2, hk.1.2⟩)⟩, ⟨by (with_reducible repeat (first | apply Kd.R_alloc | apply Kd.R_drewN | apply Kd.R_drew)); exact Kd.R_mono HO109.out (fun _ hk => ⟨hk.1.1.2, hk.1.2⟩)⟩, ⟨by (with_reducible repeat (first | refine blk_drewN ?_ _ | refine blk_drew ?_ | refine blk_alloc ?_ _)); exact BK110.out⟩, ⟨by repeat (first | (with_reducible first | exact HB.out | apply below_alloc | apply pw_below_drewN | apply below_drew1 | refine below_set ?_ GE110.out) | exact HB.out)⟩⟩
                  case rest =>
                    clear HC22
                    try clear c1
                    try clear p1
                    try clear q1
                    try clear hx1
                    try clear qi1
                    try clear c2
                    try clear p2
                    try clear c3
                    try clear c4
                    try clear c4b0
                    try clear c4b1
                    try clear c6
                    try clear c8
                    try clear c9
                    try clear p11
                    try clear q11
                    try clear hx11
                    try clear qi11
                    try clear c14
                    try clear c14b0
                    try clear c16
                    try clear c16b0
                    try clear c18
                    try clear c18b0
                    try clear c18b1
                    try clear c18b2
                    try clear c29
                    try clear c29b0
                    try clear c29b1
                    try clear c30
                    try clear c30b0
                    try clear c30b1
                    try clear c31
                    try clear c31b0
                    try clear c31b1
                    try clear c32
                    try clear c32b0
                    try clear c32b1
                    try clear c33
                    try clear c33b0
                    try clear c38
                    try clear c38b0
                    try clear c38b1
                    try clear c39
                    try clear c39b0
                    try clear c39b1
                    try clear c40
                    try clear c40b0
                    try clear c40b1
                    try clear c41
                    try clear c41b0
                    try clear c41b1
                    try clear hcz26_0
                    try clear hcz26_1
                    try clear hcz26_2
                    try clear hcz26_3
                    try clear hcz26_4
                    try clear hcz37_0
                    try clear hcz37_1
                    try clear hcz37_2
                    try clear hcz37_3
                    try clear hcz37_4
                    try clear hcz45_0
                    try clear hcz45_1
                    try clear hcz45_2
                    try clear hcz45_3
                    try clear hcz45_4
                    try clear hcz49_0
                    try clear hcz49_1
                    try clear hcz49_2
                    try clear hcz49_3
                    try clear hcz49_4
                    try clear hcz53_0
                    try clear hcz53_1
                    try clear hcz53_2
                    try clear hcz53_3
                    try clear hcz53_4
                    try clear hfz26_0
                    try clear hfz26_1
                    try clear hfz26_2
                    try clear hfz26_3
                    try clear hfz26_4
                    try clear hfz37_0
                    try clear hfz37_1
                    try clear hfz37_2
                    try clear hfz37_3
                    try clear hfz37_4
                    try clear hfz45_0
                    try clear hfz45_1
                    try clear hfz45_2
                    try clear hfz45_3
                    try clear hfz45_4
                    try clear hfz49_0
                    try clear hfz49_1
                    try clear hfz49_2
                    try clear hfz49_3
                    try clear hfz49_4
                    try clear hfz53_0
                    try clear hfz53_1
                    try clear hfz53_2
                    try clear hfz53_3
                    try clear hfz53_4
                    try clear hx115_0
                    try clear hx115_1
                    try clear hx115_2
                    try clear hx115_3
                    try clear hx115_4
                    try clear hx116_0
                    try clear hx116_1
                    try clear hx116_2
                    try clear hx116_3
                    try clear hx116_4
                    try clear hx117_0
                    try clear hx117_1
                    try clear hx117_2
                    try clear hx117_3
                    try clear hx117_4
                    try clear hx118_0
                    try clear hx118_1
                    try clear hx118_2
                    try clear hx118_3
                    try clear hx118_4
                    try clear p115
                    try clear p116
                    try clear p117
                    try clear p118
                    try clear p2
                    try clear q115
                    try clear q116
                    try clear q117
                    try clear q118
                    obtain ⟨kq, x87_21, rfl, HA, HJ21, HO_7, HO_8, BK110, HB⟩ := hcut
                    cases kq with
                    | zero => exact absurd HA.out (by simp [gouachelaw02_TokenNumbers.j3])
                    | succ kj21 =>
                      have H := HA.out
                      clear HA
                      simp only [gouachelaw02_TokenNumbers.j3] at H
                      by_cases c60 : x87_21 = true
                      · subst c60
                        have H1 : (some false) = some r := by rw [if_pos rfl] at H; exact H
                        clear H
                        have H := H1
                        clear H1
                        obtain rfl := Option.some.inj H
                        go_wp2
                        repeat (go_quiet (fail); try go_wp2)
                        go_ret
                        exact ⟨by first | rfl | (simp [errW_none, errW_some] <;> rfl) | (simp [*, errW_none, errW_some] <;> rfl), by repeat (first | (with_reducible first | exact HB.out | apply below_alloc | apply pw_below_drewN | apply below_drew1 | refine below_set ?_ GE110.out) | exact HB.out)⟩
                      · replace c60 := Bool.eq_false_iff.mpr c60
                        subst c60
                        have H1 : (if 0 < (t104.length : Int) then ((token_Int.f ((rd_T26 t104 0).f0) ((rd_T26 t104 0).f1) ((rd_T26 t104 0).f2) ((rd_T26 t104 0).f3) ((rd_T26 t104 0).f4)).bind fun bt120 => (if 0 < (t107.length : Int) then ((token_Int.f ((rd_T26 t107 0).f0) ((rd_T26 t107 0).f1) ((rd_T26 t107 0).f2) ((rd_T26 t107 0).f3) ((rd_T26 t107 0).f4)).bind fun bt123 => (if bt120.2 = true then (if bt123.2 = true then (if bt120.1 = x6_14 then (if bt123.1 = x6_14 then ((gouachelaw02_lives.f).bind fun t125 => (some t125)) else (some false)) else (some false)) else (some false)) else (some false))) else (none))) else (none)) = some r := by rw [if_neg (show ¬ (false = true) by decide)] at H; exact H
                        clear H
                        have H := H1
                        clear H1
                        by_cases c61 : 0 < (t104.length : Int)
                        · rw [if_pos c61] at H
                          have c61b0 : decide (0 < (t104.length : Int)) = true := decide_eq_true c61
                          have c61b1 : decide (0 < t104.length) = true := decide_eq_true (by omega)
                          clear c61
                          replace H := Option.bind_eq_some_iff.mp H
                          obtain ⟨⟨t120, t121⟩, A620, H⟩ := H
                          replace H : (if 0 < (t107.length : Int) then ((token_Int.f ((rd_T26 t107 0).f0) ((rd_T26 t107 0).f1) ((rd_T26 t107 0).f2) ((rd_T26 t107 0).f3) ((rd_T26 t107 0).f4)).bind fun bt123 => (if t121 = true then (if bt123.2 = true then (if t120 = x6_14 then (if bt123.1 = x6_14 then ((gouachelaw02_lives.f).bind fun t125 => (some t125)) else (some false)) else (some false)) else (some false)) else (some false))) else (none)) = some r := H
                          have A62 := Aside0.mk A620
                          clear A620
                          by_cases c63 : 0 < (t107.length : Int)
                          · rw [if_pos c63] at H
                            have c63b0 : decide (0 < (t107.length : Int)) = true := decide_eq_true c63
                            have c63b1 : decide (0 < t107.length) = true := decide_eq_true (by omega)
                            clear c63
                            replace H := Option.bind_eq_some_iff.mp H
                            obtain ⟨⟨t123, t124⟩, A640, H⟩ := H
                            replace H : (if t121 = true then (if t124 = true then (if t120 = x6_14 then (if t123 = x6_14 then ((gouachelaw02_lives.f).bind fun t125 => (some t125)) else (some false)) else (some false)) else (some false)) else (some false)) = some r := H
                            have A64 := Aside0.mk A640
                            clear A640
                            by_cases c65 : t121 = true
                            · subst c65
                              have H1 : (if t124 = true then (if t120 = x6_14 then (if t123 = x6_14 then ((gouachelaw02_lives.f).bind fun t125 => (some t125)) else (some false)) else (some false)) else (some false)) = some r := by rw [if_pos rfl] at H; exact H
                              clear H
                              have H := H1
                              clear H1
                              by_cases c66 : t124 = true
                              · subst c66
                                have H1 : (if t120 = x6_14 then (if t123 = x6_14 then ((gouachelaw02_lives.f).bind fun t125 => (some t125)) else (some false)) else (some false)) = some r := by rw [if_pos rfl] at H; exact H
                                clear H
                                have H := H1
                                clear H1
                                by_cases c67 : t120 = x6_14
                                · rw [if_pos c67] at H
                                  have c67b0 : (t120 == x6_14) = true := beq_iff_eq.mpr c67
                                  have c67b1 : (t120 != x6_14) = false := bne_eq_false_iff_eq.mpr c67
                                  clear c67
                                  by_cases c68 : t123 = x6_14
                                  · rw [if_pos c68] at H
                                    have c68b0 : (t123 == x6_14) = true := beq_iff_eq.mpr c68
                                    have c68b1 : (t123 != x6_14) = false := bne_eq_false_iff_eq.mpr c68
                                    clear c68
                                    replace H := Option.bind_eq_some_iff.mp H
                                    obtain ⟨t125, A690, H⟩ := H
                                    replace H : (some t125) = some r := H
                                    have A69 := Aside0.mk A690
                                    clear A690
                                    obtain rfl := Option.some.inj H
                                    obtain ⟨Ao70, co70, eo70⟩ := Kd.R_slice HO_7.out
                                    subst eo70
                                    have p119 : 0 ≤ (0 : Int) := (by omega)
                                    have q119 : 0 < (t104.length : Int) := of_decide_eq_true (by first | (with_reducible assumption) | assumption)
                                    obtain ⟨ad119, e119, hx119_0, hx119_1, hx119_2, hx119_3, hx119_4⟩ := at_T26 (Kd.R_reads' HO_7.out).2.2 0 p119 q119
                                    cases e119
                                    have qi119 : (0 < t104.length) = True := eq_true (by omega)
                                    (try rw [show ((0 : Int)).toNat = 0 from rfl] at hx119_0)
                                    (try rw [show 0 * 5 = 0 from rfl] at hx119_0)
                                    (try rw [Addr.add_zero'] at hx119_0)
                                    (try rw [show ((0 : Int)).toNat = 0 from rfl] at hx119_1)
                                    (try rw [show 0 * 5 = 0 from rfl] at hx119_1)
                                    (try rw [Addr.add_zero'] at hx119_1)
                                    (try rw [show ((0 : Int)).toNat = 0 from rfl] at hx119_2)
                                    (try rw [show 0 * 5 = 0 from rfl] at hx119_2)
                                    (try rw [Addr.add_zero'] at hx119_2)
                                    (try rw [show ((0 : Int)).toNat = 0 from rfl] at hx119_3)
                                    (try rw [show 0 * 5 = 0 from rfl] at hx119_3)
                                    (try rw [Addr.add_zero'] at hx119_3)
                                    (try rw [show ((0 : Int)).toNat = 0 from rfl] at hx119_4)
                                    (try rw [show 0 * 5 = 0 from rfl] at hx119_4)
                                    (try rw [Addr.add_zero'] at hx119_4)
                                    replace p119 := eq_true p119
                                    replace q119 := eq_true q119
                                    go_wp2_with (first | (go_at_call 17; (with_reducible refine (token_Int.calls ((rd_T26 t104 0).f0) ((rd_T26 t104 0).f1) ((rd_T26 t104 0).f2) ((rd_T26 t104 0).f3) ((rd_T26 t104 0).f4) t120 true _ A62.out).mono ?_); rintro e w71 ⟨rfl, hb⟩; have n0_ := Aside0.mk (Kd.R_below (by (with_reducible repeat (first | apply Kd.R_alloc | apply Kd.R_drewN | apply Kd.R_drew)); exact HO_7.out) hb); have n1_ := Aside0.mk (Kd.R_below (by (with_reducible repeat (first | apply Kd.R_alloc | apply Kd.R_drewN | apply Kd.R_drew)); exact HO_8.out) hb); have n2_ := Aside0.mk (blk_below (g := gb110) (o := .cells #[.int .i64 12, .string t103, .string a1, .bool true, .bool false] 26 (0, 0)) (by (with_reducible repeat (first | refine blk_drewN ?_ _ | refine blk_drew ?_ | refine blk_alloc ?_ _)); exact BK110.out) hb); have n3_ := Aside0.mk (below_step (by repeat (first | (with_reducible first | exact HB.out | apply below_alloc | apply pw_below_drewN | apply below_drew1 | refine below_set ?_ GE110.out) | exact HB.out)) hb); clear HO_7; clear HO_8; clear BK110; clear HB; have HO_7 := n0_; have HO_8 := n1_; have BK110 := n2_; have HB := n3_; clear n0_ n1_ n2_ n3_; (try clear hb); (try clear hb2); (try clear hk); (try clear hi); obtain ⟨Ao72, co72, eo72⟩ := Kd.R_slice HO_8.out; subst eo72; have p122 : 0 ≤ (0 : Int) := (by omega); have q122 : 0 < (t107.length : Int) := of_decide_eq_true (by first | (with_reducible assumption) | assumption); obtain ⟨ad122, e122, hx122_0, hx122_1, hx122_2, hx122_3, hx122_4⟩ := at_T26 (Kd.R_reads' HO_8.out).2.2 0 p122 q122; cases e122; have qi122 : (0 < t107.length) = True := eq_true (by omega); (try rw [show ((0 : Int)).toNat = 0 from rfl] at hx122_0); (try rw [show 0 * 5 = 0 from rfl] at hx122_0); (try rw [Addr.add_zero'] at hx122_0); (try rw [show ((0 : Int)).toNat = 0 from rfl] at hx122_1); (try rw [show 0 * 5 = 0 from rfl] at hx122_1); (try rw [Addr.add_zero'] at hx122_1); (try rw [show ((0 : Int)).toNat = 0 from rfl] at hx122_2); (try rw [show 0 * 5 = 0 from rfl] at hx122_2); (try rw [Addr.add_zero'] at hx122_2); (try rw [show ((0 : Int)).toNat = 0 from rfl] at hx122_3); (try rw [show 0 * 5 = 0 from rfl] at hx122_3); (try rw [Addr.add_zero'] at hx122_3); (try rw [show ((0 : Int)).toNat = 0 from rfl] at hx122_4); (try rw [show 0 * 5 = 0 from rfl] at hx122_4); (try rw [Addr.add_zero'] at hx122_4); replace p122 := eq_true p122; replace q122 := eq_true q122) | (go_at_call 17; (with_reducible refine (token_Int.calls ((rd_T26 t107 0).f0) ((rd_T26 t107 0).f1) ((rd_T26 t107 0).f2) ((rd_T26 t107 0).f3) ((rd_T26 t107 0).f4) t123 true _ A64.out).mono ?_); rintro e w73 ⟨rfl, hb⟩; have n0_ := Aside0.mk (Kd.R_below (by (with_reducible repeat (first | apply Kd.R_alloc | apply Kd.R_drewN | apply Kd.R_drew)); exact HO_7.out) hb); have n1_ := Aside0.mk (Kd.R_below (by (with_reducible repeat (first | apply Kd.R_alloc | apply Kd.R_drewN | apply Kd.R_drew)); exact HO_8.out) hb); have n2_ := Aside0.mk (blk_below (g := gb110) (o := .cells #[.int .i64 12, .string t103, .string a1, .bool true, .bool false] 26 (0, 0)) (by (with_reducible repeat (first | refine blk_drewN ?_ _ | refine blk_drew ?_ | refine blk_alloc ?_ _)); exact BK110.out) hb); have n3_ := Aside0.mk (below_step (by repeat (first | (with_reducible first | exact HB.out | apply below_alloc | apply pw_below_drewN | apply below_drew1 | refine below_set ?_ GE110.out) | exact HB.out)) hb); clear HO_7; clear HO_8; clear BK110; clear HB; have HO_7 := n0_; have HO_8 := n1_; have BK110 := n2_; have HB := n3_; clear n0_ n1_ n2_ n3_; (try clear hb); (try clear hb2); (try clear hk); (try clear hi)) | (go_at_call 9; (with_reducible refine (gouachelaw02_lives.calls  t125 _ A69.out (HT.out.below (by repeat (first | (with_reducible first | exact HB.out | apply below_alloc | apply pw_below_drewN | apply below_drew1) | exact HB.out)))).mono ?_); rintro e w74 ⟨rfl, hb⟩; have n0_ := Aside0.mk (Kd.R_below (by (with_reducible repeat (first | apply Kd.R_alloc | apply Kd.R_drewN | apply Kd.R_drew)); exact HO_7.out) hb); have n1_ := Aside0.mk (Kd.R_below (by (with_reducible repeat (first | apply Kd.R_alloc | apply Kd.R_drewN | apply Kd.R_drew)); exact HO_8.out) hb); have n2_ := Aside0.mk (blk_below (g := gb110) (o := .cells #[.int .i64 12, .string t103, .string a1, .bool true, .bool false] 26 (0, 0)) (by (with_reducible repeat (first | refine blk_drewN ?_ _ | refine blk_drew ?_ | refine blk_alloc ?_ _)); exact BK110.out) hb); have n3_ := Aside0.mk (below_step (by repeat (first | (with_reducible first | exact HB.out | apply below_alloc | apply pw_below_drewN | apply below_drew1 | refine below_set ?_ GE110.out) | exact HB.out)) hb); clear HO_7; clear HO_8; clear BK110; clear HB; have HO_7 := n0_; have HO_8 := n1_; have BK110 := n2_; have HB := n3_; clear n0_ n1_ n2_ n3_; (try clear hb); (try clear hb2); (try clear hk); (try clear hi)))
                                    repeat (go_quiet (first | (go_at_call 17; (with_reducible refine (token_Int.calls ((rd_T26 t104 0).f0) ((rd_T26 t104 0).f1) ((rd_T26 t104 0).f2) ((rd_T26 t104 0).f3) ((rd_T26 t104 0).f4) t120 true _ A62.out).mono ?_); rintro e w71 ⟨rfl, hb⟩; have n0_ := Aside0.mk (Kd.R_below (by (with_reducible repeat (first | apply Kd.R_alloc | apply Kd.R_drewN | apply Kd.R_drew)); exact HO_7.out) hb); have n1_ := Aside0.mk (Kd.R_below (by (with_reducible repeat (first | apply Kd.R_alloc | apply Kd.R_drewN | apply Kd.R_drew)); exact HO_8.out) hb); have n2_ := Aside0.mk (blk_below (g := gb110) (o := .cells #[.int .i64 12, .string t103, .string a1, .bool true, .bool false] 26 (0, 0)) (by (with_reducible repeat (first | refine blk_drewN ?_ _ | refine blk_drew ?_ | refine blk_alloc ?_ _)); exact BK110.out) hb); have n3_ := Aside0.mk (below_step (by repeat (first | (with_reducible first | exact HB.out | apply below_alloc | apply pw_below_drewN | apply below_drew1 | refine below_set ?_ GE110.out) | exact HB.out)) hb); clear HO_7; clear HO_8; clear BK110; clear HB; have HO_7 := n0_; have HO_8 := n1_; have BK110 := n2_; have HB := n3_; clear n0_ n1_ n2_ n3_; (try clear hb); (try clear hb2); (try clear hk); (try clear hi); obtain ⟨Ao72, co72, eo72⟩ := Kd.R_slice HO_8.out; subst eo72; have p122 : 0 ≤ (0 : Int) := (by omega); have q122 : 0 < (t107.length : Int) := of_decide_eq_true (by first | (with_reducible assumption) | assumption); obtain ⟨ad122, e122, hx122_0, hx122_1, hx122_2, hx122_3, hx122_4⟩ := at_T26 (Kd.R_reads' HO_8.out).2.2 0 p122 q122; cases e122; have qi122 : (0 < t107.length) = True := eq_true (by omega); (try rw [show ((0 : Int)).toNat = 0 from rfl] at hx122_0); (try rw [show 0 * 5 = 0 from rfl] at hx122_0); (try rw [Addr.add_zero'] at hx122_0); (try rw [show ((0 : Int)).toNat = 0 from rfl] at hx122_1); (try rw [show 0 * 5 = 0 from rfl] at hx122_1); (try rw [Addr.add_zero'] at hx122_1); (try rw [show ((0 : Int)).toNat = 0 from rfl] at hx122_2); (try rw [show 0 * 5 = 0 from rfl] at hx122_2); (try rw [Addr.add_zero'] at hx122_2); (try rw [show ((0 : Int)).toNat = 0 from rfl] at hx122_3); (try rw [show 0 * 5 = 0 from rfl] at hx122_3); (try rw [Addr.add_zero'] at hx122_3); (try rw [show ((0 : Int)).toNat = 0 from rfl] at hx122_4); (try rw [show 0 * 5 = 0 from rfl] at hx122_4); (try rw [Addr.add_zero'] at hx122_4); replace p122 := eq_true p122; replace q122 := eq_true q122) | (go_at_call 17; (with_reducible refine (token_Int.calls ((rd_T26 t107 0).f0) ((rd_T26 t107 0).f1) ((rd_T26 t107 0).f2) ((rd_T26 t107 0).f3) ((rd_T26 t107 0).f4) t123 true _ A64.out).mono ?_); rintro e w73 ⟨rfl, hb⟩; have n0_ := Aside0.mk (Kd.R_below (by (with_reducible repeat (first | apply Kd.R_alloc | apply Kd.R_drewN | apply Kd.R_drew)); exact HO_7.out) hb); have n1_ := Aside0.mk (Kd.R_below (by (with_reducible repeat (first | apply Kd.R_alloc | apply Kd.R_drewN | apply Kd.R_drew)); exact HO_8.out) hb); have n2_ := Aside0.mk (blk_below (g := gb110) (o := .cells #[.int .i64 12, .string t103, .string a1, .bool true, .bool false] 26 (0, 0)) (by (with_reducible repeat (first | refine blk_drewN ?_ _ | refine blk_drew ?_ | refine blk_alloc ?_ _)); exact BK110.out) hb); have n3_ := Aside0.mk (below_step (by repeat (first | (with_reducible first | exact HB.out | apply below_alloc | apply pw_below_drewN | apply below_drew1 | refine below_set ?_ GE110.out) | exact HB.out)) hb); clear HO_7; clear HO_8; clear BK110; clear HB; have HO_7 := n0_; have HO_8 := n1_; have BK110 := n2_; have HB := n3_; clear n0_ n1_ n2_ n3_; (try clear hb); (try clear hb2); (try clear hk); (try clear hi)) | (go_at_call 9; (with_reducible refine (gouachelaw02_lives.calls  t125 _ A69.out (HT.out.below (by repeat (first | (with_reducible first | exact HB.out | apply below_alloc | apply pw_below_drewN | apply below_drew1) | exact HB.out)))).mono ?_); rintro e w74 ⟨rfl, hb⟩; have n0_ := Aside0.mk (Kd.R_below (by (with_reducible repeat (first | apply Kd.R_alloc | apply Kd.R_drewN | apply Kd.R_drew)); exact HO_7.out) hb); have n1_ := Aside0.mk (Kd.R_below (by (with_reducible repeat (first | apply Kd.R_alloc | apply Kd.R_drewN | apply Kd.R_drew)); exact HO_8.out) hb); have n2_ := Aside0.mk (blk_below (g := gb110) (o := .cells #[.int .i64 12, .string t103, .string a1, .bool true, .bool false] 26 (0, 0)) (by (with_reducible repeat (first | refine blk_drewN ?_ _ | refine blk_drew ?_ | refine blk_alloc ?_ _)); exact BK110.out) hb); have n3_ := Aside0.mk (below_step (by repeat (first | (with_reducible first | exact HB.out | apply below_alloc | apply pw_below_drewN | apply below_drew1 | refine below_set ?_ GE110.out) | exact HB.out)) hb); clear HO_7; clear HO_8; clear BK110; clear HB; have HO_7 := n0_; have HO_8 := n1_; have BK110 := n2_; have HB := n3_; clear n0_ n1_ n2_ n3_; (try clear hb); (try clear hb2); (try clear hk); (try clear hi))); try go_wp2_with (first | (go_at_call 17; (with_reducible refine (token_Int.calls ((rd_T26 t104 0).f0) ((rd_T26 t104 0).f1) ((rd_T26 t104 0).f2) ((rd_T26 t104 0).f3) ((rd_T26 t104 0).f4) t120 true _ A62.out).mono ?_); rintro e w71 ⟨rfl, hb⟩; have n0_ := Aside0.mk (Kd.R_below (by (with_reducible repeat (first | apply Kd.R_alloc | apply Kd.R_drewN | apply Kd.R_drew)); exact HO_7.out) hb); have n1_ := Aside0.mk (Kd.R_below (by (with_reducible repeat (first | apply Kd.R_alloc | apply Kd.R_drewN | apply Kd.R_drew)); exact HO_8.out) hb); have n2_ := Aside0.mk (blk_below (g := gb110) (o := .cells #[.int .i64 12, .string t103, .string a1, .bool true, .bool false] 26 (0, 0)) (by (with_reducible repeat (first | refine blk_drewN ?_ _ | refine blk_drew ?_ | refine blk_alloc ?_ _)); exact BK110.out) hb); have n3_ := Aside0.mk (below_step (by repeat (first | (with_reducible first | exact HB.out | apply below_alloc | apply pw_below_drewN | apply below_drew1 | refine below_set ?_ GE110.out) | exact HB.out)) hb); clear HO_7; clear HO_8; clear BK110; clear HB; have HO_7 := n0_; have HO_8 := n1_; have BK110 := n2_; have HB := n3_; clear n0_ n1_ n2_ n3_; (try clear hb); (try clear hb2); (try clear hk); (try clear hi); obtain ⟨Ao72, co72, eo72⟩ := Kd.R_slice HO_8.out; subst eo72; have p122 : 0 ≤ (0 : Int) := (by omega); have q122 : 0 < (t107.length : Int) := of_decide_eq_true (by first | (with_reducible assumption) | assumption); obtain ⟨ad122, e122, hx122_0, hx122_1, hx122_2, hx122_3, hx122_4⟩ := at_T26 (Kd.R_reads' HO_8.out).2.2 0 p122 q122; cases e122; have qi122 : (0 < t107.length) = True := eq_true (by omega); (try rw [show ((0 : Int)).toNat = 0 from rfl] at hx122_0); (try rw [show 0 * 5 = 0 from rfl] at hx122_0); (try rw [Addr.add_zero'] at hx122_0); (try rw [show ((0 : Int)).toNat = 0 from rfl] at hx122_1); (try rw [show 0 * 5 = 0 from rfl] at hx122_1); (try rw [Addr.add_zero'] at hx122_1); (try rw [show ((0 : Int)).toNat = 0 from rfl] at hx122_2); (try rw [show 0 * 5 = 0 from rfl] at hx122_2); (try rw [Addr.add_zero'] at hx122_2); (try rw [show ((0 : Int)).toNat = 0 from rfl] at hx122_3); (try rw [show 0 * 5 = 0 from rfl] at hx122_3); (try rw [Addr.add_zero'] at hx122_3); (try rw [show ((0 : Int)).toNat = 0 from rfl] at hx122_4); (try rw [show 0 * 5 = 0 from rfl] at hx122_4); (try rw [Addr.add_zero'] at hx122_4); replace p122 := eq_true p122; replace q122 := eq_true q122) | (go_at_call 17; (with_reducible refine (token_Int.calls ((rd_T26 t107 0).f0) ((rd_T26 t107 0).f1) ((rd_T26 t107 0).f2) ((rd_T26 t107 0).f3) ((rd_T26 t107 0).f4) t123 true _ A64.out).mono ?_); rintro e w73 ⟨rfl, hb⟩; have n0_ := Aside0.mk (Kd.R_below (by (with_reducible repeat (first | apply Kd.R_alloc | apply Kd.R_drewN | apply Kd.R_drew)); exact HO_7.out) hb); have n1_ := Aside0.mk (Kd.R_below (by (with_reducible repeat (first | apply Kd.R_alloc | apply Kd.R_drewN | apply Kd.R_drew)); exact HO_8.out) hb); have n2_ := Aside0.mk (blk_below (g := gb110) (o := .cells #[.int .i64 12, .string t103, .string a1, .bool true, .bool false] 26 (0, 0)) (by (with_reducible repeat (first | refine blk_drewN ?_ _ | refine blk_drew ?_ | refine blk_alloc ?_ _)); exact BK110.out) hb); have n3_ := Aside0.mk (below_step (by repeat (first | (with_reducible first | exact HB.out | apply below_alloc | apply pw_below_drewN | apply below_drew1 | refine below_set ?_ GE110.out) | exact HB.out)) hb); clear HO_7; clear HO_8; clear BK110; clear HB; have HO_7 := n0_; have HO_8 := n1_; have BK110 := n2_; have HB := n3_; clear n0_ n1_ n2_ n3_; (try clear hb); (try clear hb2); (try clear hk); (try clear hi)) | (go_at_call 9; (with_reducible refine (gouachelaw02_lives.calls  t125 _ A69.out (HT.out.below (by repeat (first | (with_reducible first | exact HB.out | apply below_alloc | apply pw_below_drewN | apply below_drew1) | exact HB.out)))).mono ?_); rintro e w74 ⟨rfl, hb⟩; have n0_ := Aside0.mk (Kd.R_below (by (with_reducible repeat (first | apply Kd.R_alloc | apply Kd.R_drewN | apply Kd.R_drew)); exact HO_7.out) hb); have n1_ := Aside0.mk (Kd.R_below (by (with_reducible repeat (first | apply Kd.R_alloc | apply Kd.R_drewN | apply Kd.R_drew)); exact HO_8.out) hb); have n2_ := Aside0.mk (blk_below (g := gb110) (o := .cells #[.int .i64 12, .string t103, .string a1, .bool true, .bool false] 26 (0, 0)) (by (with_reducible repeat (first | refine blk_drewN ?_ _ | refine blk_drew ?_ | refine blk_alloc ?_ _)); exact BK110.out) hb); have n3_ := Aside0.mk (below_step (by repeat (first | (with_reducible first | exact HB.out | apply below_alloc | apply pw_below_drewN | apply below_drew1 | refine below_set ?_ GE110.out) | exact HB.out)) hb); clear HO_7; clear HO_8; clear BK110; clear HB; have HO_7 := n0_; have HO_8 := n1_; have BK110 := n2_; have HB := n3_; clear n0_ n1_ n2_ n3_; (try clear hb); (try clear hb2); (try clear hk); (try clear hi))))
                                    go_ret
                                    exact ⟨by first | rfl | (simp [errW_none, errW_some] <;> rfl) | (simp [*, errW_none, errW_some] <;> rfl), by repeat (first | (with_reducible first | exact HB.out | apply below_alloc | apply pw_below_drewN | apply below_drew1 | refine below_set ?_ GE110.out) | exact HB.out)⟩
                                  · rw [if_neg c68] at H
                                    have c68b0 : (t123 == x6_14) = false := beq_eq_false_iff_ne.mpr c68
                                    have c68b1 : (t123 != x6_14) = true := bne_iff_ne.mpr c68
                                    obtain rfl := Option.some.inj H
                                    obtain ⟨Ao75, co75, eo75⟩ := Kd.R_slice HO_7.out
                                    subst eo75
                                    have p119 : 0 ≤ (0 : Int) := (by omega)
                                    have q119 : 0 < (t104.length : Int) := of_decide_eq_true (by first | (with_reducible assumption) | assumption)
                                    obtain ⟨ad119, e119, hx119_0, hx119_1, hx119_2, hx119_3, hx119_4⟩ := at_T26 (Kd.R_reads' HO_7.out).2.2 0 p119 q119
                                    cases e119
                                    have qi119 : (0 < t104.length) = True := eq_true (by omega)
                                    (try rw [show ((0 : Int)).toNat = 0 from rfl] at hx119_0)
                                    (try rw [show 0 * 5 = 0 from rfl] at hx119_0)
                                    (try rw [Addr.add_zero'] at hx119_0)
                                    (try rw [show ((0 : Int)).toNat = 0 from rfl] at hx119_1)
                                    (try rw [show 0 * 5 = 0 from rfl] at hx119_1)
                                    (try rw [Addr.add_zero'] at hx119_1)
                                    (try rw [show ((0 : Int)).toNat = 0 from rfl] at hx119_2)
                                    (try rw [show 0 * 5 = 0 from rfl] at hx119_2)
                                    (try rw [Addr.add_zero'] at hx119_2)
                                    (try rw [show ((0 : Int)).toNat = 0 from rfl] at hx119_3)
                                    (try rw [show 0 * 5 = 0 from rfl] at hx119_3)
                                    (try rw [Addr.add_zero'] at hx119_3)
                                    (try rw [show ((0 : Int)).toNat = 0 from rfl] at hx119_4)
                                    (try rw [show 0 * 5 = 0 from rfl] at hx119_4)
                                    (try rw [Addr.add_zero'] at hx119_4)
                                    replace p119 := eq_true p119
                                    replace q119 := eq_true q119
                                    go_wp2_with (first | (go_at_call 17; (with_reducible refine (token_Int.calls ((rd_T26 t104 0).f0) ((rd_T26 t104 0).f1) ((rd_T26 t104 0).f2) ((rd_T26 t104 0).f3) ((rd_T26 t104 0).f4) t120 true _ A62.out).mono ?_); rintro e w76 ⟨rfl, hb⟩; have n0_ := Aside0.mk (Kd.R_below (by (with_reducible repeat (first | apply Kd.R_alloc | apply Kd.R_drewN | apply Kd.R_drew)); exact HO_7.out) hb); have n1_ := Aside0.mk (Kd.R_below (by (with_reducible repeat (first | apply Kd.R_alloc | apply Kd.R_drewN | apply Kd.R_drew)); exact HO_8.out) hb); have n2_ := Aside0.mk (blk_below (g := gb110) (o := .cells #[.int .i64 12, .string t103, .string a1, .bool true, .bool false] 26 (0, 0)) (by (with_reducible repeat (first | refine blk_drewN ?_ _ | refine blk_drew ?_ | refine blk_alloc ?_ _)); exact BK110.out) hb); have n3_ := Aside0.mk (below_step (by repeat (first | (with_reducible first | exact HB.out | apply below_alloc | apply pw_below_drewN | apply below_drew1 | refine below_set ?_ GE110.out) | exact HB.out)) hb); clear HO_7; clear HO_8; clear BK110; clear HB; have HO_7 := n0_; have HO_8 := n1_; have BK110 := n2_; have HB := n3_; clear n0_ n1_ n2_ n3_; (try clear hb); (try clear hb2); (try clear hk); (try clear hi); obtain ⟨Ao77, co77, eo77⟩ := Kd.R_slice HO_8.out; subst eo77; have p122 : 0 ≤ (0 : Int) := (by omega); have q122 : 0 < (t107.length : Int) := of_decide_eq_true (by first | (with_reducible assumption) | assumption); obtain ⟨ad122, e122, hx122_0, hx122_1, hx122_2, hx122_3, hx122_4⟩ := at_T26 (Kd.R_reads' HO_8.out).2.2 0 p122 q122; cases e122; have qi122 : (0 < t107.length) = True := eq_true (by omega); (try rw [show ((0 : Int)).toNat = 0 from rfl] at hx122_0); (try rw [show 0 * 5 = 0 from rfl] at hx122_0); (try rw [Addr.add_zero'] at hx122_0); (try rw [show ((0 : Int)).toNat = 0 from rfl] at hx122_1); (try rw [show 0 * 5 = 0 from rfl] at hx122_1); (try rw [Addr.add_zero'] at hx122_1); (try rw [show ((0 : Int)).toNat = 0 from rfl] at hx122_2); (try rw [show 0 * 5 = 0 from rfl] at hx122_2); (try rw [Addr.add_zero'] at hx122_2); (try rw [show ((0 : Int)).toNat = 0 from rfl] at hx122_3); (try rw [show 0 * 5 = 0 from rfl] at hx122_3); (try rw [Addr.add_zero'] at hx122_3); (try rw [show ((0 : Int)).toNat = 0 from rfl] at hx122_4); (try rw [show 0 * 5 = 0 from rfl] at hx122_4); (try rw [Addr.add_zero'] at hx122_4); replace p122 := eq_true p122; replace q122 := eq_true q122) | (go_at_call 17; (with_reducible refine (token_Int.calls ((rd_T26 t107 0).f0) ((rd_T26 t107 0).f1) ((rd_T26 t107 0).f2) ((rd_T26 t107 0).f3) ((rd_T26 t107 0).f4) t123 true _ A64.out).mono ?_); rintro e w78 ⟨rfl, hb⟩; have n0_ := Aside0.mk (Kd.R_below (by (with_reducible repeat (first | apply Kd.R_alloc | apply Kd.R_drewN | apply Kd.R_drew)); exact HO_7.out) hb); have n1_ := Aside0.mk (Kd.R_below (by (with_reducible repeat (first | apply Kd.R_alloc | apply Kd.R_drewN | apply Kd.R_drew)); exact HO_8.out) hb); have n2_ := Aside0.mk (blk_below (g := gb110) (o := .cells #[.int .i64 12, .string t103, .string a1, .bool true, .bool false] 26 (0, 0)) (by (with_reducible repeat (first | refine blk_drewN ?_ _ | refine blk_drew ?_ | refine blk_alloc ?_ _)); exact BK110.out) hb); have n3_ := Aside0.mk (below_step (by repeat (first | (with_reducible first | exact HB.out | apply below_alloc | apply pw_below_drewN | apply below_drew1 | refine below_set ?_ GE110.out) | exact HB.out)) hb); clear HO_7; clear HO_8; clear BK110; clear HB; have HO_7 := n0_; have HO_8 := n1_; have BK110 := n2_; have HB := n3_; clear n0_ n1_ n2_ n3_; (try clear hb); (try clear hb2); (try clear hk); (try clear hi)))
                                    repeat (go_quiet (first | (go_at_call 17; (with_reducible refine (token_Int.calls ((rd_T26 t104 0).f0) ((rd_T26 t104 0).f1) ((rd_T26 t104 0).f2) ((rd_T26 t104 0).f3) ((rd_T26 t104 0).f4) t120 true _ A62.out).mono ?_); rintro e w76 ⟨rfl, hb⟩; have n0_ := Aside0.mk (Kd.R_below (by (with_reducible repeat (first | apply Kd.R_alloc | apply Kd.R_drewN | apply Kd.R_drew)); exact HO_7.out) hb); have n1_ := Aside0.mk (Kd.R_below (by (with_reducible repeat (first | apply Kd.R_alloc | apply Kd.R_drewN | apply Kd.R_drew)); exact HO_8.out) hb); have n2_ := Aside0.mk (blk_below (g := gb110) (o := .cells #[.int .i64 12, .string t103, .string a1, .bool true, .bool false] 26 (0, 0)) (by (with_reducible repeat (first | refine blk_drewN ?_ _ | refine blk_drew ?_ | refine blk_alloc ?_ _)); exact BK110.out) hb); have n3_ := Aside0.mk (below_step (by repeat (first | (with_reducible first | exact HB.out | apply below_alloc | apply pw_below_drewN | apply below_drew1 | refine below_set ?_ GE110.out) | exact HB.out)) hb); clear HO_7; clear HO_8; clear BK110; clear HB; have HO_7 := n0_; have HO_8 := n1_; have BK110 := n2_; have HB := n3_; clear n0_ n1_ n2_ n3_; (try clear hb); (try clear hb2); (try clear hk); (try clear hi); obtain ⟨Ao77, co77, eo77⟩ := Kd.R_slice HO_8.out; subst eo77; have p122 : 0 ≤ (0 : Int) := (by omega); have q122 : 0 < (t107.length : Int) := of_decide_eq_true (by first | (with_reducible assumption) | assumption); obtain ⟨ad122, e122, hx122_0, hx122_1, hx122_2, hx122_3, hx122_4⟩ := at_T26 (Kd.R_reads' HO_8.out).2.2 0 p122 q122; cases e122; have qi122 : (0 < t107.length) = True := eq_true (by omega); (try rw [show ((0 : Int)).toNat = 0 from rfl] at hx122_0); (try rw [show 0 * 5 = 0 from rfl] at hx122_0); (try rw [Addr.add_zero'] at hx122_0); (try rw [show ((0 : Int)).toNat = 0 from rfl] at hx122_1); (try rw [show 0 * 5 = 0 from rfl] at hx122_1); (try rw [Addr.add_zero'] at hx122_1); (try rw [show ((0 : Int)).toNat = 0 from rfl] at hx122_2); (try rw [show 0 * 5 = 0 from rfl] at hx122_2); (try rw [Addr.add_zero'] at hx122_2); (try rw [show ((0 : Int)).toNat = 0 from rfl] at hx122_3); (try rw [show 0 * 5 = 0 from rfl] at hx122_3); (try rw [Addr.add_zero'] at hx122_3); (try rw [show ((0 : Int)).toNat = 0 from rfl] at hx122_4); (try rw [show 0 * 5 = 0 from rfl] at hx122_4); (try rw [Addr.add_zero'] at hx122_4); replace p122 := eq_true p122; replace q122 := eq_true q122) | (go_at_call 17; (with_reducible refine (token_Int.calls ((rd_T26 t107 0).f0) ((rd_T26 t107 0).f1) ((rd_T26 t107 0).f2) ((rd_T26 t107 0).f3) ((rd_T26 t107 0).f4) t123 true _ A64.out).mono ?_); rintro e w78 ⟨rfl, hb⟩; have n0_ := Aside0.mk (Kd.R_below (by (with_reducible repeat (first | apply Kd.R_alloc | apply Kd.R_drewN | apply Kd.R_drew)); exact HO_7.out) hb); have n1_ := Aside0.mk (Kd.R_below (by (with_reducible repeat (first | apply Kd.R_alloc | apply Kd.R_drewN | apply Kd.R_drew)); exact HO_8.out) hb); have n2_ := Aside0.mk (blk_below (g := gb110) (o := .cells #[.int .i64 12, .string t103, .string a1, .bool true, .bool false] 26 (0, 0)) (by (with_reducible repeat (first | refine blk_drewN ?_ _ | refine blk_drew ?_ | refine blk_alloc ?_ _)); exact BK110.out) hb); have n3_ := Aside0.mk (below_step (by repeat (first | (with_reducible first | exact HB.out | apply below_alloc | apply pw_below_drewN | apply below_drew1 | refine below_set ?_ GE110.out) | exact HB.out)) hb); clear HO_7; clear HO_8; clear BK110; clear HB; have HO_7 := n0_; have HO_8 := n1_; have BK110 := n2_; have HB := n3_; clear n0_ n1_ n2_ n3_; (try clear hb); (try clear hb2); (try clear hk); (try clear hi))); try go_wp2_with (first | (go_at_call 17; (with_reducible refine (token_Int.calls ((rd_T26 t104 0).f0) ((rd_T26 t104 0).f1) ((rd_T26 t104 0).f2) ((rd_T26 t104 0).f3) ((rd_T26 t104 0).f4) t120 true _ A62.out).mono ?_); rintro e w76 ⟨rfl, hb⟩; have n0_ := Aside0.mk (Kd.R_below (by (with_reducible repeat (first | apply Kd.R_alloc | apply Kd.R_drewN | apply Kd.R_drew)); exact HO_7.out) hb); have n1_ := Aside0.mk (Kd.R_below (by (with_reducible repeat (first | apply Kd.R_alloc | apply Kd.R_drewN | apply Kd.R_drew)); exact HO_8.out) hb); have n2_ := Aside0.mk (blk_below (g := gb110) (o := .cells #[.int .i64 12, .string t103, .string a1, .bool true, .bool false] 26 (0, 0)) (by (with_reducible repeat (first | refine blk_drewN ?_ _ | refine blk_drew ?_ | refine blk_alloc ?_ _)); exact BK110.out) hb); have n3_ := Aside0.mk (below_step (by repeat (first | (with_reducible first | exact HB.out | apply below_alloc | apply pw_below_drewN | apply below_drew1 | refine below_set ?_ GE110.out) | exact HB.out)) hb); clear HO_7; clear HO_8; clear BK110; clear HB; have HO_7 := n0_; have HO_8 := n1_; have BK110 := n2_; have HB := n3_; clear n0_ n1_ n2_ n3_; (try clear hb); (try clear hb2); (try clear hk); (try clear hi); obtain ⟨Ao77, co77, eo77⟩ := Kd.R_slice HO_8.out; subst eo77; have p122 : 0 ≤ (0 : Int) := (by omega); have q122 : 0 < (t107.length : Int) := of_decide_eq_true (by first | (with_reducible assumption) | assumption); obtain ⟨ad122, e122, hx122_0, hx122_1, hx122_2, hx122_3, hx122_4⟩ := at_T26 (Kd.R_reads' HO_8.out).2.2 0 p122 q122; cases e122; have qi122 : (0 < t107.length) = True := eq_true (by omega); (try rw [show ((0 : Int)).toNat = 0 from rfl] at hx122_0); (try rw [show 0 * 5 = 0 from rfl] at hx122_0); (try rw [Addr.add_zero'] at hx122_0); (try rw [show ((0 : Int)).toNat = 0 from rfl] at hx122_1); (try rw [show 0 * 5 = 0 from rfl] at hx122_1); (try rw [Addr.add_zero'] at hx122_1); (try rw [show ((0 : Int)).toNat = 0 from rfl] at hx122_2); (try rw [show 0 * 5 = 0 from rfl] at hx122_2); (try rw [Addr.add_zero'] at hx122_2); (try rw [show ((0 : Int)).toNat = 0 from rfl] at hx122_3); (try rw [show 0 * 5 = 0 from rfl] at hx122_3); (try rw [Addr.add_zero'] at hx122_3); (try rw [show ((0 : Int)).toNat = 0 from rfl] at hx122_4); (try rw [show 0 * 5 = 0 from rfl] at hx122_4); (try rw [Addr.add_zero'] at hx122_4); replace p122 := eq_true p122; replace q122 := eq_true q122) | (go_at_call 17; (with_reducible refine (token_Int.calls ((rd_T26 t107 0).f0) ((rd_T26 t107 0).f1) ((rd_T26 t107 0).f2) ((rd_T26 t107 0).f3) ((rd_T26 t107 0).f4) t123 true _ A64.out).mono ?_); rintro e w78 ⟨rfl, hb⟩; have n0_ := Aside0.mk (Kd.R_below (by (with_reducible repeat (first | apply Kd.R_alloc | apply Kd.R_drewN | apply Kd.R_drew)); exact HO_7.out) hb); have n1_ := Aside0.mk (Kd.R_below (by (with_reducible repeat (first | apply Kd.R_alloc | apply Kd.R_drewN | apply Kd.R_drew)); exact HO_8.out) hb); have n2_ := Aside0.mk (blk_below (g := gb110) (o := .cells #[.int .i64 12, .string t103, .string a1, .bool true, .bool false] 26 (0, 0)) (by (with_reducible repeat (first | refine blk_drewN ?_ _ | refine blk_drew ?_ | refine blk_alloc ?_ _)); exact BK110.out) hb); have n3_ := Aside0.mk (below_step (by repeat (first | (with_reducible first | exact HB.out | apply below_alloc | apply pw_below_drewN | apply below_drew1 | refine below_set ?_ GE110.out) | exact HB.out)) hb); clear HO_7; clear HO_8; clear BK110; clear HB; have HO_7 := n0_; have HO_8 := n1_; have BK110 := n2_; have HB := n3_; clear n0_ n1_ n2_ n3_; (try clear hb); (try clear hb2); (try clear hk); (try clear hi))))
                                    go_ret
                                    exact ⟨by first | rfl | (simp [errW_none, errW_some] <;> rfl) | (simp [*, errW_none, errW_some] <;> rfl), by repeat (first | (with_reducible first | exact HB.out | apply below_alloc | apply pw_below_drewN | apply below_drew1 | refine below_set ?_ GE110.out) | exact HB.out)⟩
                                · rw [if_neg c67] at H
                                  have c67b0 : (t120 == x6_14) = false := beq_eq_false_iff_ne.mpr c67
                                  have c67b1 : (t120 != x6_14) = true := bne_iff_ne.mpr c67
                                  obtain rfl := Option.some.inj H
                                  obtain ⟨Ao79, co79, eo79⟩ := Kd.R_slice HO_7.out
                                  subst eo79
                                  have p119 : 0 ≤ (0 : Int) := (by omega)
                                  have q119 : 0 < (t104.length : Int) := of_decide_eq_true (by first | (with_reducible assumption) | assumption)
                                  obtain ⟨ad119, e119, hx119_0, hx119_1, hx119_2, hx119_3, hx119_4⟩ := at_T26 (Kd.R_reads' HO_7.out).2.2 0 p119 q119
                                  cases e119
                                  have qi119 : (0 < t104.length) = True := eq_true (by omega)
                                  (try rw [show ((0 : Int)).toNat = 0 from rfl] at hx119_0)
                                  (try rw [show 0 * 5 = 0 from rfl] at hx119_0)
                                  (try rw [Addr.add_zero'] at hx119_0)
                                  (try rw [show ((0 : Int)).toNat = 0 from rfl] at hx119_1)
                                  (try rw [show 0 * 5 = 0 from rfl] at hx119_1)
                                  (try rw [Addr.add_zero'] at hx119_1)
                                  (try rw [show ((0 : Int)).toNat = 0 from rfl] at hx119_2)
                                  (try rw [show 0 * 5 = 0 from rfl] at hx119_2)
                                  (try rw [Addr.add_zero'] at hx119_2)
                                  (try rw [show ((0 : Int)).toNat = 0 from rfl] at hx119_3)
                                  (try rw [show 0 * 5 = 0 from rfl] at hx119_3)
                                  (try rw [Addr.add_zero'] at hx119_3)
                                  (try rw [show ((0 : Int)).toNat = 0 from rfl] at hx119_4)
                                  (try rw [show 0 * 5 = 0 from rfl] at hx119_4)
                                  (try rw [Addr.add_zero'] at hx119_4)
                                  replace p119 := eq_true p119
                                  replace q119 := eq_true q119
                                  go_wp2_with (first | (go_at_call 17; (with_reducible refine (token_Int.calls ((rd_T26 t104 0).f0) ((rd_T26 t104 0).f1) ((rd_T26 t104 0).f2) ((rd_T26 t104 0).f3) ((rd_T26 t104 0).f4) t120 true _ A62.out).mono ?_); rintro e w80 ⟨rfl, hb⟩; have n0_ := Aside0.mk (Kd.R_below (by (with_reducible repeat (first | apply Kd.R_alloc | apply Kd.R_drewN | apply Kd.R_drew)); exact HO_7.out) hb); have n1_ := Aside0.mk (Kd.R_below (by (with_reducible repeat (first | apply Kd.R_alloc | apply Kd.R_drewN | apply Kd.R_drew)); exact HO_8.out) hb); have n2_ := Aside0.mk (blk_below (g := gb110) (o := .cells #[.int .i64 12, .string t103, .string a1, .bool true, .bool false] 26 (0, 0)) (by (with_reducible repeat (first | refine blk_drewN ?_ _ | refine blk_drew ?_ | refine blk_alloc ?_ _)); exact BK110.out) hb); have n3_ := Aside0.mk (below_step (by repeat (first | (with_reducible first | exact HB.out | apply below_alloc | apply pw_below_drewN | apply below_drew1 | refine below_set ?_ GE110.out) | exact HB.out)) hb); clear HO_7; clear HO_8; clear BK110; clear HB; have HO_7 := n0_; have HO_8 := n1_; have BK110 := n2_; have HB := n3_; clear n0_ n1_ n2_ n3_; (try clear hb); (try clear hb2); (try clear hk); (try clear hi); obtain ⟨Ao81, co81, eo81⟩ := Kd.R_slice HO_8.out; subst eo81; have p122 : 0 ≤ (0 : Int) := (by omega); have q122 : 0 < (t107.length : Int) := of_decide_eq_true (by first | (with_reducible assumption) | assumption); obtain ⟨ad122, e122, hx122_0, hx122_1, hx122_2, hx122_3, hx122_4⟩ := at_T26 (Kd.R_reads' HO_8.out).2.2 0 p122 q122; cases e122; have qi122 : (0 < t107.length) = True := eq_true (by omega); (try rw [show ((0 : Int)).toNat = 0 from rfl] at hx122_0); (try rw [show 0 * 5 = 0 from rfl] at hx122_0); (try rw [Addr.add_zero'] at hx122_0); (try rw [show ((0 : Int)).toNat = 0 from rfl] at hx122_1); (try rw [show 0 * 5 = 0 from rfl] at hx122_1); (try rw [Addr.add_zero'] at hx122_1); (try rw [show ((0 : Int)).toNat = 0 from rfl] at hx122_2); (try rw [show 0 * 5 = 0 from rfl] at hx122_2); (try rw [Addr.add_zero'] at hx122_2); (try rw [show ((0 : Int)).toNat = 0 from rfl] at hx122_3); (try rw [show 0 * 5 = 0 from rfl] at hx122_3); (try rw [Addr.add_zero'] at hx122_3); (try rw [show ((0 : Int)).toNat = 0 from rfl] at hx122_4); (try rw [show 0 * 5 = 0 from rfl] at hx122_4); (try rw [Addr.add_zero'] at hx122_4); replace p122 := eq_true p122; replace q122 := eq_true q122) | (go_at_call 17; (with_reducible refine (token_Int.calls ((rd_T26 t107 0).f0) ((rd_T26 t107 0).f1) ((rd_T26 t107 0).f2) ((rd_T26 t107 0).f3) ((rd_T26 t107 0).f4) t123 true _ A64.out).mono ?_); rintro e w82 ⟨rfl, hb⟩; have n0_ := Aside0.mk (Kd.R_below (by (with_reducible repeat (first | apply Kd.R_alloc | apply Kd.R_drewN | apply Kd.R_drew)); exact HO_7.out) hb); have n1_ := Aside0.mk (Kd.R_below (by (with_reducible repeat (first | apply Kd.R_alloc | apply Kd.R_drewN | apply Kd.R_drew)); exact HO_8.out) hb); have n2_ := Aside0.mk (blk_below (g := gb110) (o := .cells #[.int .i64 12, .string t103, .string a1, .bool true, .bool false] 26 (0, 0)) (by (with_reducible repeat (first | refine blk_drewN ?_ _ | refine blk_drew ?_ | refine blk_alloc ?_ _)); exact BK110.out) hb); have n3_ := Aside0.mk (below_step (by repeat (first | (with_reducible first | exact HB.out | apply below_alloc | apply pw_below_drewN | apply below_drew1 | refine below_set ?_ GE110.out) | exact HB.out)) hb); clear HO_7; clear HO_8; clear BK110; clear HB; have HO_7 := n0_; have HO_8 := n1_; have BK110 := n2_; have HB := n3_; clear n0_ n1_ n2_ n3_; (try clear hb); (try clear hb2); (try clear hk); (try clear hi)))
                                  repeat (go_quiet (first | (go_at_call 17; (with_reducible refine (token_Int.calls ((rd_T26 t104 0).f0) ((rd_T26 t104 0).f1) ((rd_T26 t104 0).f2) ((rd_T26 t104 0).f3) ((rd_T26 t104 0).f4) t120 true _ A62.out).mono ?_); rintro e w80 ⟨rfl, hb⟩; have n0_ := Aside0.mk (Kd.R_below (by (with_reducible repeat (first | apply Kd.R_alloc | apply Kd.R_drewN | apply Kd.R_drew)); exact HO_7.out) hb); have n1_ := Aside0.mk (Kd.R_below (by (with_reducible repeat (first | apply Kd.R_alloc | apply Kd.R_drewN | apply Kd.R_drew)); exact HO_8.out) hb); have n2_ := Aside0.mk (blk_below (g := gb110) (o := .cells #[.int .i64 12, .string t103, .string a1, .bool true, .bool false] 26 (0, 0)) (by (with_reducible repeat (first | refine blk_drewN ?_ _ | refine blk_drew ?_ | refine blk_alloc ?_ _)); exact BK110.out) hb); have n3_ := Aside0.mk (below_step (by repeat (first | (with_reducible first | exact HB.out | apply below_alloc | apply pw_below_drewN | apply below_drew1 | refine below_set ?_ GE110.out) | exact HB.out)) hb); clear HO_7; clear HO_8; clear BK110; clear HB; have HO_7 := n0_; have HO_8 := n1_; have BK110 := n2_; have HB := n3_; clear n0_ n1_ n2_ n3_; (try clear hb); (try clear hb2); (try clear hk); (try clear hi); obtain ⟨Ao81, co81, eo81⟩ := Kd.R_slice HO_8.out; subst eo81; have p122 : 0 ≤ (0 : Int) := (by omega); have q122 : 0 < (t107.length : Int) := of_decide_eq_true (by first | (with_reducible assumption) | assumption); obtain ⟨ad122, e122, hx122_0, hx122_1, hx122_2, hx122_3, hx122_4⟩ := at_T26 (Kd.R_reads' HO_8.out).2.2 0 p122 q122; cases e122; have qi122 : (0 < t107.length) = True := eq_true (by omega); (try rw [show ((0 : Int)).toNat = 0 from rfl] at hx122_0); (try rw [show 0 * 5 = 0 from rfl] at hx122_0); (try rw [Addr.add_zero'] at hx122_0); (try rw [show ((0 : Int)).toNat = 0 from rfl] at hx122_1); (try rw [show 0 * 5 = 0 from rfl] at hx122_1); (try rw [Addr.add_zero'] at hx122_1); (try rw [show ((0 : Int)).toNat = 0 from rfl] at hx122_2); (try rw [show 0 * 5 = 0 from rfl] at hx122_2); (try rw [Addr.add_zero'] at hx122_2); (try rw [show ((0 : Int)).toNat = 0 from rfl] at hx122_3); (try rw [show 0 * 5 = 0 from rfl] at hx122_3); (try rw [Addr.add_zero'] at hx122_3); (try rw [show ((0 : Int)).toNat = 0 from rfl] at hx122_4); (try rw [show 0 * 5 = 0 from rfl] at hx122_4); (try rw [Addr.add_zero'] at hx122_4); replace p122 := eq_true p122; replace q122 := eq_true q122) | (go_at_call 17; (with_reducible refine (token_Int.calls ((rd_T26 t107 0).f0) ((rd_T26 t107 0).f1) ((rd_T26 t107 0).f2) ((rd_T26 t107 0).f3) ((rd_T26 t107 0).f4) t123 true _ A64.out).mono ?_); rintro e w82 ⟨rfl, hb⟩; have n0_ := Aside0.mk (Kd.R_below (by (with_reducible repeat (first | apply Kd.R_alloc | apply Kd.R_drewN | apply Kd.R_drew)); exact HO_7.out) hb); have n1_ := Aside0.mk (Kd.R_below (by (with_reducible repeat (first | apply Kd.R_alloc | apply Kd.R_drewN | apply Kd.R_drew)); exact HO_8.out) hb); have n2_ := Aside0.mk (blk_below (g := gb110) (o := .cells #[.int .i64 12, .string t103, .string a1, .bool true, .bool false] 26 (0, 0)) (by (with_reducible repeat (first | refine blk_drewN ?_ _ | refine blk_drew ?_ | refine blk_alloc ?_ _)); exact BK110.out) hb); have n3_ := Aside0.mk (below_step (by repeat (first | (with_reducible first | exact HB.out | apply below_alloc | apply pw_below_drewN | apply below_drew1 | refine below_set ?_ GE110.out) | exact HB.out)) hb); clear HO_7; clear HO_8; clear BK110; clear HB; have HO_7 := n0_; have HO_8 := n1_; have BK110 := n2_; have HB := n3_; clear n0_ n1_ n2_ n3_; (try clear hb); (try clear hb2); (try clear hk); (try clear hi))); try go_wp2_with (first | (go_at_call 17; (with_reducible refine (token_Int.calls ((rd_T26 t104 0).f0) ((rd_T26 t104 0).f1) ((rd_T26 t104 0).f2) ((rd_T26 t104 0).f3) ((rd_T26 t104 0).f4) t120 true _ A62.out).mono ?_); rintro e w80 ⟨rfl, hb⟩; have n0_ := Aside0.mk (Kd.R_below (by (with_reducible repeat (first | apply Kd.R_alloc | apply Kd.R_drewN | apply Kd.R_drew)); exact HO_7.out) hb); have n1_ := Aside0.mk (Kd.R_below (by (with_reducible repeat (first | apply Kd.R_alloc | apply Kd.R_drewN | apply Kd.R_drew)); exact HO_8.out) hb); have n2_ := Aside0.mk (blk_below (g := gb110) (o := .cells #[.int .i64 12, .string t103, .string a1, .bool true, .bool false] 26 (0, 0)) (by (with_reducible repeat (first | refine blk_drewN ?_ _ | refine blk_drew ?_ | refine blk_alloc ?_ _)); exact BK110.out) hb); have n3_ := Aside0.mk (below_step (by repeat (first | (with_reducible first | exact HB.out | apply below_alloc | apply pw_below_drewN | apply below_drew1 | refine below_set ?_ GE110.out) | exact HB.out)) hb); clear HO_7; clear HO_8; clear BK110; clear HB; have HO_7 := n0_; have HO_8 := n1_; have BK110 := n2_; have HB := n3_; clear n0_ n1_ n2_ n3_; (try clear hb); (try clear hb2); (try clear hk); (try clear hi); obtain ⟨Ao81, co81, eo81⟩ := Kd.R_slice HO_8.out; subst eo81; have p122 : 0 ≤ (0 : Int) := (by omega); have q122 : 0 < (t107.length : Int) := of_decide_eq_true (by first | (with_reducible assumption) | assumption); obtain ⟨ad122, e122, hx122_0, hx122_1, hx122_2, hx122_3, hx122_4⟩ := at_T26 (Kd.R_reads' HO_8.out).2.2 0 p122 q122; cases e122; have qi122 : (0 < t107.length) = True := eq_true (by omega); (try rw [show ((0 : Int)).toNat = 0 from rfl] at hx122_0); (try rw [show 0 * 5 = 0 from rfl] at hx122_0); (try rw [Addr.add_zero'] at hx122_0); (try rw [show ((0 : Int)).toNat = 0 from rfl] at hx122_1); (try rw [show 0 * 5 = 0 from rfl] at hx122_1); (try rw [Addr.add_zero'] at hx122_1); (try rw [show ((0 : Int)).toNat = 0 from rfl] at hx122_2); (try rw [show 0 * 5 = 0 from rfl] at hx122_2); (try rw [Addr.add_zero'] at hx122_2); (try rw [show ((0 : Int)).toNat = 0 from rfl] at hx122_3); (try rw [show 0 * 5 = 0 from rfl] at hx122_3); (try rw [Addr.add_zero'] at hx122_3); (try rw [show ((0 : Int)).toNat = 0 from rfl] at hx122_4); (try rw [show 0 * 5 = 0 from rfl] at hx122_4); (try rw [Addr.add_zero'] at hx122_4); replace p122 := eq_true p122; replace q122 := eq_true q122) | (go_at_call 17; (with_reducible refine (token_Int.calls ((rd_T26 t107 0).f0) ((rd_T26 t107 0).f1) ((rd_T26 t107 0).f2) ((rd_T26 t107 0).f3) ((rd_T26 t107 0).f4) t123 true _ A64.out).mono ?_); rintro e w82 ⟨rfl, hb⟩; have n0_ := Aside0.mk (Kd.R_below (by (with_reducible repeat (first | apply Kd.R_alloc | apply Kd.R_drewN | apply Kd.R_drew)); exact HO_7.out) hb); have n1_ := Aside0.mk (Kd.R_below (by (with_reducible repeat (first | apply Kd.R_alloc | apply Kd.R_drewN | apply Kd.R_drew)); exact HO_8.out) hb); have n2_ := Aside0.mk (blk_below (g := gb110) (o := .cells #[.int .i64 12, .string t103, .string a1, .bool true, .bool false] 26 (0, 0)) (by (with_reducible repeat (first | refine blk_drewN ?_ _ | refine blk_drew ?_ | refine blk_alloc ?_ _)); exact BK110.out) hb); have n3_ := Aside0.mk (below_step (by repeat (first | (with_reducible first | exact HB.out | apply below_alloc | apply pw_below_drewN | apply below_drew1 | refine below_set ?_ GE110.out) | exact HB.out)) hb); clear HO_7; clear HO_8; clear BK110; clear HB; have HO_7 := n0_; have HO_8 := n1_; have BK110 := n2_; have HB := n3_; clear n0_ n1_ n2_ n3_; (try clear hb); (try clear hb2); (try clear hk); (try clear hi))))
                                  go_ret
                                  exact ⟨by first | rfl | (simp [errW_none, errW_some] <;> rfl) | (simp [*, errW_none, errW_some] <;> rfl), by repeat (first | (with_reducible first | exact HB.out | apply below_alloc | apply pw_below_drewN | apply below_drew1 | refine below_set ?_ GE110.out) | exact HB.out)⟩
                              · replace c66 := Bool.eq_false_iff.mpr c66
                                subst c66
                                have H1 : (some false) = some r := by rw [if_neg (show ¬ (false = true) by decide)] at H; exact H
                                clear H
                                have H := H1
                                clear H1
                                obtain rfl := Option.some.inj H
                                obtain ⟨Ao83, co83, eo83⟩ := Kd.R_slice HO_7.out
                                subst eo83
                                have p119 : 0 ≤ (0 : Int) := (by omega)
                                have q119 : 0 < (t104.length : Int) := of_decide_eq_true (by first | (with_reducible assumption) | assumption)
                                obtain ⟨ad119, e119, hx119_0, hx119_1, hx119_2, hx119_3, hx119_4⟩ := at_T26 (Kd.R_reads' HO_7.out).2.2 0 p119 q119
                                cases e119
                                have qi119 : (0 < t104.length) = True := eq_true (by omega)
                                (try rw [show ((0 : Int)).toNat = 0 from rfl] at hx119_0)
                                (try rw [show 0 * 5 = 0 from rfl] at hx119_0)
                                (try rw [Addr.add_zero'] at hx119_0)
                                (try rw [show ((0 : Int)).toNat = 0 from rfl] at hx119_1)
                                (try rw [show 0 * 5 = 0 from rfl] at hx119_1)
                                (try rw [Addr.add_zero'] at hx119_1)
                                (try rw [show ((0 : Int)).toNat = 0 from rfl] at hx119_2)
                                (try rw [show 0 * 5 = 0 from rfl] at hx119_2)
                                (try rw [Addr.add_zero'] at hx119_2)
                                (try rw [show ((0 : Int)).toNat = 0 from rfl] at hx119_3)
                                (try rw [show 0 * 5 = 0 from rfl] at hx119_3)
                                (try rw [Addr.add_zero'] at hx119_3)
                                (try rw [show ((0 : Int)).toNat = 0 from rfl] at hx119_4)
                                (try rw [show 0 * 5 = 0 from rfl] at hx119_4)
                                (try rw [Addr.add_zero'] at hx119_4)
                                replace p119 := eq_true p119
                                replace q119 := eq_true q119
                                go_wp2_with (first | (go_at_call 17; (with_reducible refine (token_Int.calls ((rd_T26 t104 0).f0) ((rd_T26 t104 0).f1) ((rd_T26 t104 0).f2) ((rd_T26 t104 0).f3) ((rd_T26 t104 0).f4) t120 true _ A62.out).mono ?_); rintro e w84 ⟨rfl, hb⟩; have n0_ := Aside0.mk (Kd.R_below (by (with_reducible repeat (first | apply Kd.R_alloc | apply Kd.R_drewN | apply Kd.R_drew)); exact HO_7.out) hb); have n1_ := Aside0.mk (Kd.R_below (by (with_reducible repeat (first | apply Kd.R_alloc | apply Kd.R_drewN | apply Kd.R_drew)); exact HO_8.out) hb); have n2_ := Aside0.mk (blk_below (g := gb110) (o := .cells #[.int .i64 12, .string t103, .string a1, .bool true, .bool false] 26 (0, 0)) (by (with_reducible repeat (first | refine blk_drewN ?_ _ | refine blk_drew ?_ | refine blk_alloc ?_ _)); exact BK110.out) hb); have n3_ := Aside0.mk (below_step (by repeat (first | (with_reducible first | exact HB.out | apply below_alloc | apply pw_below_drewN | apply below_drew1 | refine below_set ?_ GE110.out) | exact HB.out)) hb); clear HO_7; clear HO_8; clear BK110; clear HB; have HO_7 := n0_; have HO_8 := n1_; have BK110 := n2_; have HB := n3_; clear n0_ n1_ n2_ n3_; (try clear hb); (try clear hb2); (try clear hk); (try clear hi); obtain ⟨Ao85, co85, eo85⟩ := Kd.R_slice HO_8.out; subst eo85; have p122 : 0 ≤ (0 : Int) := (by omega); have q122 : 0 < (t107.length : Int) := of_decide_eq_true (by first | (with_reducible assumption) | assumption); obtain ⟨ad122, e122, hx122_0, hx122_1, hx122_2, hx122_3, hx122_4⟩ := at_T26 (Kd.R_reads' HO_8.out).2.2 0 p122 q122; cases e122; have qi122 : (0 < t107.length) = True := eq_true (by omega); (try rw [show ((0 : Int)).toNat = 0 from rfl] at hx122_0); (try rw [show 0 * 5 = 0 from rfl] at hx122_0); (try rw [Addr.add_zero'] at hx122_0); (try rw [show ((0 : Int)).toNat = 0 from rfl] at hx122_1); (try rw [show 0 * 5 = 0 from rfl] at hx122_1); (try rw [Addr.add_zero'] at hx122_1); (try rw [show ((0 : Int)).toNat = 0 from rfl] at hx122_2); (try rw [show 0 * 5 = 0 from rfl] at hx122_2); (try rw [Addr.add_zero'] at hx122_2); (try rw [show ((0 : Int)).toNat = 0 from rfl] at hx122_3); (try rw [show 0 * 5 = 0 from rfl] at hx122_3); (try rw [Addr.add_zero'] at hx122_3); (try rw [show ((0 : Int)).toNat = 0 from rfl] at hx122_4); (try rw [show 0 * 5 = 0 from rfl] at hx122_4); (try rw [Addr.add_zero'] at hx122_4); replace p122 := eq_true p122; replace q122 := eq_true q122) | (go_at_call 17; (with_reducible refine (token_Int.calls ((rd_T26 t107 0).f0) ((rd_T26 t107 0).f1) ((rd_T26 t107 0).f2) ((rd_T26 t107 0).f3) ((rd_T26 t107 0).f4) t123 false _ A64.out).mono ?_); rintro e w86 ⟨rfl, hb⟩; have n0_ := Aside0.mk (Kd.R_below (by (with_reducible repeat (first | apply Kd.R_alloc | apply Kd.R_drewN | apply Kd.R_drew)); exact HO_7.out) hb); have n1_ := Aside0.mk (Kd.R_below (by (with_reducible repeat (first | apply Kd.R_alloc | apply Kd.R_drewN | apply Kd.R_drew)); exact HO_8.out) hb); have n2_ := Aside0.mk (blk_below (g := gb110) (o := .cells #[.int .i64 12, .string t103, .string a1, .bool true, .bool false] 26 (0, 0)) (by (with_reducible repeat (first | refine blk_drewN ?_ _ | refine blk_drew ?_ | refine blk_alloc ?_ _)); exact BK110.out) hb); have n3_ := Aside0.mk (below_step (by repeat (first | (with_reducible first | exact HB.out | apply below_alloc | apply pw_below_drewN | apply below_drew1 | refine below_set ?_ GE110.out) | exact HB.out)) hb); clear HO_7; clear HO_8; clear BK110; clear HB; have HO_7 := n0_; have HO_8 := n1_; have BK110 := n2_; have HB := n3_; clear n0_ n1_ n2_ n3_; (try clear hb); (try clear hb2); (try clear hk); (try clear hi)))
                                repeat (go_quiet (first | (go_at_call 17; (with_reducible refine (token_Int.calls ((rd_T26 t104 0).f0) ((rd_T26 t104 0).f1) ((rd_T26 t104 0).f2) ((rd_T26 t104 0).f3) ((rd_T26 t104 0).f4) t120 true _ A62.out).mono ?_); rintro e w84 ⟨rfl, hb⟩; have n0_ := Aside0.mk (Kd.R_below (by (with_reducible repeat (first | apply Kd.R_alloc | apply Kd.R_drewN | apply Kd.R_drew)); exact HO_7.out) hb); have n1_ := Aside0.mk (Kd.R_below (by (with_reducible repeat (first | apply Kd.R_alloc | apply Kd.R_drewN | apply Kd.R_drew)); exact HO_8.out) hb); have n2_ := Aside0.mk (blk_below (g := gb110) (o := .cells #[.int .i64 12, .string t103, .string a1, .bool true, .bool false] 26 (0, 0)) (by (with_reducible repeat (first | refine blk_drewN ?_ _ | refine blk_drew ?_ | refine blk_alloc ?_ _)); exact BK110.out) hb); have n3_ := Aside0.mk (below_step (by repeat (first | (with_reducible first | exact HB.out | apply below_alloc | apply pw_below_drewN | apply below_drew1 | refine below_set ?_ GE110.out) | exact HB.out)) hb); clear HO_7; clear HO_8; clear BK110; clear HB; have HO_7 := n0_; have HO_8 := n1_; have BK110 := n2_; have HB := n3_; clear n0_ n1_ n2_ n3_; (try clear hb); (try clear hb2); (try clear hk); (try clear hi); obtain ⟨Ao85, co85, eo85⟩ := Kd.R_slice HO_8.out; subst eo85; have p122 : 0 ≤ (0 : Int) := (by omega); have q122 : 0 < (t107.length : Int) := of_decide_eq_true (by first | (with_reducible assumption) | assumption); obtain ⟨ad122, e122, hx122_0, hx122_1, hx122_2, hx122_3, hx122_4⟩ := at_T26 (Kd.R_reads' HO_8.out).2.2 0 p122 q122; cases e122; have qi122 : (0 < t107.length) = True := eq_true (by omega); (try rw [show ((0 : Int)).toNat = 0 from rfl] at hx122_0); (try rw [show 0 * 5 = 0 from rfl] at hx122_0); (try rw [Addr.add_zero'] at hx122_0); (try rw [show ((0 : Int)).toNat = 0 from rfl] at hx122_1); (try rw [show 0 * 5 = 0 from rfl] at hx122_1); (try rw [Addr.add_zero'] at hx122_1); (try rw [show ((0 : Int)).toNat = 0 from rfl] at hx122_2); (try rw [show 0 * 5 = 0 from rfl] at hx122_2); (try rw [Addr.add_zero'] at hx122_2); (try rw [show ((0 : Int)).toNat = 0 from rfl] at hx122_3); (try rw [show 0 * 5 = 0 from rfl] at hx122_3); (try rw [Addr.add_zero'] at hx122_3); (try rw [show ((0 : Int)).toNat = 0 from rfl] at hx122_4); (try rw [show 0 * 5 = 0 from rfl] at hx122_4); (try rw [Addr.add_zero'] at hx122_4); replace p122 := eq_true p122; replace q122 := eq_true q122) | (go_at_call 17; (with_reducible refine (token_Int.calls ((rd_T26 t107 0).f0) ((rd_T26 t107 0).f1) ((rd_T26 t107 0).f2) ((rd_T26 t107 0).f3) ((rd_T26 t107 0).f4) t123 false _ A64.out).mono ?_); rintro e w86 ⟨rfl, hb⟩; have n0_ := Aside0.mk (Kd.R_below (by (with_reducible repeat (first | apply Kd.R_alloc | apply Kd.R_drewN | apply Kd.R_drew)); exact HO_7.out) hb); have n1_ := Aside0.mk (Kd.R_below (by (with_reducible repeat (first | apply Kd.R_alloc | apply Kd.R_drewN | apply Kd.R_drew)); exact HO_8.out) hb); have n2_ := Aside0.mk (blk_below (g := gb110) (o := .cells #[.int .i64 12, .string t103, .string a1, .bool true, .bool false] 26 (0, 0)) (by (with_reducible repeat (first | refine blk_drewN ?_ _ | refine blk_drew ?_ | refine blk_alloc ?_ _)); exact BK110.out) hb); have n3_ := Aside0.mk (below_step (by repeat (first | (with_reducible first | exact HB.out | apply below_alloc | apply pw_below_drewN | apply below_drew1 | refine below_set ?_ GE110.out) | exact HB.out)) hb); clear HO_7; clear HO_8; clear BK110; clear HB; have HO_7 := n0_; have HO_8 := n1_; have BK110 := n2_; have HB := n3_; clear n0_ n1_ n2_ n3_; (try clear hb); (try clear hb2); (try clear hk); (try clear hi))); try go_wp2_with (first | (go_at_call 17; (with_reducible refine (token_Int.calls ((rd_T26 t104 0).f0) ((rd_T26 t104 0).f1) ((rd_T26 t104 0).f2) ((rd_T26 t104 0).f3) ((rd_T26 t104 0).f4) t120 true _ A62.out).mono ?_); rintro e w84 ⟨rfl, hb⟩; have n0_ := Aside0.mk (Kd.R_below (by (with_reducible repeat (first | apply Kd.R_alloc | apply Kd.R_drewN | apply Kd.R_drew)); exact HO_7.out) hb); have n1_ := Aside0.mk (Kd.R_below (by (with_reducible repeat (first | apply Kd.R_alloc | apply Kd.R_drewN | apply Kd.R_drew)); exact HO_8.out) hb); have n2_ := Aside0.mk (blk_below (g := gb110) (o := .cells #[.int .i64 12, .string t103, .string a1, .bool true, .bool false] 26 (0, 0)) (by (with_reducible repeat (first | refine blk_drewN ?_ _ | refine blk_drew ?_ | refine blk_alloc ?_ _)); exact BK110.out) hb); have n3_ := Aside0.mk (below_step (by repeat (first | (with_reducible first | exact HB.out | apply below_alloc | apply pw_below_drewN | apply below_drew1 | refine below_set ?_ GE110.out) | exact HB.out)) hb); clear HO_7; clear HO_8; clear BK110; clear HB; have HO_7 := n0_; have HO_8 := n1_; have BK110 := n2_; have HB := n3_; clear n0_ n1_ n2_ n3_; (try clear hb); (try clear hb2); (try clear hk); (try clear hi); obtain ⟨Ao85, co85, eo85⟩ := Kd.R_slice HO_8.out; subst eo85; have p122 : 0 ≤ (0 : Int) := (by omega); have q122 : 0 < (t107.length : Int) := of_decide_eq_true (by first | (with_reducible assumption) | assumption); obtain ⟨ad122, e122, hx122_0, hx122_1, hx122_2, hx122_3, hx122_4⟩ := at_T26 (Kd.R_reads' HO_8.out).2.2 0 p122 q122; cases e122; have qi122 : (0 < t107.length) = True := eq_true (by omega); (try rw [show ((0 : Int)).toNat = 0 from rfl] at hx122_0); (try rw [show 0 * 5 = 0 from rfl] at hx122_0); (try rw [Addr.add_zero'] at hx122_0); (try rw [show ((0 : Int)).toNat = 0 from rfl] at hx122_1); (try rw [show 0 * 5 = 0 from rfl] at hx122_1); (try rw [Addr.add_zero'] at hx122_1); (try rw [show ((0 : Int)).toNat = 0 from rfl] at hx122_2); (try rw [show 0 * 5 = 0 from rfl] at hx122_2); (try rw [Addr.add_zero'] at hx122_2); (try rw [show ((0 : Int)).toNat = 0 from rfl] at hx122_3); (try rw [show 0 * 5 = 0 from rfl] at hx122_3); (try rw [Addr.add_zero'] at hx122_3); (try rw [show ((0 : Int)).toNat = 0 from rfl] at hx122_4); (try rw [show 0 * 5 = 0 from rfl] at hx122_4); (try rw [Addr.add_zero'] at hx122_4); replace p122 := eq_true p122; replace q122 := eq_true q122) | (go_at_call 17; (with_reducible refine (token_Int.calls ((rd_T26 t107 0).f0) ((rd_T26 t107 0).f1) ((rd_T26 t107 0).f2) ((rd_T26 t107 0).f3) ((rd_T26 t107 0).f4) t123 false _ A64.out).mono ?_); rintro e w86 ⟨rfl, hb⟩; have n0_ := Aside0.mk (Kd.R_below (by (with_reducible repeat (first | apply Kd.R_alloc | apply Kd.R_drewN | apply Kd.R_drew)); exact HO_7.out) hb); have n1_ := Aside0.mk (Kd.R_below (by (with_reducible repeat (first | apply Kd.R_alloc | apply Kd.R_drewN | apply Kd.R_drew)); exact HO_8.out) hb); have n2_ := Aside0.mk (blk_below (g := gb110) (o := .cells #[.int .i64 12, .string t103, .string a1, .bool true, .bool false] 26 (0, 0)) (by (with_reducible repeat (first | refine blk_drewN ?_ _ | refine blk_drew ?_ | refine blk_alloc ?_ _)); exact BK110.out) hb); have n3_ := Aside0.mk (below_step (by repeat (first | (with_reducible first | exact HB.out | apply below_alloc | apply pw_below_drewN | apply below_drew1 | refine below_set ?_ GE110.out) | exact HB.out)) hb); clear HO_7; clear HO_8; clear BK110; clear HB; have HO_7 := n0_; have HO_8 := n1_; have BK110 := n2_; have HB := n3_; clear n0_ n1_ n2_ n3_; (try clear hb); (try clear hb2); (try clear hk); (try clear hi))))
                                go_ret
                                exact ⟨by first | rfl | (simp [errW_none, errW_some] <;> rfl) | (simp [*, errW_none, errW_some] <;> rfl), by repeat (first | (with_reducible first | exact HB.out | apply below_alloc | apply pw_below_drewN | apply below_drew1 | refine below_set ?_ GE110.out) | exact HB.out)⟩
                            · replace c65 := Bool.eq_false_iff.mpr c65
                              subst c65
                              have H1 : (some false) = some r := by rw [if_neg (show ¬ (false = true) by decide)] at H; exact H
                              clear H
                              have H := H1
                              clear H1
                              obtain rfl := Option.some.inj H
                              obtain ⟨Ao87, co87, eo87⟩ := Kd.R_slice HO_7.out
                              subst eo87
                              have p119 : 0 ≤ (0 : Int) := (by omega)
                              have q119 : 0 < (t104.length : Int) := of_decide_eq_true (by first | (with_reducible assumption) | assumption)
                              obtain ⟨ad119, e119, hx119_0, hx119_1, hx119_2, hx119_3, hx119_4⟩ := at_T26 (Kd.R_reads' HO_7.out).2.2 0 p119 q119
                              cases e119
                              have qi119 : (0 < t104.length) = True := eq_true (by omega)
                              (try rw [show ((0 : Int)).toNat = 0 from rfl] at hx119_0)
                              (try rw [show 0 * 5 = 0 from rfl] at hx119_0)
                              (try rw [Addr.add_zero'] at hx119_0)
                              (try rw [show ((0 : Int)).toNat = 0 from rfl] at hx119_1)
                              (try rw [show 0 * 5 = 0 from rfl] at hx119_1)
                              (try rw [Addr.add_zero'] at hx119_1)
                              (try rw [show ((0 : Int)).toNat = 0 from rfl] at hx119_2)
                              (try rw [show 0 * 5 = 0 from rfl] at hx119_2)
                              (try rw [Addr.add_zero'] at hx119_2)
                              (try rw [show ((0 : Int)).toNat = 0 from rfl] at hx119_3)
                              (try rw [show 0 * 5 = 0 from rfl] at hx119_3)
                              (try rw [Addr.add_zero'] at hx119_3)
                              (try rw [show ((0 : Int)).toNat = 0 from rfl] at hx119_4)
                              (try rw [show 0 * 5 = 0 from rfl] at hx119_4)
                              (try rw [Addr.add_zero'] at hx119_4)
                              replace p119 := eq_true p119
                              replace q119 := eq_true q119
                              go_wp2_with (first | (go_at_call 17; (with_reducible refine (token_Int.calls ((rd_T26 t104 0).f0) ((rd_T26 t104 0).f1) ((rd_T26 t104 0).f2) ((rd_T26 t104 0).f3) ((rd_T26 t104 0).f4) t120 false _ A62.out).mono ?_); rintro e w88 ⟨rfl, hb⟩; have n0_ := Aside0.mk (Kd.R_below (by (with_reducible repeat (first | apply Kd.R_alloc | apply Kd.R_drewN | apply Kd.R_drew)); exact HO_7.out) hb); have n1_ := Aside0.mk (Kd.R_below (by (with_reducible repeat (first | apply Kd.R_alloc | apply Kd.R_drewN | apply Kd.R_drew)); exact HO_8.out) hb); have n2_ := Aside0.mk (blk_below (g := gb110) (o := .cells #[.int .i64 12, .string t103, .string a1, .bool true, .bool false] 26 (0, 0)) (by (with_reducible repeat (first | refine blk_drewN ?_ _ | refine blk_drew ?_ | refine blk_alloc ?_ _)); exact BK110.out) hb); have n3_ := Aside0.mk (below_step (by repeat (first | (with_reducible first | exact HB.out | apply below_alloc | apply pw_below_drewN | apply below_drew1 | refine below_set ?_ GE110.out) | exact HB.out)) hb); clear HO_7; clear HO_8; clear BK110; clear HB; have HO_7 := n0_; have HO_8 := n1_; have BK110 := n2_; have HB := n3_; clear n0_ n1_ n2_ n3_; (try clear hb); (try clear hb2); (try clear hk); (try clear hi); obtain ⟨Ao89, co89, eo89⟩ := Kd.R_slice HO_8.out; subst eo89; have p122 : 0 ≤ (0 : Int) := (by omega); have q122 : 0 < (t107.length : Int) := of_decide_eq_true (by first | (with_reducible assumption) | assumption); obtain ⟨ad122, e122, hx122_0, hx122_1, hx122_2, hx122_3, hx122_4⟩ := at_T26 (Kd.R_reads' HO_8.out).2.2 0 p122 q122; cases e122; have qi122 : (0 < t107.length) = True := eq_true (by omega); (try rw [show ((0 : Int)).toNat = 0 from rfl] at hx122_0); (try rw [show 0 * 5 = 0 from rfl] at hx122_0); (try rw [Addr.add_zero'] at hx122_0); (try rw [show ((0 : Int)).toNat = 0 from rfl] at hx122_1); (try rw [show 0 * 5 = 0 from rfl] at hx122_1); (try rw [Addr.add_zero'] at hx122_1); (try rw [show ((0 : Int)).toNat = 0 from rfl] at hx122_2); (try rw [show 0 * 5 = 0 from rfl] at hx122_2); (try rw [Addr.add_zero'] at hx122_2); (try rw [show ((0 : Int)).toNat = 0 from rfl] at hx122_3); (try rw [show 0 * 5 = 0 from rfl] at hx122_3); (try rw [Addr.add_zero'] at hx122_3); (try rw [show ((0 : Int)).toNat = 0 from rfl] at hx122_4); (try rw [show 0 * 5 = 0 from rfl] at hx122_4); (try rw [Addr.add_zero'] at hx122_4); replace p122 := eq_true p122; replace q122 := eq_true q122) | (go_at_call 17; (with_reducible refine (token_Int.calls ((rd_T26 t107 0).f0) ((rd_T26 t107 0).f1) ((rd_T26 t107 0).f2) ((rd_T26 t107 0).f3) ((rd_T26 t107 0).f4) t123 t124 _ A64.out).mono ?_); rintro e w90 ⟨rfl, hb⟩; have n0_ := Aside0.mk (Kd.R_below (by (with_reducible repeat (first | apply Kd.R_alloc | apply Kd.R_drewN | apply Kd.R_drew)); exact HO_7.out) hb); have n1_ := Aside0.mk (Kd.R_below (by (with_reducible repeat (first | apply Kd.R_alloc | apply Kd.R_drewN | apply Kd.R_drew)); exact HO_8.out) hb); have n2_ := Aside0.mk (blk_below (g := gb110) (o := .cells #[.int .i64 12, .string t103, .string a1, .bool true, .bool false] 26 (0, 0)) (by (with_reducible repeat (first | refine blk_drewN ?_ _ | refine blk_drew ?_ | refine blk_alloc ?_ _)); exact BK110.out) hb); have n3_ := Aside0.mk (below_step (by repeat (first | (with_reducible first | exact HB.out | apply below_alloc | apply pw_below_drewN | apply below_drew1 | refine below_set ?_ GE110.out) | exact HB.out)) hb); clear HO_7; clear HO_8; clear BK110; clear HB; have HO_7 := n0_; have HO_8 := n1_; have BK110 := n2_; have HB := n3_; clear n0_ n1_ n2_ n3_; (try clear hb); (try clear hb2); (try clear hk); (try clear hi)))
                              repeat (go_quiet (first | (go_at_call 17; (with_reducible refine (token_Int.calls ((rd_T26 t104 0).f0) ((rd_T26 t104 0).f1) ((rd_T26 t104 0).f2) ((rd_T26 t104 0).f3) ((rd_T26 t104 0).f4) t120 false _ A62.out).mono ?_); rintro e w88 ⟨rfl, hb⟩; have n0_ := Aside0.mk (Kd.R_below (by (with_reducible repeat (first | apply Kd.R_alloc | apply Kd.R_drewN | apply Kd.R_drew)); exact HO_7.out) hb); have n1_ := Aside0.mk (Kd.R_below (by (with_reducible repeat (first | apply Kd.R_alloc | apply Kd.R_drewN | apply Kd.R_drew)); exact HO_8.out) hb); have n2_ := Aside0.mk (blk_below (g := gb110) (o := .cells #[.int .i64 12, .string t103, .string a1, .bool true, .bool false] 26 (0, 0)) (by (with_reducible repeat (first | refine blk_drewN ?_ _ | refine blk_drew ?_ | refine blk_alloc ?_ _)); exact BK110.out) hb); have n3_ := Aside0.mk (below_step (by repeat (first | (with_reducible first | exact HB.out | apply below_alloc | apply pw_below_drewN | apply below_drew1 | refine below_set ?_ GE110.out) | exact HB.out)) hb); clear HO_7; clear HO_8; clear BK110; clear HB; have HO_7 := n0_; have HO_8 := n1_; have BK110 := n2_; have HB := n3_; clear n0_ n1_ n2_ n3_; (try clear hb); (try clear hb2); (try clear hk); (try clear hi); obtain ⟨Ao89, co89, eo89⟩ := Kd.R_slice HO_8.out; subst eo89; have p122 : 0 ≤ (0 : Int) := (by omega); have q122 : 0 < (t107.length : Int) := of_decide_eq_true (by first | (with_reducible assumption) | assumption); obtain ⟨ad122, e122, hx122_0, hx122_1, hx122_2, hx122_3, hx122_4⟩ := at_T26 (Kd.R_reads' HO_8.out).2.2 0 p122 q122; cases e122; have qi122 : (0 < t107.length) = True := eq_true (by omega); (try rw [show ((0 : Int)).toNat = 0 from rfl] at hx122_0); (try rw [show 0 * 5 = 0 from rfl] at hx122_0); (try rw [Addr.add_zero'] at hx122_0); (try rw [show ((0 : Int)).toNat = 0 from rfl] at hx122_1); (try rw [show 0 * 5 = 0 from rfl] at hx122_1); (try rw [Addr.add_zero'] at hx122_1); (try rw [show ((0 : Int)).toNat = 0 from rfl] at hx122_2); (try rw [show 0 * 5 = 0 from rfl] at hx122_2); (try rw [Addr.add_zero'] at hx122_2); (try rw [show ((0 : Int)).toNat = 0 from rfl] at hx122_3); (try rw [show 0 * 5 = 0 from rfl] at hx122_3); (try rw [Addr.add_zero'] at hx122_3); (try rw [show ((0 : Int)).toNat = 0 from rfl] at hx122_4); (try rw [show 0 * 5 = 0 from rfl] at hx122_4); (try rw [Addr.add_zero'] at hx122_4); replace p122 := eq_true p122; replace q122 := eq_true q122) | (go_at_call 17; (with_reducible refine (token_Int.calls ((rd_T26 t107 0).f0) ((rd_T26 t107 0).f1) ((rd_T26 t107 0).f2) ((rd_T26 t107 0).f3) ((rd_T26 t107 0).f4) t123 t124 _ A64.out).mono ?_); rintro e w90 ⟨rfl, hb⟩; have n0_ := Aside0.mk (Kd.R_below (by (with_reducible repeat (first | apply Kd.R_alloc | apply Kd.R_drewN | apply Kd.R_drew)); exact HO_7.out) hb); have n1_ := Aside0.mk (Kd.R_below (by (with_reducible repeat (first | apply Kd.R_alloc | apply Kd.R_drewN | apply Kd.R_drew)); exact HO_8.out) hb); have n2_ := Aside0.mk (blk_below (g := gb110) (o := .cells #[.int .i64 12, .string t103, .string a1, .bool true, .bool false] 26 (0, 0)) (by (with_reducible repeat (first | refine blk_drewN ?_ _ | refine blk_drew ?_ | refine blk_alloc ?_ _)); exact BK110.out) hb); have n3_ := Aside0.mk (below_step (by repeat (first | (with_reducible first | exact HB.out | apply below_alloc | apply pw_below_drewN | apply below_drew1 | refine below_set ?_ GE110.out) | exact HB.out)) hb); clear HO_7; clear HO_8; clear BK110; clear HB; have HO_7 := n0_; have HO_8 := n1_; have BK110 := n2_; have HB := n3_; clear n0_ n1_ n2_ n3_; (try clear hb); (try clear hb2); (try clear hk); (try clear hi))); try go_wp2_with (first | (go_at_call 17; (with_reducible refine (token_Int.calls ((rd_T26 t104 0).f0) ((rd_T26 t104 0).f1) ((rd_T26 t104 0).f2) ((rd_T26 t104 0).f3) ((rd_T26 t104 0).f4) t120 false _ A62.out).mono ?_); rintro e w88 ⟨rfl, hb⟩; have n0_ := Aside0.mk (Kd.R_below (by (with_reducible repeat (first | apply Kd.R_alloc | apply Kd.R_drewN | apply Kd.R_drew)); exact HO_7.out) hb); have n1_ := Aside0.mk (Kd.R_below (by (with_reducible repeat (first | apply Kd.R_alloc | apply Kd.R_drewN | apply Kd.R_drew)); exact HO_8.out) hb); have n2_ := Aside0.mk (blk_below (g := gb110) (o := .cells #[.int .i64 12, .string t103, .string a1, .bool true, .bool false] 26 (0, 0)) (by (with_reducible repeat (first | refine blk_drewN ?_ _ | refine blk_drew ?_ | refine blk_alloc ?_ _)); exact BK110.out) hb); have n3_ := Aside0.mk (below_step (by repeat (first | (with_reducible first | exact HB.out | apply below_alloc | apply pw_below_drewN | apply below_drew1 | refine below_set ?_ GE110.out) | exact HB.out)) hb); clear HO_7; clear HO_8; clear BK110; clear HB; have HO_7 := n0_; have HO_8 := n1_; have BK110 := n2_; have HB := n3_; clear n0_ n1_ n2_ n3_; (try clear hb); (try clear hb2); (try clear hk); (try clear hi); obtain ⟨Ao89, co89, eo89⟩ := Kd.R_slice HO_8.out; subst eo89; have p122 : 0 ≤ (0 : Int) := (by omega); have q122 : 0 < (t107.length : Int) := of_decide_eq_true (by first | (with_reducible assumption) | assumption); obtain ⟨ad122, e122, hx122_0, hx122_1, hx122_2, hx122_3, hx122_4⟩ := at_T26 (Kd.R_reads' HO_8.out).2.2 0 p122 q122; cases e122; have qi122 : (0 < t107.length) = True := eq_true (by omega); (try rw [show ((0 : Int)).toNat = 0 from rfl] at hx122_0); (try rw [show 0 * 5 = 0 from rfl] at hx122_0); (try rw [Addr.add_zero'] at hx122_0); (try rw [show ((0 : Int)).toNat = 0 from rfl] at hx122_1); (try rw [show 0 * 5 = 0 from rfl] at hx122_1); (try rw [Addr.add_zero'] at hx122_1); (try rw [show ((0 : Int)).toNat = 0 from rfl] at hx122_2); (try rw [show 0 * 5 = 0 from rfl] at hx122_2); (try rw [Addr.add_zero'] at hx122_2); (try rw [show ((0 : Int)).toNat = 0 from rfl] at hx122_3); (try rw [show 0 * 5 = 0 from rfl] at hx122_3); (try rw [Addr.add_zero'] at hx122_3); (try rw [show ((0 : Int)).toNat = 0 from rfl] at hx122_4); (try rw [show 0 * 5 = 0 from rfl] at hx122_4); (try rw [Addr.add_zero'] at hx122_4); replace p122 := eq_true p122; replace q122 := eq_true q122) | (go_at_call 17; (with_reducible refine (token_Int.calls ((rd_T26 t107 0).f0) ((rd_T26 t107 0).f1) ((rd_T26 t107 0).f2) ((rd_T26 t107 0).f3) ((rd_T26 t107 0).f4) t123 t124 _ A64.out).mono ?_); rintro e w90 ⟨rfl, hb⟩; have n0_ := Aside0.mk (Kd.R_below (by (with_reducible repeat (first | apply Kd.R_alloc | apply Kd.R_drewN | apply Kd.R_drew)); exact HO_7.out) hb); have n1_ := Aside0.mk (Kd.R_below (by (with_reducible repeat (first | apply Kd.R_alloc | apply Kd.R_drewN | apply Kd.R_drew)); exact HO_8.out) hb); have n2_ := Aside0.mk (blk_below (g := gb110) (o := .cells #[.int .i64 12, .string t103, .string a1, .bool true, .bool false] 26 (0, 0)) (by (with_reducible repeat (first | refine blk_drewN ?_ _ | refine blk_drew ?_ | refine blk_alloc ?_ _)); exact BK110.out) hb); have n3_ := Aside0.mk (below_step (by repeat (first | (with_reducible first | exact HB.out | apply below_alloc | apply pw_below_drewN | apply below_drew1 | refine below_set ?_ GE110.out) | exact HB.out)) hb); clear HO_7; clear HO_8; clear BK110; clear HB; have HO_7 := n0_; have HO_8 := n1_; have BK110 := n2_; have HB := n3_; clear n0_ n1_ n2_ n3_; (try clear hb); (try clear hb2); (try clear hk); (try clear hi))))
                              go_ret
                              exact ⟨by first | rfl | (simp [errW_none, errW_some] <;> rfl) | (simp [*, errW_none, errW_some] <;> rfl), by repeat (first | (with_reducible first | exact HB.out | apply below_alloc | apply pw_below_drewN | apply below_drew1 | refine below_set ?_ GE110.out) | exact HB.out)⟩
                          · rw [if_neg c63] at H
                            exact absurd H (by simp)
                        · rw [if_neg c61] at H
                          exact absurd H (by simp)
                · rw [if_neg c18] at H
                  exact absurd H (by simp)
end Go.Proofs.YtpnlbmeeihbjaabDoor.P
end
