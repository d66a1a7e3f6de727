-- Written by pr.py of this session over the kit's printer.
import Derived.Test.YthaaajpmiofodaaDoorK
import Derived.Test.YthaaajpmiofodaaDoorF12
import Derived.Test.YthaaajpmiofodaaDoorF7
import Derived.Test.YthaaajpmiofodaaDoorF9
namespace Go.Proofs.YthaaajpmiofodaaDoor.P
open Go.RowKit Go.Proofs.YthaaajpmiofodaaDoorW.PrintWords Go.Proofs.YthaaajpmiofodaaDoorW.PrintLast Go.Proofs.YthaaajpmiofodaaDoorW.PrintMore
attribute [local go_sem] max2_int min2_int max_two min_two max_three min_three max_four min_four   -- for this text's walks alone
set_option linter.unusedVariables false
set_option linter.unusedSimpArgs false

/-! ### gouachelaw04_lives: function 11 -/
def gouachelaw04_lives.f (k : Nat)  : Option (Bool) := (nth_Fits.f k (-1) 3 1).bind fun t101 => (if t101 = true then ((nth_Fits.f k (-1) 3 3).bind fun t102 => (if t102 = true then ((nth_Fits.f k (-1) 3 4).bind fun t103 => (if t103 = true then (some false) else ((nth_Print.f k 2 1).bind fun t104 => (if t104.toList = ([111, 100, 100] : List UInt8) then ((nth_Print.f k (-1) 3).bind fun t105 => (if t105.toList = ([45, 110, 43, 51] : List UInt8) then ((nth_First.f k 3 0).bind fun t106 => (some (t106 == 3))) else (some false))) else (some false))))) else (some false))) else (some false))
theorem gouachelaw04_lives.mono : ∀ k, LeO (gouachelaw04_lives.f k ) (gouachelaw04_lives.f (k + 1) ) := by
  intro  k
  unfold gouachelaw04_lives.f
  repeat' first
      | (with_reducible exact nth_First.mono _ _ _)
      | (with_reducible exact nth_Fits.mono _ _ _ _)
      | (with_reducible exact nth_Print.mono _ _ _)
      | (with_reducible exact LeO.refl _)
      | (with_reducible exact LeO.none _)
      | (with_reducible refine LeO.ite ?_ ?_)
      | (with_reducible refine LeO.bind ?_ (fun _ => ?_))
      | exact nth_First.mono _ _ _
      | exact nth_Fits.mono _ _ _ _
      | exact nth_Print.mono _ _ _
      | exact LeO.none _
      | refine LeO.ite ?_ ?_
      | refine LeO.bind ?_ (fun _ => ?_)
set_option maxHeartbeats 8000000 in
set_option maxRecDepth 100000 in
theorem gouachelaw04_lives.calls (k : Nat)  (r : Bool) (w : World) (hT : WT w) (h : gouachelaw04_lives.f k  = some r) :
    Calls Tryd.prog 11 #[] w fun e w' => e = .returned (.bool r) ∧ Below w.heap.size w w' := by
  have HT := Aside0.mk hT
  clear hT
  have HB := Aside0.mk (Below.refl w.heap.size w)
  have H : ((nth_Fits.f k (-1) 3 1).bind fun t101 => (if t101 = true then ((nth_Fits.f k (-1) 3 3).bind fun t102 => (if t102 = true then ((nth_Fits.f k (-1) 3 4).bind fun t103 => (if t103 = true then (some false) else ((nth_Print.f k 2 1).bind fun t104 => (if t104.toList = ([111, 100, 100] : List UInt8) then ((nth_Print.f k (-1) 3).bind fun t105 => (if t105.toList = ([45, 110, 43, 51] : List UInt8) then ((nth_First.f k 3 0).bind fun t106 => (some (t106 == 3))) else (some false))) else (some false))))) else (some false))) else (some false))) = some r := h
  clear h
  replace H := Option.bind_eq_some_iff.mp H
  obtain ⟨t101, A10, H⟩ := H
  replace H : (if t101 = true then ((nth_Fits.f k (-1) 3 3).bind fun t102 => (if t102 = true then ((nth_Fits.f k (-1) 3 4).bind fun t103 => (if t103 = true then (some false) else ((nth_Print.f k 2 1).bind fun t104 => (if t104.toList = ([111, 100, 100] : List UInt8) then ((nth_Print.f k (-1) 3).bind fun t105 => (if t105.toList = ([45, 110, 43, 51] : List UInt8) then ((nth_First.f k 3 0).bind fun t106 => (some (t106 == 3))) else (some false))) else (some false))))) else (some false))) else (some false)) = some r := H
  have A1 := Aside0.mk A10
  clear A10
  by_cases c2 : t101 = true
  · subst c2
    have H1 : ((nth_Fits.f k (-1) 3 3).bind fun t102 => (if t102 = true then ((nth_Fits.f k (-1) 3 4).bind fun t103 => (if t103 = true then (some false) else ((nth_Print.f k 2 1).bind fun t104 => (if t104.toList = ([111, 100, 100] : List UInt8) then ((nth_Print.f k (-1) 3).bind fun t105 => (if t105.toList = ([45, 110, 43, 51] : List UInt8) then ((nth_First.f k 3 0).bind fun t106 => (some (t106 == 3))) else (some false))) else (some false))))) else (some false))) = some r := by rw [if_pos rfl] at H; exact H
    clear H
    have H := H1
    clear H1
    replace H := Option.bind_eq_some_iff.mp H
    obtain ⟨t102, A30, H⟩ := H
    replace H : (if t102 = true then ((nth_Fits.f k (-1) 3 4).bind fun t103 => (if t103 = true then (some false) else ((nth_Print.f k 2 1).bind fun t104 => (if t104.toList = ([111, 100, 100] : List UInt8) then ((nth_Print.f k (-1) 3).bind fun t105 => (if t105.toList = ([45, 110, 43, 51] : List UInt8) then ((nth_First.f k 3 0).bind fun t106 => (some (t106 == 3))) else (some false))) else (some false))))) else (some false)) = some r := H
    have A3 := Aside0.mk A30
    clear A30
    by_cases c4 : t102 = true
    · subst c4
      have H1 : ((nth_Fits.f k (-1) 3 4).bind fun t103 => (if t103 = true then (some false) else ((nth_Print.f k 2 1).bind fun t104 => (if t104.toList = ([111, 100, 100] : List UInt8) then ((nth_Print.f k (-1) 3).bind fun t105 => (if t105.toList = ([45, 110, 43, 51] : List UInt8) then ((nth_First.f k 3 0).bind fun t106 => (some (t106 == 3))) else (some false))) else (some false))))) = some r := by rw [if_pos rfl] at H; exact H
      clear H
      have H := H1
      clear H1
      replace H := Option.bind_eq_some_iff.mp H
      obtain ⟨t103, A50, H⟩ := H
      replace H : (if t103 = true then (some false) else ((nth_Print.f k 2 1).bind fun t104 => (if t104.toList = ([111, 100, 100] : List UInt8) then ((nth_Print.f k (-1) 3).bind fun t105 => (if t105.toList = ([45, 110, 43, 51] : List UInt8) then ((nth_First.f k 3 0).bind fun t106 => (some (t106 == 3))) else (some false))) else (some false)))) = some r := H
      have A5 := Aside0.mk A50
      clear A50
      by_cases c6 : t103 = true
      · subst c6
        have H1 : (some false) = some r := by rw [if_pos rfl] at H; exact H
        clear H
        have H := H1
        clear H1
        obtain rfl := Option.some.inj H
        go_enter Tryd.func11, Tryd.ntmps11
        go_wp2_with (first | ((with_reducible refine gate_callee (f := 7) rfl ?_); refine goesL_ (some 1) rfl rfl Tryd.func7 (by kernel_rfl) rfl #[.int .i64 (-1), .int .i64 3, .int .i64 1] rfl (by (try simp only [List.map_toArray, List.map_cons, List.map_nil]); first | done | rfl | (simp only [List.length_drop, List.length_take]; rfl)) ?_; (with_reducible refine (nth_Fits.calls k (-1) 3 1 true _ A1.out).mono ?_); rintro e w' ⟨rfl, ⟨nd, rfl⟩⟩; refine ⟨_, rfl, ?_⟩) | (go_at_call 7; (with_reducible refine (nth_Fits.calls k (-1) 3 3 true _ A3.out).mono ?_); rintro e w' ⟨rfl, ⟨nd, rfl⟩⟩) | (go_at_call 7; (with_reducible refine (nth_Fits.calls k (-1) 3 4 true _ A5.out).mono ?_); rintro e w' ⟨rfl, ⟨nd, rfl⟩⟩))
        go_ret
        exact ⟨by first | rfl | (simp [errW_none, errW_some] <;> rfl) | (simp [*, errW_none, errW_some] <;> rfl), by repeat (first | (with_reducible first | exact HB.out | apply below_alloc | apply pw_below_drewN | apply below_drew1) | exact HB.out)⟩
      · replace c6 := Bool.eq_false_iff.mpr c6
        subst c6
        have H1 : ((nth_Print.f k 2 1).bind fun t104 => (if t104.toList = ([111, 100, 100] : List UInt8) then ((nth_Print.f k (-1) 3).bind fun t105 => (if t105.toList = ([45, 110, 43, 51] : List UInt8) then ((nth_First.f k 3 0).bind fun t106 => (some (t106 == 3))) else (some false))) else (some false))) = some r := by rw [if_neg (show ¬ (false = true) by decide)] at H; exact H
        clear H
        have H := H1
        clear H1
        replace H := Option.bind_eq_some_iff.mp H
        obtain ⟨t104, A70, H⟩ := H
        replace H : (if t104.toList = ([111, 100, 100] : List UInt8) then ((nth_Print.f k (-1) 3).bind fun t105 => (if t105.toList = ([45, 110, 43, 51] : List UInt8) then ((nth_First.f k 3 0).bind fun t106 => (some (t106 == 3))) else (some false))) else (some false)) = some r := H
        have A7 := Aside0.mk A70
        clear A70
        by_cases c8 : t104.toList = ([111, 100, 100] : List UInt8)
        · rw [if_pos c8] at H
          have c8b0 : (t104.toList == ([111, 100, 100] : List UInt8)) = true := beq_iff_eq.mpr c8
          have c8b1 : (t104.toList != ([111, 100, 100] : List UInt8)) = false := bne_eq_false_iff_eq.mpr c8
          clear c8
          replace H := Option.bind_eq_some_iff.mp H
          obtain ⟨t105, A90, H⟩ := H
          replace H : (if t105.toList = ([45, 110, 43, 51] : List UInt8) then ((nth_First.f k 3 0).bind fun t106 => (some (t106 == 3))) else (some false)) = some r := H
          have A9 := Aside0.mk A90
          clear A90
          by_cases c10 : t105.toList = ([45, 110, 43, 51] : List UInt8)
          · rw [if_pos c10] at H
            have c10b0 : (t105.toList == ([45, 110, 43, 51] : List UInt8)) = true := beq_iff_eq.mpr c10
            have c10b1 : (t105.toList != ([45, 110, 43, 51] : List UInt8)) = false := bne_eq_false_iff_eq.mpr c10
            clear c10
            replace H := Option.bind_eq_some_iff.mp H
            obtain ⟨t106, A110, H⟩ := H
            replace H : (some (t106 == 3)) = some r := H
            have A11 := Aside0.mk A110
            clear A110
            obtain rfl := Option.some.inj H
            go_enter Tryd.func11, Tryd.ntmps11
            go_wp2_with (first | ((with_reducible refine gate_callee (f := 7) rfl ?_); refine goesL_ (some 1) rfl rfl Tryd.func7 (by kernel_rfl) rfl #[.int .i64 (-1), .int .i64 3, .int .i64 1] rfl (by (try simp only [List.map_toArray, List.map_cons, List.map_nil]); first | done | rfl | (simp only [List.length_drop, List.length_take]; rfl)) ?_; (with_reducible refine (nth_Fits.calls k (-1) 3 1 true _ A1.out).mono ?_); rintro e w' ⟨rfl, ⟨nd, rfl⟩⟩; refine ⟨_, rfl, ?_⟩) | (go_at_call 7; (with_reducible refine (nth_Fits.calls k (-1) 3 3 true _ A3.out).mono ?_); rintro e w' ⟨rfl, ⟨nd, rfl⟩⟩) | (go_at_call 7; (with_reducible refine (nth_Fits.calls k (-1) 3 4 false _ A5.out).mono ?_); rintro e w' ⟨rfl, ⟨nd, rfl⟩⟩) | (go_at_call 9; (with_reducible refine (nth_Print.calls k 2 1 t104 _ ?side1 A7.out).mono ?_); (case side1 => exact WT.below HT.out (by repeat (first | (with_reducible first | exact HB.out | apply below_alloc | apply pw_below_drewN | apply below_drew1) | exact HB.out))); rintro e w12 ⟨rfl, hb⟩; have n0_ := Aside0.mk (below_step (by repeat (first | (with_reducible first | exact HB.out | apply below_alloc | apply pw_below_drewN | apply below_drew1) | exact HB.out)) hb); clear HB; have HB := n0_; clear n0_; (try clear hb); (try clear hb2); (try clear hk); (try clear hi)) | (go_at_call 9; (with_reducible refine (nth_Print.calls k (-1) 3 t105 _ ?side1 A9.out).mono ?_); (case side1 => exact WT.below HT.out (by repeat (first | (with_reducible first | exact HB.out | apply below_alloc | apply pw_below_drewN | apply below_drew1) | exact HB.out))); rintro e w13 ⟨rfl, hb⟩; have n0_ := Aside0.mk (below_step (by repeat (first | (with_reducible first | exact HB.out | apply below_alloc | apply pw_below_drewN | apply below_drew1) | exact HB.out)) hb); clear HB; have HB := n0_; clear n0_; (try clear hb); (try clear hb2); (try clear hk); (try clear hi)) | (go_at_call 12; (with_reducible refine (nth_First.calls k 3 0 t106 _ A11.out).mono ?_); rintro e w' ⟨rfl, ⟨nd, rfl⟩⟩))
            go_ret
            exact ⟨by first | rfl | (simp [errW_none, errW_some] <;> rfl) | (simp [*, errW_none, errW_some] <;> rfl), by repeat (first | (with_reducible first | exact HB.out | apply below_alloc | apply pw_below_drewN | apply below_drew1) | exact HB.out)⟩
          · rw [if_neg c10] at H
            have c10b0 : (t105.toList == ([45, 110, 43, 51] : List UInt8)) = false := beq_eq_false_iff_ne.mpr c10
            have c10b1 : (t105.toList != ([45, 110, 43, 51] : List UInt8)) = true := bne_iff_ne.mpr c10
            obtain rfl := Option.some.inj H
            go_enter Tryd.func11, Tryd.ntmps11
            go_wp2_with (first | ((with_reducible refine gate_callee (f := 7) rfl ?_); refine goesL_ (some 1) rfl rfl Tryd.func7 (by kernel_rfl) rfl #[.int .i64 (-1), .int .i64 3, .int .i64 1] rfl (by (try simp only [List.map_toArray, List.map_cons, List.map_nil]); first | done | rfl | (simp only [List.length_drop, List.length_take]; rfl)) ?_; (with_reducible refine (nth_Fits.calls k (-1) 3 1 true _ A1.out).mono ?_); rintro e w' ⟨rfl, ⟨nd, rfl⟩⟩; refine ⟨_, rfl, ?_⟩) | (go_at_call 7; (with_reducible refine (nth_Fits.calls k (-1) 3 3 true _ A3.out).mono ?_); rintro e w' ⟨rfl, ⟨nd, rfl⟩⟩) | (go_at_call 7; (with_reducible refine (nth_Fits.calls k (-1) 3 4 false _ A5.out).mono ?_); rintro e w' ⟨rfl, ⟨nd, rfl⟩⟩) | (go_at_call 9; (with_reducible refine (nth_Print.calls k 2 1 t104 _ ?side1 A7.out).mono ?_); (case side1 => exact WT.below HT.out (by repeat (first | (with_reducible first | exact HB.out | apply below_alloc | apply pw_below_drewN | apply below_drew1) | exact HB.out))); rintro e w14 ⟨rfl, hb⟩; have n0_ := Aside0.mk (below_step (by repeat (first | (with_reducible first | exact HB.out | apply below_alloc | apply pw_below_drewN | apply below_drew1) | exact HB.out)) hb); clear HB; have HB := n0_; clear n0_; (try clear hb); (try clear hb2); (try clear hk); (try clear hi)) | (go_at_call 9; (with_reducible refine (nth_Print.calls k (-1) 3 t105 _ ?side1 A9.out).mono ?_); (case side1 => exact WT.below HT.out (by repeat (first | (with_reducible first | exact HB.out | apply below_alloc | apply pw_below_drewN | apply below_drew1) | exact HB.out))); rintro e w15 ⟨rfl, hb⟩; have n0_ := Aside0.mk (below_step (by repeat (first | (with_reducible first | exact HB.out | apply below_alloc | apply pw_below_drewN | apply below_drew1) | exact HB.out)) hb); clear HB; have HB := n0_; clear n0_; (try clear hb); (try clear hb2); (try clear hk); (try clear hi)))
            go_ret
            exact ⟨by first | rfl | (simp [errW_none, errW_some] <;> rfl) | (simp [*, errW_none, errW_some] <;> rfl), by repeat (first | (with_reducible first | exact HB.out | apply below_alloc | apply pw_below_drewN | apply below_drew1) | exact HB.out)⟩
        · rw [if_neg c8] at H
          have c8b0 : (t104.toList == ([111, 100, 100] : List UInt8)) = false := beq_eq_false_iff_ne.mpr c8
          have c8b1 : (t104.toList != ([111, 100, 100] : List UInt8)) = true := bne_iff_ne.mpr c8
          obtain rfl := Option.some.inj H
          go_enter Tryd.func11, Tryd.ntmps11
          go_wp2_with (first | ((with_reducible refine gate_callee (f := 7) rfl ?_); refine goesL_ (some 1) rfl rfl Tryd.func7 (by kernel_rfl) rfl #[.int .i64 (-1), .int .i64 3, .int .i64 1] rfl (by (try simp only [List.map_toArray, List.map_cons, List.map_nil]); first | done | rfl | (simp only [List.length_drop, List.length_take]; rfl)) ?_; (with_reducible refine (nth_Fits.calls k (-1) 3 1 true _ A1.out).mono ?_); rintro e w' ⟨rfl, ⟨nd, rfl⟩⟩; refine ⟨_, rfl, ?_⟩) | (go_at_call 7; (with_reducible refine (nth_Fits.calls k (-1) 3 3 true _ A3.out).mono ?_); rintro e w' ⟨rfl, ⟨nd, rfl⟩⟩) | (go_at_call 7; (with_reducible refine (nth_Fits.calls k (-1) 3 4 false _ A5.out).mono ?_); rintro e w' ⟨rfl, ⟨nd, rfl⟩⟩) | (go_at_call 9; (with_reducible refine (nth_Print.calls k 2 1 t104 _ ?side1 A7.out).mono ?_); (case side1 => exact WT.below HT.out (by repeat (first | (with_reducible first | exact HB.out | apply below_alloc | apply pw_below_drewN | apply below_drew1) | exact HB.out))); rintro e w16 ⟨rfl, hb⟩; have n0_ := Aside0.mk (below_step (by repeat (first | (with_reducible first | exact HB.out | apply below_alloc | apply pw_below_drewN | apply below_drew1) | exact HB.out)) hb); clear HB; have HB := n0_; clear n0_; (try clear hb); (try clear hb2); (try clear hk); (try clear hi)))
          go_ret
          exact ⟨by first | rfl | (simp [errW_none, errW_some] <;> rfl) | (simp [*, errW_none, errW_some] <;> rfl), by repeat (first | (with_reducible first | exact HB.out | apply below_alloc | apply pw_below_drewN | apply below_drew1) | exact HB.out)⟩
    · replace c4 := Bool.eq_false_iff.mpr c4
      subst c4
      have H1 : (some false) = some r := by rw [if_neg (show ¬ (false = true) by decide)] at H; exact H
      clear H
      have H := H1
      clear H1
      obtain rfl := Option.some.inj H
      go_enter Tryd.func11, Tryd.ntmps11
      go_wp2_with (first | ((with_reducible refine gate_callee (f := 7) rfl ?_); refine goesL_ (some 1) rfl rfl Tryd.func7 (by kernel_rfl) rfl #[.int .i64 (-1), .int .i64 3, .int .i64 1] rfl (by (try simp only [List.map_toArray, List.map_cons, List.map_nil]); first | done | rfl | (simp only [List.length_drop, List.length_take]; rfl)) ?_; (with_reducible refine (nth_Fits.calls k (-1) 3 1 true _ A1.out).mono ?_); rintro e w' ⟨rfl, ⟨nd, rfl⟩⟩; refine ⟨_, rfl, ?_⟩) | (go_at_call 7; (with_reducible refine (nth_Fits.calls k (-1) 3 3 false _ A3.out).mono ?_); rintro e w' ⟨rfl, ⟨nd, rfl⟩⟩))
      go_ret
      exact ⟨by first | rfl | (simp [errW_none, errW_some] <;> rfl) | (simp [*, errW_none, errW_some] <;> rfl), by repeat (first | (with_reducible first | exact HB.out | apply below_alloc | apply pw_below_drewN | apply below_drew1) | exact HB.out)⟩
  · replace c2 := Bool.eq_false_iff.mpr c2
    subst c2
    have H1 : (some false) = some r := by rw [if_neg (show ¬ (false = true) by decide)] at H; exact H
    clear H
    have H := H1
    clear H1
    obtain rfl := Option.some.inj H
    go_enter Tryd.func11, Tryd.ntmps11
    go_wp2_with (first | ((with_reducible refine gate_callee (f := 7) rfl ?_); refine goesL_ (some 1) rfl rfl Tryd.func7 (by kernel_rfl) rfl #[.int .i64 (-1), .int .i64 3, .int .i64 1] rfl (by (try simp only [List.map_toArray, List.map_cons, List.map_nil]); first | done | rfl | (simp only [List.length_drop, List.length_take]; rfl)) ?_; (with_reducible refine (nth_Fits.calls k (-1) 3 1 false _ A1.out).mono ?_); rintro e w' ⟨rfl, ⟨nd, rfl⟩⟩; refine ⟨_, rfl, ?_⟩))
    go_ret
    exact ⟨by first | rfl | (simp [errW_none, errW_some] <;> rfl) | (simp [*, errW_none, errW_some] <;> rfl), by repeat (first | (with_reducible first | exact HB.out | apply below_alloc | apply pw_below_drewN | apply below_drew1) | exact HB.out)⟩

end Go.Proofs.YthaaajpmiofodaaDoor.P
