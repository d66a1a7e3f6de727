/- ParseParts: for every input the law returns true, and each argument reads behind the call as it read before. -/
import Derived.Test.YthaaajpmiofodaaZPP66
section
set_option linter.unusedVariables false
set_option linter.unusedSimpArgs false
namespace Go.Proofs.Ythaaajpmiofodaa.P
open Go.RowKit Go.Proofs.YthaaajpmiofodaaW.PrintWords Go.Proofs.YthaaajpmiofodaaW.PrintLast Go.Proofs.YthaaajpmiofodaaW.PrintMore
attribute [local go_sem] max2_int min2_int max_two min_two max_three min_three max_four min_four
set_option linter.unusedVariables false
set_option linter.unusedSimpArgs false
mutual
def gouacheref02_one.j0 : Nat → List Int → Int → Int → Bool → Option (Int × ByteArray × ByteArray × Bool × Bool × Int)
  | 0, _, _, _, _ => none
  | k + 1, x0, x1, x6, x20 => if x20 = true then (none) else (if x6 = 35 then ((gouacheref02_at.f x0 (wrap64 (x1 + 1))).bind fun t105 => ((gouacheref02_part.f t105).bind fun t106 => (if t106 = true then (gouacheref02_one.j1 k x0 x1 x6 true) else ((gouacheref02_escape.f x0 (wrap64 (x1 + 1))).bind fun t107 => (gouacheref02_one.j1 k x0 x1 x6 t107))))) else (gouacheref02_one.j1 k x0 x1 x6 false))
def gouacheref02_one.j1 : Nat → List Int → Int → Int → Bool → Option (Int × ByteArray × ByteArray × Bool × Bool × Int)
  | 0, _, _, _, _ => none
  | k + 1, x0, x1, x6, x32 => if x32 = true then (none) else ((gouacheref02_numbers.f k x0 x1).bind fun t108 => (if t108 = true then (none) else ((gouacheref02_starts.f x0 x1 (⟨#[45, 45, 62]⟩ : ByteArray)).bind fun t109 => (if t109 = true then (some (15, (⟨#[]⟩ : ByteArray), (⟨#[]⟩ : ByteArray), false, false, wrap64 (x1 + 3))) else ((gouacheref02_starts.f x0 x1 (⟨#[60, 33, 45, 45]⟩ : ByteArray)).bind fun t110 => (if t110 = true then (some (14, (⟨#[]⟩ : ByteArray), (⟨#[]⟩ : ByteArray), false, false, wrap64 (x1 + 4))) else ((gouacheref02_names.f x0 x1).bind fun t111 => (if t111 = true then ((gouacheref02_word.f k x0 x1).bind fun bt112 => (some (bt112.1, bt112.2.1, bt112.2.2.1, bt112.2.2.2.1, bt112.2.2.2.2.1, bt112.2.2.2.2.2))) else (if x6 = 64 then ((gouacheref02_names.f x0 (wrap64 (x1 + 1))).bind fun t118 => (gouacheref02_one.j2 k x0 x1 x6 t118)) else (gouacheref02_one.j2 k x0 x1 x6 false))))))))))
def gouacheref02_one.j2 : Nat → List Int → Int → Int → Bool → Option (Int × ByteArray × ByteArray × Bool × Bool × Int)
  | 0, _, _, _, _ => none
  | k + 1, x0, x1, x6, x95 => if x95 = true then ((gouacheref02_name.f k x0 (wrap64 (x1 + 1))).bind fun bt120 => (some (3, bt120.1, (⟨#[]⟩ : ByteArray), false, false, bt120.2))) else ((gouacheref02_sign.f x6).bind fun t122 => (if t122 > 0 then ((gouacheref02_sign.f x6).bind fun t123 => (some (t123, (⟨#[]⟩ : ByteArray), (⟨#[]⟩ : ByteArray), false, false, wrap64 (x1 + 1)))) else (some (9, runesBytes (([x6] : List Int)), (⟨#[]⟩ : ByteArray), false, false, wrap64 (x1 + 1)))))
end
def gouacheref02_one.f (k : Nat) (l0 : List Int) (a1 : Int) : Option (Int × ByteArray × ByteArray × Bool × Bool × Int) := if 0 ≤ a1 then (if a1 < (l0.length : Int) then ((gouacheref01_Blank.f (rd l0 a1)).bind fun t103 => (if t103 = true then ((gouacheref02_blanks.f k l0 a1).bind fun t104 => (some (13, (⟨#[]⟩ : ByteArray), (⟨#[]⟩ : ByteArray), false, false, t104))) else (if (rd l0 a1) = 34 then (gouacheref02_one.j0 k l0 a1 (rd l0 a1) true) else (gouacheref02_one.j0 k l0 a1 (rd l0 a1) ((rd l0 a1) == 39))))) else (none)) else (none)
set_option maxHeartbeats 8000000 in
set_option maxRecDepth 100000 in
theorem gouacheref02_one.calls (k : Nat) (A0 : Option Addr) (c0 : Nat) (l0 : List Int) (a1 : Int) (r1 : Int) (r2 : ByteArray) (r3 : ByteArray) (r4 : Bool) (r5 : Bool) (r6 : Int) (w : World) (hr0 : Kd.C (Kd.int .i32) w A0 l0.length l0) (hc0 : l0.length ≤ c0) (h : gouacheref02_one.f k l0 a1 = some (r1, r2, r3, r4, r5, r6)) :
    Calls Try.prog 55 #[.slice A0 l0.length c0, .int .i64 a1] w fun e w' => e = .returned (.tuple #[.agg #[.int .i64 r1, .string r2, .string r3, .bool r4, .bool r5], .int .i64 r6]) ∧ Below w.heap.size w w' := by
  have hu43 := Try.underlying43
  have HR0 := Aside0.mk hr0
  have HC0 := Aside0.mk hc0
  clear hr0 hc0
  have HB := Aside0.mk (Below.refl w.heap.size w)
  have H : (if 0 ≤ a1 then (if a1 < (l0.length : Int) then ((gouacheref01_Blank.f (rd l0 a1)).bind fun t103 => (if t103 = true then ((gouacheref02_blanks.f k l0 a1).bind fun t104 => (some (13, (⟨#[]⟩ : ByteArray), (⟨#[]⟩ : ByteArray), false, false, t104))) else (if (rd l0 a1) = 34 then (gouacheref02_one.j0 k l0 a1 (rd l0 a1) true) else (gouacheref02_one.j0 k l0 a1 (rd l0 a1) ((rd l0 a1) == 39))))) else (none)) else (none)) = some (r1, r2, r3, r4, r5, r6) := h
  clear h
  by_cases c3 : 0 ≤ a1
  · rw [if_pos c3] at H
    have c3b0 : decide (0 ≤ a1) = true := decide_eq_true c3
    clear c3
    by_cases c4 : a1 < (l0.length : Int)
    · rw [if_pos c4] at H
      have c4b0 : decide (a1 < (l0.length : Int)) = true := decide_eq_true c4
      clear c4
      replace H := Option.bind_eq_some_iff.mp H
      obtain ⟨t103, A50, H⟩ := H
      replace H : (if t103 = true then ((gouacheref02_blanks.f k l0 a1).bind fun t104 => (some (13, (⟨#[]⟩ : ByteArray), (⟨#[]⟩ : ByteArray), false, false, t104))) else (if (rd l0 a1) = 34 then (gouacheref02_one.j0 k l0 a1 (rd l0 a1) true) else (gouacheref02_one.j0 k l0 a1 (rd l0 a1) ((rd l0 a1) == 39)))) = some (r1, r2, r3, r4, r5, r6) := H
      have A5 := Aside0.mk A50
      clear A50
      by_cases c6 : t103 = true
      · subst c6
        have H1 : ((gouacheref02_blanks.f k l0 a1).bind fun t104 => (some (13, (⟨#[]⟩ : ByteArray), (⟨#[]⟩ : ByteArray), false, false, t104))) = some (r1, r2, r3, r4, r5, r6) := by rw [if_pos rfl] at H; exact H
        clear H
        have H := H1
        clear H1
        replace H := Option.bind_eq_some_iff.mp H
        obtain ⟨t104, A70, H⟩ := H
        replace H : (some (13, (⟨#[]⟩ : ByteArray), (⟨#[]⟩ : ByteArray), false, false, t104)) = some (r1, r2, r3, r4, r5, r6) := H
        have A7 := Aside0.mk A70
        clear A70
        simp only [Option.some.injEq, Prod.mk.injEq] at H
        obtain ⟨rfl, rfl, rfl, rfl, rfl, rfl⟩ := H
        go_enter Try.func55, Try.ntmps55
        go_wp2_with (first | ((with_reducible refine gate_dst (N := 4) rfl ?_); refine box_event ?hg (N := 4) ?hd (cs := #[.int .i64 0, .string (⟨#[]⟩ : ByteArray), .string (⟨#[]⟩ : ByteArray), .bool false, .bool false]) (t := 43) ?hr ?_; (case hd => rfl); (case hg => rfl); (case hr => first | (go_simp; done) | (go_simp; rfl)); intro gb101 hg w8 hbox hb; have n0_ := Aside0.mk (below_step (by repeat (first | (with_reducible first | exact HB.out | apply below_alloc | apply pw_below_drewN | apply below_drew1) | exact HB.out)) hb); have n1_ := Aside0.mk (hbox); have n2_ := Aside0.mk ((by rw [hg]; exact (below_size (by repeat (first | (with_reducible first | exact HB.out | apply below_alloc | apply pw_below_drewN | apply below_drew1) | exact HB.out))) : w.heap.size ≤ gb101)); have n3_ := Aside0.mk ((by rw [hg]; exact (below_size (by repeat (first | (with_reducible first | exact HB.out | apply below_alloc | apply pw_below_drewN | apply below_drew1) | exact HB.out))) : w.heap.size ≤ gb101)); clear HB; have HB := n0_; have BK101 := n1_; have GW101 := n2_; have GE101 := n3_; clear n0_ n1_ n2_ n3_; clear hb hbox hg; have p102 : 0 ≤ (a1 : Int) := of_decide_eq_true (by first | (with_reducible assumption) | assumption); have q102 : a1 < (l0.length : Int) := of_decide_eq_true (by first | (with_reducible assumption) | assumption); obtain ⟨ad102, e102, hx102_0⟩ := Kd.at_int HR0.out a1 p102 q102; cases e102; replace hx102_0 := (HB.out.cell (World.block_lt_of_cell? w _ hx102_0)).trans hx102_0; replace p102 := eq_true p102; replace q102 := eq_true q102) | ((with_reducible refine gate_callee (f := 59) rfl ?_); refine goesL_ (some 15) rfl rfl Try.func59 (by kernel_rfl) rfl #[.int .i32 (rd l0 a1)] rfl (by (try simp only [List.map_toArray, List.map_cons, List.map_nil]); first | done | rfl | (simp only [List.length_drop, List.length_take]; rfl)) ?_; (with_reducible refine (gouacheref01_Blank.calls (rd l0 a1) true _ A5.out).mono ?_); rintro e w' ⟨rfl, ⟨nd, rfl⟩⟩; refine ⟨_, rfl, ?_⟩; (try (rw [drewN_self w8]; generalize hq_ : World.drewN w8 _ = w8; have n0_ : Aside0 (w8.heap[gb101]? = some (.cells #[.int .i64 0, .string (⟨#[]⟩ : ByteArray), .string (⟨#[]⟩ : ByteArray), .bool false, .bool false] 43 (0, 0))) := ⟨by rw [← hq_]; exact (by (with_reducible repeat (first | refine blk_drewN ?_ _ | refine blk_drew ?_ | refine blk_alloc ?_ _)); exact BK101.out)⟩; have n1_ : Aside0 (Below w.heap.size w w8) := ⟨by rw [← hq_]; exact (by repeat (first | (with_reducible first | exact HB.out | apply below_alloc | apply pw_below_drewN | apply below_drew1 | refine below_set ?_ GE101.out) | exact HB.out))⟩; clear BK101 HB hq_; have BK101 := n0_; have HB := n1_; clear n0_ n1_))) | ((with_reducible refine gate_callee (f := 60) rfl ?_); refine goesL_ (some 19) rfl rfl Try.func60 (by kernel_rfl) rfl #[.slice (some ad102) l0.length c0, .int .i64 a1] rfl (by (try simp only [List.map_toArray, List.map_cons, List.map_nil]); first | done | rfl | (simp only [List.length_drop, List.length_take]; rfl)) ?_; (with_reducible refine (gouacheref02_blanks.calls k _ _ l0 a1 t104 _ ?side1 ?side2 A7.out).mono ?_); (case side1 => repeat (first | exact (Kd.C_below HR0.out HB.out) | (with_reducible refine Kd.C_alloc ?_ _) | (with_reducible refine Kd.C_drewN ?_ _) | (with_reducible refine Kd.C_drew ?_))); (case side2 => exact HC0.out); rintro e w' ⟨rfl, ⟨nd, rfl⟩⟩; refine ⟨_, rfl, ?_⟩; (try (rw [drewN_self w8]; generalize hq_ : World.drewN w8 _ = w8; have n0_ : Aside0 (w8.heap[gb101]? = some (.cells #[.int .i64 0, .string (⟨#[]⟩ : ByteArray), .string (⟨#[]⟩ : ByteArray), .bool false, .bool false] 43 (0, 0))) := ⟨by rw [← hq_]; exact (by (with_reducible repeat (first | refine blk_drewN ?_ _ | refine blk_drew ?_ | refine blk_alloc ?_ _)); exact BK101.out)⟩; have n1_ : Aside0 (Below w.heap.size w w8) := ⟨by rw [← hq_]; exact (by repeat (first | (with_reducible first | exact HB.out | apply below_alloc | apply pw_below_drewN | apply below_drew1 | refine below_set ?_ GE101.out) | exact HB.out))⟩; clear BK101 HB hq_; have BK101 := n0_; have HB := n1_; clear n0_ n1_)); have hcz9_0 : w8.cell? ⟨gb101, 0, none⟩ = some (.int .i64 0) := (blk_cell BK101.out 0).trans rfl; have hcz9_1 : w8.cell? ⟨gb101, 1, none⟩ = some (.string (⟨#[]⟩ : ByteArray)) := (blk_cell BK101.out 1).trans rfl; have hcz9_2 : w8.cell? ⟨gb101, 2, none⟩ = some (.string (⟨#[]⟩ : ByteArray)) := (blk_cell BK101.out 2).trans rfl; have hcz9_3 : w8.cell? ⟨gb101, 3, none⟩ = some (.bool false) := (blk_cell BK101.out 3).trans rfl; have hcz9_4 : w8.cell? ⟨gb101, 4, none⟩ = some (.bool false) := (blk_cell BK101.out 4).trans rfl; have hfz9_0 := blk_frozen BK101.out 0; have hfz9_1 := blk_frozen BK101.out 1; have hfz9_2 := blk_frozen BK101.out 2; have hfz9_3 := blk_frozen BK101.out 3; have hfz9_4 := blk_frozen BK101.out 4))
        refine bodyPost_ret (results_ct rfl _ _ gb101 43 #[.int .i64 13, .string (⟨#[]⟩ : ByteArray), .string (⟨#[]⟩ : ByteArray), .bool false, .bool false] (0, 0) _ rfl (by (with_reducible repeat (first | refine blk_drewN ?_ _ | refine blk_drew ?_ | refine blk_alloc ?_ _)); refine blk_put (cs := #[.int .i64 13, .string (⟨#[]⟩ : ByteArray), .string (⟨#[]⟩ : ByteArray), .bool false, .bool false]) ?_ 4 _ rfl; (with_reducible repeat (first | refine blk_drewN ?_ _ | refine blk_drew ?_ | refine blk_alloc ?_ _)); refine blk_put (cs := #[.int .i64 13, .string (⟨#[]⟩ : ByteArray), .string (⟨#[]⟩ : ByteArray), .bool false, .bool false]) ?_ 3 _ rfl; (with_reducible repeat (first | refine blk_drewN ?_ _ | refine blk_drew ?_ | refine blk_alloc ?_ _)); refine blk_put (cs := #[.int .i64 13, .string (⟨#[]⟩ : ByteArray), .string (⟨#[]⟩ : ByteArray), .bool false, .bool false]) ?_ 2 _ rfl; (with_reducible repeat (first | refine blk_drewN ?_ _ | refine blk_drew ?_ | refine blk_alloc ?_ _)); refine blk_put (cs := #[.int .i64 13, .string (⟨#[]⟩ : ByteArray), .string (⟨#[]⟩ : ByteArray), .bool false, .bool false]) ?_ 1 _ rfl; (with_reducible repeat (first | refine blk_drewN ?_ _ | refine blk_drew ?_ | refine blk_alloc ?_ _)); refine blk_put (cs := #[.int .i64 0, .string (⟨#[]⟩ : ByteArray), .string (⟨#[]⟩ : ByteArray), .bool false, .bool false]) ?_ 0 _ rfl; (with_reducible repeat (first | refine blk_drewN ?_ _ | refine blk_drew ?_ | refine blk_alloc ?_ _)); exact BK101.out) Try.underlying43 rfl (by kernel_rfl)) rfl ?_
        exact ⟨by first | rfl | (simp [errW_none, errW_some] <;> rfl) | (simp [*, errW_none, errW_some] <;> rfl), by repeat (first | (with_reducible first | exact HB.out | apply below_alloc | apply pw_below_drewN | apply below_drew1 | refine below_set ?_ GE101.out) | exact HB.out)⟩
      · replace c6 := Bool.eq_false_iff.mpr c6
        subst c6
        have H1 : (if (rd l0 a1) = 34 then (gouacheref02_one.j0 k l0 a1 (rd l0 a1) true) else (gouacheref02_one.j0 k l0 a1 (rd l0 a1) ((rd l0 a1) == 39))) = some (r1, r2, r3, r4, r5, r6) := by rw [if_neg (show ¬ (false = true) by decide)] at H; exact H
        clear H
        have H := H1
        clear H1
        have HC10 := Aside0.mk H
        clear H
        go_enter Try.func55, Try.ntmps55
        go_upto_region 4 with (first | ((with_reducible refine gate_dst (N := 4) rfl ?_); refine box_event ?hg (N := 4) ?hd (cs := #[.int .i64 0, .string (⟨#[]⟩ : ByteArray), .string (⟨#[]⟩ : ByteArray), .bool false, .bool false]) (t := 43) ?hr ?_; (case hd => rfl); (case hg => rfl); (case hr => first | (go_simp; done) | (go_simp; rfl)); intro gb101 hg w11 hbox hb; have n0_ := Aside0.mk (below_step (by repeat (first | (with_reducible first | exact HB.out | apply below_alloc | apply pw_below_drewN | apply below_drew1) | exact HB.out)) hb); have n1_ := Aside0.mk (hbox); have n2_ := Aside0.mk ((by rw [hg]; exact (below_size (by repeat (first | (with_reducible first | exact HB.out | apply below_alloc | apply pw_below_drewN | apply below_drew1) | exact HB.out))) : w.heap.size ≤ gb101)); have n3_ := Aside0.mk ((by rw [hg]; exact (below_size (by repeat (first | (with_reducible first | exact HB.out | apply below_alloc | apply pw_below_drewN | apply below_drew1) | exact HB.out))) : w.heap.size ≤ gb101)); clear HB; have HB := n0_; have BK101 := n1_; have GW101 := n2_; have GE101 := n3_; clear n0_ n1_ n2_ n3_; clear hb hbox hg; have p102 : 0 ≤ (a1 : Int) := of_decide_eq_true (by first | (with_reducible assumption) | assumption); have q102 : a1 < (l0.length : Int) := of_decide_eq_true (by first | (with_reducible assumption) | assumption); obtain ⟨ad102, e102, hx102_0⟩ := Kd.at_int HR0.out a1 p102 q102; cases e102; replace hx102_0 := (HB.out.cell (World.block_lt_of_cell? w _ hx102_0)).trans hx102_0; replace p102 := eq_true p102; replace q102 := eq_true q102) | ((with_reducible refine gate_callee (f := 59) rfl ?_); refine goesL_ (some 15) rfl rfl Try.func59 (by kernel_rfl) rfl #[.int .i32 (rd l0 a1)] rfl (by (try simp only [List.map_toArray, List.map_cons, List.map_nil]); first | done | rfl | (simp only [List.length_drop, List.length_take]; rfl)) ?_; (with_reducible refine (gouacheref01_Blank.calls (rd l0 a1) false _ A5.out).mono ?_); rintro e w' ⟨rfl, ⟨nd, rfl⟩⟩; refine ⟨_, rfl, ?_⟩))
        (try simp only [Act.put, List.setIfInBounds_toArray, List.set_cons_zero, List.set_cons_succ])
        go_cut [20] (fun v20 wc => ∃ (kq : Nat) (x20_9 : Bool), v20 = .bool x20_9 ∧ Aside0 (gouacheref02_one.j0 kq l0 a1 (rd l0 a1) x20_9 = some (r1, r2, r3, r4, r5, r6)) ∧ Aside0 (kq ≤ k) ∧ Aside0 (wc.heap[gb101]? = some (.cells #[.int .i64 0, .string (⟨#[]⟩ : ByteArray), .string (⟨#[]⟩ : ByteArray), .bool false, .bool false] 43 (0, 0))) ∧ Aside0 (Below w.heap.size w wc))
        case first =>
          have H := HC10.out
          clear HC10
          by_cases c12 : (rd l0 a1) = 34
          · rw [if_pos c12] at H
            have c12b0 : ((rd l0 a1) == 34) = true := beq_iff_eq.mpr c12
            have c12b1 : ((rd l0 a1) != 34) = false := bne_eq_false_iff_eq.mpr c12
            clear c12
            (first | rw [c12b0] | (simp only [i64_w, i32_w]; rw [c12b0]) | skip)
            have H' := Aside0.mk H
            clear H
            go_wp2
            go_meet
            case rel => exact ⟨_, (true), (by first | rfl | (simp; done) | (simp [*]; done)), H', ⟨by first | omega | exact Nat.le_refl _⟩, ⟨by (with_reducible repeat (first | refine blk_drewN ?_ _ | refine blk_drew ?_ | refine blk_alloc ?_ _)); exact BK101.out⟩, ⟨by repeat (first | (with_reducible first | exact HB.out | apply below_alloc | apply pw_below_drewN | apply below_drew1 | refine below_set ?_ GE101.out) | exact HB.out)⟩⟩
          · rw [if_neg c12] at H
            have c12b0 : ((rd l0 a1) == 34) = false := beq_eq_false_iff_ne.mpr c12
            have c12b1 : ((rd l0 a1) != 34) = true := bne_iff_ne.mpr c12
            (first | rw [c12b0] | (simp only [i64_w, i32_w]; rw [c12b0]) | skip)
            have H' := Aside0.mk H
            clear H
            go_wp2
            go_meet
            case rel => exact ⟨_, (((rd l0 a1) == 39)), (by first | rfl | (simp; done) | (simp [*]; done)), H', ⟨by first | omega | exact Nat.le_refl _⟩, ⟨by (with_reducible repeat (first | refine blk_drewN ?_ _ | refine blk_drew ?_ | refine blk_alloc ?_ _)); exact BK101.out⟩, ⟨by repeat (first | (with_reducible first | exact HB.out | apply below_alloc | apply pw_below_drewN | apply below_drew1 | refine below_set ?_ GE101.out) | exact HB.out)⟩⟩
        case rest =>
          clear HC10
          try clear c1
          try clear p1
          try clear q1
          try clear hx1
          try clear p2
          try clear c3
          try clear c3b0
          try clear c4
          try clear c4b0
          try clear c5
          try clear c6
          try clear p10
          try clear q10
          try clear hx10
          try clear c12
          try clear c12b0
          try clear c12b1
          try clear hcz9_0
          try clear hcz9_1
          try clear hcz9_2
          try clear hcz9_3
          try clear hcz9_4
          try clear hfz9_0
          try clear hfz9_1
          try clear hfz9_2
          try clear hfz9_3
          try clear hfz9_4
          try clear hx102_0
          try clear p102
          try clear q102
          obtain ⟨kq, x20_9, rfl, HA, HJ9, BK101, HB⟩ := hcut
          cases kq with
          | zero => exact absurd HA.out (by simp [gouacheref02_one.j0])
          | succ kj9 =>
            have H := HA.out
            clear HA
            simp only [gouacheref02_one.j0] at H
            by_cases c13 : x20_9 = true
            · subst c13
              have H1 : (none) = some (r1, r2, r3, r4, r5, r6) := by rw [if_pos rfl] at H; exact H
              clear H
              have H := H1
              clear H1
              exact absurd H (by simp)
            · replace c13 := Bool.eq_false_iff.mpr c13
              subst c13
              have H1 : (if (rd l0 a1) = 35 then ((gouacheref02_at.f l0 (wrap64 (a1 + 1))).bind fun t105 => ((gouacheref02_part.f t105).bind fun t106 => (if t106 = true then (gouacheref02_one.j1 kj9 l0 a1 (rd l0 a1) true) else ((gouacheref02_escape.f l0 (wrap64 (a1 + 1))).bind fun t107 => (gouacheref02_one.j1 kj9 l0 a1 (rd l0 a1) t107))))) else (gouacheref02_one.j1 kj9 l0 a1 (rd l0 a1) false)) = some (r1, r2, r3, r4, r5, r6) := by rw [if_neg (show ¬ (false = true) by decide)] at H; exact H
              clear H
              have H := H1
              clear H1
              have HC14 := Aside0.mk H
              clear H
              go_upto_region 6 with (fail)
              go_cut [32] (fun v32 wc => ∃ (kq : Nat) (x32_13 : Bool), v32 = .bool x32_13 ∧ Aside0 (gouacheref02_one.j1 kq l0 a1 (rd l0 a1) x32_13 = some (r1, r2, r3, r4, r5, r6)) ∧ Aside0 (kq ≤ kj9) ∧ Aside0 (wc.heap[gb101]? = some (.cells #[.int .i64 0, .string (⟨#[]⟩ : ByteArray), .string (⟨#[]⟩ : ByteArray), .bool false, .bool false] 43 (0, 0))) ∧ Aside0 (Below w.heap.size w wc))
              case first =>
                have H := HC14.out
                clear HC14
                by_cases c15 : (rd l0 a1) = 35
                · rw [if_pos c15] at H
                  have c15b0 : ((rd l0 a1) == 35) = true := beq_iff_eq.mpr c15
                  have c15b1 : ((rd l0 a1) != 35) = false := bne_eq_false_iff_eq.mpr c15
                  clear c15
                  (first | rw [c15b0] | (simp only [i64_w, i32_w]; rw [c15b0]) | skip)
                  replace H := Option.bind_eq_some_iff.mp H
                  obtain ⟨t105, A160, H⟩ := H
                  replace H : ((gouacheref02_part.f t105).bind fun t106 => (if t106 = true then (gouacheref02_one.j1 kj9 l0 a1 (rd l0 a1) true) else ((gouacheref02_escape.f l0 (wrap64 (a1 + 1))).bind fun t107 => (gouacheref02_one.j1 kj9 l0 a1 (rd l0 a1) t107)))) = some (r1, r2, r3, r4, r5, r6) := H
                  have A16 := Aside0.mk A160
                  clear A160
                  replace H := Option.bind_eq_some_iff.mp H
                  obtain ⟨t106, A170, H⟩ := H
                  replace H : (if t106 = true then (gouacheref02_one.j1 kj9 l0 a1 (rd l0 a1) true) else ((gouacheref02_escape.f l0 (wrap64 (a1 + 1))).bind fun t107 => (gouacheref02_one.j1 kj9 l0 a1 (rd l0 a1) t107))) = some (r1, r2, r3, r4, r5, r6) := H
                  have A17 := Aside0.mk A170
                  clear A170
                  by_cases c18 : t106 = true
                  · subst c18
                    have H1 : (gouacheref02_one.j1 kj9 l0 a1 (rd l0 a1) true) = some (r1, r2, r3, r4, r5, r6) := by rw [if_pos rfl] at H; exact H
                    clear H
                    have H := H1
                    clear H1
                    have H' := Aside0.mk H
                    clear H
                    go_wp2_with (first | (go_at_call 58; (with_reducible refine (gouacheref02_at.calls _ _ l0 (wrap64 (a1 + 1)) t105 _ ?side1 ?side2 A16.out).mono ?_); (case side1 => repeat (first | exact (Kd.C_below HR0.out HB.out) | (with_reducible refine Kd.C_alloc ?_ _) | (with_reducible refine Kd.C_drewN ?_ _) | (with_reducible refine Kd.C_drew ?_))); (case side2 => exact HC0.out); rintro e w' ⟨rfl, ⟨nd, rfl⟩⟩) | (go_at_call 62; (with_reducible refine (gouacheref02_part.calls t105 true _ A17.out).mono ?_); rintro e w' ⟨rfl, ⟨nd, rfl⟩⟩))
                    go_meet
                    case rel => exact ⟨_, (true), (by first | rfl | (simp; done) | (simp [*]; done)), H', ⟨by have := HJ9.out; first | omega | exact Nat.le_refl _⟩, ⟨by (with_reducible repeat (first | refine blk_drewN ?_ _ | refine blk_drew ?_ | refine blk_alloc ?_ _)); exact BK101.out⟩, ⟨by repeat (first | (with_reducible first | exact HB.out | apply below_alloc | apply pw_below_drewN | apply below_drew1 | refine below_set ?_ GE101.out) | exact HB.out)⟩⟩
                  · replace c18 := Bool.eq_false_iff.mpr c18
                    subst c18
                    have H1 : ((gouacheref02_escape.f l0 (wrap64 (a1 + 1))).bind fun t107 => (gouacheref02_one.j1 kj9 l0 a1 (rd l0 a1) t107)) = some (r1, r2, r3, r4, r5, r6) := by rw [if_neg (show ¬ (false = true) by decide)] at H; exact H
                    clear H
                    have H := H1
                    clear H1
                    replace H := Option.bind_eq_some_iff.mp H
                    obtain ⟨t107, A190, H⟩ := H
                    replace H : (gouacheref02_one.j1 kj9 l0 a1 (rd l0 a1) t107) = some (r1, r2, r3, r4, r5, r6) := H
                    have A19 := Aside0.mk A190
                    clear A190
                    have H' := Aside0.mk H
                    clear H
                    go_wp2_with (first | (go_at_call 58; (with_reducible refine (gouacheref02_at.calls _ _ l0 (wrap64 (a1 + 1)) t105 _ ?side1 ?side2 A16.out).mono ?_); (case side1 => repeat (first | exact (Kd.C_below HR0.out HB.out) | (with_reducible refine Kd.C_alloc ?_ _) | (with_reducible refine Kd.C_drewN ?_ _) | (with_reducible refine Kd.C_drew ?_))); (case side2 => exact HC0.out); rintro e w' ⟨rfl, ⟨nd, rfl⟩⟩) | (go_at_call 62; (with_reducible refine (gouacheref02_part.calls t105 false _ A17.out).mono ?_); rintro e w' ⟨rfl, ⟨nd, rfl⟩⟩) | (go_at_call 63; (with_reducible refine (gouacheref02_escape.calls _ _ l0 (wrap64 (a1 + 1)) t107 _ ?side1 ?side2 A19.out).mono ?_); (case side1 => repeat (first | exact (Kd.C_below HR0.out (by repeat (first | (with_reducible first | exact HB.out | apply below_alloc | apply pw_below_drewN | apply below_drew1 | refine below_set ?_ GE101.out) | exact HB.out))) | (with_reducible refine Kd.C_alloc ?_ _) | (with_reducible refine Kd.C_drewN ?_ _) | (with_reducible refine Kd.C_drew ?_))); (case side2 => exact HC0.out); rintro e w' ⟨rfl, ⟨nd, rfl⟩⟩))
                    go_meet
                    case rel => exact ⟨_, (t107), (by first | rfl | (simp; done) | (simp [*]; done)), H', ⟨by have := HJ9.out; first | omega | exact Nat.le_refl _⟩, ⟨by (with_reducible repeat (first | refine blk_drewN ?_ _ | refine blk_drew ?_ | refine blk_alloc ?_ _)); exact BK101.out⟩, ⟨by repeat (first | (with_reducible first | exact HB.out | apply below_alloc | apply pw_below_drewN | apply below_drew1 | refine below_set ?_ GE101.out) | exact HB.out)⟩⟩
                · rw [if_neg c15] at H
                  have c15b0 : ((rd l0 a1) == 35) = false := beq_eq_false_iff_ne.mpr c15
                  have c15b1 : ((rd l0 a1) != 35) = true := bne_iff_ne.mpr c15
                  (first | rw [c15b0] | (simp only [i64_w, i32_w]; rw [c15b0]) | skip)
                  have H' := Aside0.mk H
                  clear H
                  go_wp2
                  go_meet
                  case rel => exact ⟨_, (false), (by first | rfl | (simp; done) | (simp [*]; done)), H', ⟨by have := HJ9.out; first | omega | exact Nat.le_refl _⟩, ⟨by (with_reducible repeat (first | refine blk_drewN ?_ _ | refine blk_drew ?_ | refine blk_alloc ?_ _)); exact BK101.out⟩, ⟨by repeat (first | (with_reducible first | exact HB.out | apply below_alloc | apply pw_below_drewN | apply below_drew1 | refine below_set ?_ GE101.out) | exact HB.out)⟩⟩
              case rest =>
                clear HC14
                try clear c1
                try clear p1
                try clear q1
                try clear hx1
                try clear p2
                try clear c3
                try clear c3b0
                try clear c4
                try clear c4b0
                try clear c5
                try clear c6
                try clear p6
                try clear p10
                try clear q10
                try clear hx10
                try clear c12
                try clear c12b0
                try clear c12b1
                try clear c13
                try clear c15
                try clear c15b0
                try clear c15b1
                try clear c18
                try clear hcz9_0
                try clear hcz9_1
                try clear hcz9_2
                try clear hcz9_3
                try clear hcz9_4
                try clear hfz9_0
                try clear hfz9_1
                try clear hfz9_2
                try clear hfz9_3
                try clear hfz9_4
                try clear hx102_0
                try clear p1
                try clear p10
                try clear p102
                try clear p2
                try clear q1
                try clear q10
                try clear q102
                obtain ⟨kq, x32_13, rfl, HA, HJ13, BK101, HB⟩ := hcut
                cases kq with
                | zero => exact absurd HA.out (by simp [gouacheref02_one.j1])
                | succ kj13 =>
                  have H := HA.out
                  clear HA
                  simp only [gouacheref02_one.j1] at H
                  by_cases c20 : x32_13 = true
                  · subst c20
                    have H1 : (none) = some (r1, r2, r3, r4, r5, r6) := by rw [if_pos rfl] at H; exact H
                    clear H
                    have H := H1
                    clear H1
                    exact absurd H (by simp)
                  · replace c20 := Bool.eq_false_iff.mpr c20
                    subst c20
                    have H1 : ((gouacheref02_numbers.f kj13 l0 a1).bind fun t108 => (if t108 = true then (none) else ((gouacheref02_starts.f l0 a1 (⟨#[45, 45, 62]⟩ : ByteArray)).bind fun t109 => (if t109 = true then (some (15, (⟨#[]⟩ : ByteArray), (⟨#[]⟩ : ByteArray), false, false, wrap64 (a1 + 3))) else ((gouacheref02_starts.f l0 a1 (⟨#[60, 33, 45, 45]⟩ : ByteArray)).bind fun t110 => (if t110 = true then (some (14, (⟨#[]⟩ : ByteArray), (⟨#[]⟩ : ByteArray), false, false, wrap64 (a1 + 4))) else ((gouacheref02_names.f l0 a1).bind fun t111 => (if t111 = true then ((gouacheref02_word.f kj13 l0 a1).bind fun bt112 => (some (bt112.1, bt112.2.1, bt112.2.2.1, bt112.2.2.2.1, bt112.2.2.2.2.1, bt112.2.2.2.2.2))) else (if (rd l0 a1) = 64 then ((gouacheref02_names.f l0 (wrap64 (a1 + 1))).bind fun t118 => (gouacheref02_one.j2 kj13 l0 a1 (rd l0 a1) t118)) else (gouacheref02_one.j2 kj13 l0 a1 (rd l0 a1) false)))))))))) = some (r1, r2, r3, r4, r5, r6) := by rw [if_neg (show ¬ (false = true) by decide)] at H; exact H
                    clear H
                    have H := H1
                    clear H1
                    replace H := Option.bind_eq_some_iff.mp H
                    obtain ⟨t108, A210, H⟩ := H
                    replace H : (if t108 = true then (none) else ((gouacheref02_starts.f l0 a1 (⟨#[45, 45, 62]⟩ : ByteArray)).bind fun t109 => (if t109 = true then (some (15, (⟨#[]⟩ : ByteArray), (⟨#[]⟩ : ByteArray), false, false, wrap64 (a1 + 3))) else ((gouacheref02_starts.f l0 a1 (⟨#[60, 33, 45, 45]⟩ : ByteArray)).bind fun t110 => (if t110 = true then (some (14, (⟨#[]⟩ : ByteArray), (⟨#[]⟩ : ByteArray), false, false, wrap64 (a1 + 4))) else ((gouacheref02_names.f l0 a1).bind fun t111 => (if t111 = true then ((gouacheref02_word.f kj13 l0 a1).bind fun bt112 => (some (bt112.1, bt112.2.1, bt112.2.2.1, bt112.2.2.2.1, bt112.2.2.2.2.1, bt112.2.2.2.2.2))) else (if (rd l0 a1) = 64 then ((gouacheref02_names.f l0 (wrap64 (a1 + 1))).bind fun t118 => (gouacheref02_one.j2 kj13 l0 a1 (rd l0 a1) t118)) else (gouacheref02_one.j2 kj13 l0 a1 (rd l0 a1) false))))))))) = some (r1, r2, r3, r4, r5, r6) := H
                    have A21 := Aside0.mk A210
                    clear A210
                    by_cases c22 : t108 = true
                    · subst c22
                      have H1 : (none) = some (r1, r2, r3, r4, r5, r6) := by rw [if_pos rfl] at H; exact H
                      clear H
                      have H := H1
                      clear H1
                      exact absurd H (by simp)
                    · replace c22 := Bool.eq_false_iff.mpr c22
                      subst c22
                      have H1 : ((gouacheref02_starts.f l0 a1 (⟨#[45, 45, 62]⟩ : ByteArray)).bind fun t109 => (if t109 = true then (some (15, (⟨#[]⟩ : ByteArray), (⟨#[]⟩ : ByteArray), false, false, wrap64 (a1 + 3))) else ((gouacheref02_starts.f l0 a1 (⟨#[60, 33, 45, 45]⟩ : ByteArray)).bind fun t110 => (if t110 = true then (some (14, (⟨#[]⟩ : ByteArray), (⟨#[]⟩ : ByteArray), false, false, wrap64 (a1 + 4))) else ((gouacheref02_names.f l0 a1).bind fun t111 => (if t111 = true then ((gouacheref02_word.f kj13 l0 a1).bind fun bt112 => (some (bt112.1, bt112.2.1, bt112.2.2.1, bt112.2.2.2.1, bt112.2.2.2.2.1, bt112.2.2.2.2.2))) else (if (rd l0 a1) = 64 then ((gouacheref02_names.f l0 (wrap64 (a1 + 1))).bind fun t118 => (gouacheref02_one.j2 kj13 l0 a1 (rd l0 a1) t118)) else (gouacheref02_one.j2 kj13 l0 a1 (rd l0 a1) false)))))))) = some (r1, r2, r3, r4, r5, r6) := by rw [if_neg (show ¬ (false = true) by decide)] at H; exact H
                      clear H
                      have H := H1
                      clear H1
                      replace H := Option.bind_eq_some_iff.mp H
                      obtain ⟨t109, A230, H⟩ := H
                      replace H : (if t109 = true then (some (15, (⟨#[]⟩ : ByteArray), (⟨#[]⟩ : ByteArray), false, false, wrap64 (a1 + 3))) else ((gouacheref02_starts.f l0 a1 (⟨#[60, 33, 45, 45]⟩ : ByteArray)).bind fun t110 => (if t110 = true then (some (14, (⟨#[]⟩ : ByteArray), (⟨#[]⟩ : ByteArray), false, false, wrap64 (a1 + 4))) else ((gouacheref02_names.f l0 a1).bind fun t111 => (if t111 = true then ((gouacheref02_word.f kj13 l0 a1).bind fun bt112 => (some (bt112.1, bt112.2.1, bt112.2.2.1, bt112.2.2.2.1, bt112.2.2.2.2.1, bt112.2.2.2.2.2))) else (if (rd l0 a1) = 64 then ((gouacheref02_names.f l0 (wrap64 (a1 + 1))).bind fun t118 => (gouacheref02_one.j2 kj13 l0 a1 (rd l0 a1) t118)) else (gouacheref02_one.j2 kj13 l0 a1 (rd l0 a1) false))))))) = some (r1, r2, r3, r4, r5, r6) := H
                      have A23 := Aside0.mk A230
                      clear A230
                      by_cases c24 : t109 = true
                      · subst c24
                        have H1 : (some (15, (⟨#[]⟩ : ByteArray), (⟨#[]⟩ : ByteArray), false, false, wrap64 (a1 + 3))) = some (r1, r2, r3, r4, r5, r6) := by rw [if_pos rfl] at H; exact H
                        clear H
                        have H := H1
                        clear H1
                        simp only [Option.some.injEq, Prod.mk.injEq] at H
                        obtain ⟨rfl, rfl, rfl, rfl, rfl, rfl⟩ := H
                        go_wp2_with (first | ((with_reducible refine gate_callee (f := 66) rfl ?_); refine goesL_ (some 66) rfl rfl Try.func66 (by kernel_rfl) rfl #[.slice (some ad102) l0.length c0, .int .i64 a1] rfl (by (try simp only [List.map_toArray, List.map_cons, List.map_nil]); first | done | rfl | (simp only [List.length_drop, List.length_take]; rfl)) ?_; (with_reducible refine (gouacheref02_numbers.calls kj13 _ _ l0 a1 false _ ?side1 ?side2 A21.out).mono ?_); (case side1 => repeat (first | exact (Kd.C_below HR0.out HB.out) | (with_reducible refine Kd.C_alloc ?_ _) | (with_reducible refine Kd.C_drewN ?_ _) | (with_reducible refine Kd.C_drew ?_))); (case side2 => exact HC0.out); rintro e w' ⟨rfl, ⟨nd, rfl⟩⟩; refine ⟨_, rfl, ?_⟩; (try (rw [drewN_self wc]; generalize hq_ : World.drewN wc _ = wc; have n0_ : Aside0 (wc.heap[gb101]? = some (.cells #[.int .i64 0, .string (⟨#[]⟩ : ByteArray), .string (⟨#[]⟩ : ByteArray), .bool false, .bool false] 43 (0, 0))) := ⟨by rw [← hq_]; exact (by (with_reducible repeat (first | refine blk_drewN ?_ _ | refine blk_drew ?_ | refine blk_alloc ?_ _)); exact BK101.out)⟩; have n1_ : Aside0 (Below w.heap.size w wc) := ⟨by rw [← hq_]; exact (by repeat (first | (with_reducible first | exact HB.out | apply below_alloc | apply pw_below_drewN | apply below_drew1 | refine below_set ?_ GE101.out) | exact HB.out))⟩; clear BK101 HB hq_; have BK101 := n0_; have HB := n1_; clear n0_ n1_))) | ((with_reducible refine gate_callee (f := 53) rfl ?_); refine goesL_ (some 75) rfl rfl Try.func53 (by kernel_rfl) rfl #[.slice (some ad102) l0.length c0, .int .i64 a1, .string (⟨#[45, 45, 62]⟩ : ByteArray)] rfl (by (try simp only [List.map_toArray, List.map_cons, List.map_nil]); first | done | rfl | (simp only [List.length_drop, List.length_take]; rfl)) ?_; (with_reducible refine (gouacheref02_starts.calls _ _ l0 a1 (⟨#[45, 45, 62]⟩ : ByteArray) true _ ?side1 ?side2 A23.out).mono ?_); (case side1 => repeat (first | exact (Kd.C_below HR0.out HB.out) | (with_reducible refine Kd.C_alloc ?_ _) | (with_reducible refine Kd.C_drewN ?_ _) | (with_reducible refine Kd.C_drew ?_))); (case side2 => exact HC0.out); rintro e w25 ⟨rfl, hb⟩; refine ⟨_, rfl, ?_⟩; have n0_ := Aside0.mk (blk_below (g := gb101) (o := .cells #[.int .i64 0, .string (⟨#[]⟩ : ByteArray), .string (⟨#[]⟩ : ByteArray), .bool false, .bool false] 43 (0, 0)) (by (with_reducible repeat (first | refine blk_drewN ?_ _ | refine blk_drew ?_ | refine blk_alloc ?_ _)); exact BK101.out) hb); have n1_ := Aside0.mk (below_step (by repeat (first | (with_reducible first | exact HB.out | apply below_alloc | apply pw_below_drewN | apply below_drew1 | refine below_set ?_ GE101.out) | exact HB.out)) hb); clear BK101; clear HB; have BK101 := n0_; have HB := n1_; clear n0_ n1_; (try clear hb); (try clear hb2); (try clear hk); (try clear hi); have hcz26_0 : w25.cell? ⟨gb101, 0, none⟩ = some (.int .i64 0) := (blk_cell BK101.out 0).trans rfl; have hcz26_1 : w25.cell? ⟨gb101, 1, none⟩ = some (.string (⟨#[]⟩ : ByteArray)) := (blk_cell BK101.out 1).trans rfl; have hcz26_2 : w25.cell? ⟨gb101, 2, none⟩ = some (.string (⟨#[]⟩ : ByteArray)) := (blk_cell BK101.out 2).trans rfl; have hcz26_3 : w25.cell? ⟨gb101, 3, none⟩ = some (.bool false) := (blk_cell BK101.out 3).trans rfl; have hcz26_4 : w25.cell? ⟨gb101, 4, none⟩ = some (.bool false) := (blk_cell BK101.out 4).trans rfl; have hfz26_0 := blk_frozen BK101.out 0; have hfz26_1 := blk_frozen BK101.out 1; have hfz26_2 := blk_frozen BK101.out 2; have hfz26_3 := blk_frozen BK101.out 3; have hfz26_4 := blk_frozen BK101.out 4))
                        refine bodyPost_ret (results_ct rfl _ _ gb101 43 #[.int .i64 15, .string (⟨#[]⟩ : ByteArray), .string (⟨#[]⟩ : ByteArray), .bool false, .bool false] (0, 0) _ rfl (by (with_reducible repeat (first | refine blk_drewN ?_ _ | refine blk_drew ?_ | refine blk_alloc ?_ _)); refine blk_put (cs := #[.int .i64 15, .string (⟨#[]⟩ : ByteArray), .string (⟨#[]⟩ : ByteArray), .bool false, .bool false]) ?_ 4 _ rfl; (with_reducible repeat (first | refine blk_drewN ?_ _ | refine blk_drew ?_ | refine blk_alloc ?_ _)); refine blk_put (cs := #[.int .i64 15, .string (⟨#[]⟩ : ByteArray), .string (⟨#[]⟩ : ByteArray), .bool false, .bool false]) ?_ 3 _ rfl; (with_reducible repeat (first | refine blk_drewN ?_ _ | refine blk_drew ?_ | refine blk_alloc ?_ _)); refine blk_put (cs := #[.int .i64 15, .string (⟨#[]⟩ : ByteArray), .string (⟨#[]⟩ : ByteArray), .bool false, .bool false]) ?_ 2 _ rfl; (with_reducible repeat (first | refine blk_drewN ?_ _ | refine blk_drew ?_ | refine blk_alloc ?_ _)); refine blk_put (cs := #[.int .i64 15, .string (⟨#[]⟩ : ByteArray), .string (⟨#[]⟩ : ByteArray), .bool false, .bool false]) ?_ 1 _ rfl; (with_reducible repeat (first | refine blk_drewN ?_ _ | refine blk_drew ?_ | refine blk_alloc ?_ _)); refine blk_put (cs := #[.int .i64 0, .string (⟨#[]⟩ : ByteArray), .string (⟨#[]⟩ : ByteArray), .bool false, .bool false]) ?_ 0 _ rfl; (with_reducible repeat (first | refine blk_drewN ?_ _ | refine blk_drew ?_ | refine blk_alloc ?_ _)); exact BK101.out) Try.underlying43 rfl (by kernel_rfl)) rfl ?_
                        exact ⟨by first | rfl | (simp [errW_none, errW_some] <;> rfl) | (simp [*, errW_none, errW_some] <;> rfl), by repeat (first | (with_reducible first | exact HB.out | apply below_alloc | apply pw_below_drewN | apply below_drew1 | refine below_set ?_ GE101.out) | exact HB.out)⟩
                      · replace c24 := Bool.eq_false_iff.mpr c24
                        subst c24
                        have H1 : ((gouacheref02_starts.f l0 a1 (⟨#[60, 33, 45, 45]⟩ : ByteArray)).bind fun t110 => (if t110 = true then (some (14, (⟨#[]⟩ : ByteArray), (⟨#[]⟩ : ByteArray), false, false, wrap64 (a1 + 4))) else ((gouacheref02_names.f l0 a1).bind fun t111 => (if t111 = true then ((gouacheref02_word.f kj13 l0 a1).bind fun bt112 => (some (bt112.1, bt112.2.1, bt112.2.2.1, bt112.2.2.2.1, bt112.2.2.2.2.1, bt112.2.2.2.2.2))) else (if (rd l0 a1) = 64 then ((gouacheref02_names.f l0 (wrap64 (a1 + 1))).bind fun t118 => (gouacheref02_one.j2 kj13 l0 a1 (rd l0 a1) t118)) else (gouacheref02_one.j2 kj13 l0 a1 (rd l0 a1) false)))))) = some (r1, r2, r3, r4, r5, r6) := by rw [if_neg (show ¬ (false = true) by decide)] at H; exact H
                        clear H
                        have H := H1
                        clear H1
                        replace H := Option.bind_eq_some_iff.mp H
                        obtain ⟨t110, A270, H⟩ := H
                        replace H : (if t110 = true then (some (14, (⟨#[]⟩ : ByteArray), (⟨#[]⟩ : ByteArray), false, false, wrap64 (a1 + 4))) else ((gouacheref02_names.f l0 a1).bind fun t111 => (if t111 = true then ((gouacheref02_word.f kj13 l0 a1).bind fun bt112 => (some (bt112.1, bt112.2.1, bt112.2.2.1, bt112.2.2.2.1, bt112.2.2.2.2.1, bt112.2.2.2.2.2))) else (if (rd l0 a1) = 64 then ((gouacheref02_names.f l0 (wrap64 (a1 + 1))).bind fun t118 => (gouacheref02_one.j2 kj13 l0 a1 (rd l0 a1) t118)) else (gouacheref02_one.j2 kj13 l0 a1 (rd l0 a1) false))))) = some (r1, r2, r3, r4, r5, r6) := H
                        have A27 := Aside0.mk A270
                        clear A270
                        by_cases c28 : t110 = true
                        · subst c28
                          have H1 : (some (14, (⟨#[]⟩ : ByteArray), (⟨#[]⟩ : ByteArray), false, false, wrap64 (a1 + 4))) = some (r1, r2, r3, r4, r5, r6) := by rw [if_pos rfl] at H; exact H
                          clear H
                          have H := H1
                          clear H1
                          simp only [Option.some.injEq, Prod.mk.injEq] at H
                          obtain ⟨rfl, rfl, rfl, rfl, rfl, rfl⟩ := H
                          go_wp2_with (first | ((with_reducible refine gate_callee (f := 66) rfl ?_); refine goesL_ (some 66) rfl rfl Try.func66 (by kernel_rfl) rfl #[.slice (some ad102) l0.length c0, .int .i64 a1] rfl (by (try simp only [List.map_toArray, List.map_cons, List.map_nil]); first | done | rfl | (simp only [List.length_drop, List.length_take]; rfl)) ?_; (with_reducible refine (gouacheref02_numbers.calls kj13 _ _ l0 a1 false _ ?side1 ?side2 A21.out).mono ?_); (case side1 => repeat (first | exact (Kd.C_below HR0.out HB.out) | (with_reducible refine Kd.C_alloc ?_ _) | (with_reducible refine Kd.C_drewN ?_ _) | (with_reducible refine Kd.C_drew ?_))); (case side2 => exact HC0.out); rintro e w' ⟨rfl, ⟨nd, rfl⟩⟩; refine ⟨_, rfl, ?_⟩; (try (rw [drewN_self wc]; generalize hq_ : World.drewN wc _ = wc; have n0_ : Aside0 (wc.heap[gb101]? = some (.cells #[.int .i64 0, .string (⟨#[]⟩ : ByteArray), .string (⟨#[]⟩ : ByteArray), .bool false, .bool false] 43 (0, 0))) := ⟨by rw [← hq_]; exact (by (with_reducible repeat (first | refine blk_drewN ?_ _ | refine blk_drew ?_ | refine blk_alloc ?_ _)); exact BK101.out)⟩; have n1_ : Aside0 (Below w.heap.size w wc) := ⟨by rw [← hq_]; exact (by repeat (first | (with_reducible first | exact HB.out | apply below_alloc | apply pw_below_drewN | apply below_drew1 | refine below_set ?_ GE101.out) | exact HB.out))⟩; clear BK101 HB hq_; have BK101 := n0_; have HB := n1_; clear n0_ n1_))) | ((with_reducible refine gate_callee (f := 53) rfl ?_); refine goesL_ (some 75) rfl rfl Try.func53 (by kernel_rfl) rfl #[.slice (some ad102) l0.length c0, .int .i64 a1, .string (⟨#[45, 45, 62]⟩ : ByteArray)] rfl (by (try simp only [List.map_toArray, List.map_cons, List.map_nil]); first | done | rfl | (simp only [List.length_drop, List.length_take]; rfl)) ?_; (with_reducible refine (gouacheref02_starts.calls _ _ l0 a1 (⟨#[45, 45, 62]⟩ : ByteArray) false _ ?side1 ?side2 A23.out).mono ?_); (case side1 => repeat (first | exact (Kd.C_below HR0.out HB.out) | (with_reducible refine Kd.C_alloc ?_ _) | (with_reducible refine Kd.C_drewN ?_ _) | (with_reducible refine Kd.C_drew ?_))); (case side2 => exact HC0.out); rintro e w29 ⟨rfl, hb⟩; refine ⟨_, rfl, ?_⟩; have n0_ := Aside0.mk (blk_below (g := gb101) (o := .cells #[.int .i64 0, .string (⟨#[]⟩ : ByteArray), .string (⟨#[]⟩ : ByteArray), .bool false, .bool false] 43 (0, 0)) (by (with_reducible repeat (first | refine blk_drewN ?_ _ | refine blk_drew ?_ | refine blk_alloc ?_ _)); exact BK101.out) hb); have n1_ := Aside0.mk (below_step (by repeat (first | (with_reducible first | exact HB.out | apply below_alloc | apply pw_below_drewN | apply below_drew1 | refine below_set ?_ GE101.out) | exact HB.out)) hb); clear BK101; clear HB; have BK101 := n0_; have HB := n1_; clear n0_ n1_; (try clear hb); (try clear hb2); (try clear hk); (try clear hi)) | ((with_reducible refine gate_callee (f := 53) rfl ?_); refine goesL_ (some 82) rfl rfl Try.func53 (by kernel_rfl) rfl #[.slice (some ad102) l0.length c0, .int .i64 a1, .string (⟨#[60, 33, 45, 45]⟩ : ByteArray)] rfl (by (try simp only [List.map_toArray, List.map_cons, List.map_nil]); first | done | rfl | (simp only [List.length_drop, List.length_take]; rfl)) ?_; (with_reducible refine (gouacheref02_starts.calls _ _ l0 a1 (⟨#[60, 33, 45, 45]⟩ : ByteArray) true _ ?side1 ?side2 A27.out).mono ?_); (case side1 => repeat (first | exact (Kd.C_below HR0.out HB.out) | (with_reducible refine Kd.C_alloc ?_ _) | (with_reducible refine Kd.C_drewN ?_ _) | (with_reducible refine Kd.C_drew ?_))); (case side2 => exact HC0.out); rintro e w30 ⟨rfl, hb⟩; refine ⟨_, rfl, ?_⟩; have n0_ := Aside0.mk (blk_below (g := gb101) (o := .cells #[.int .i64 0, .string (⟨#[]⟩ : ByteArray), .string (⟨#[]⟩ : ByteArray), .bool false, .bool false] 43 (0, 0)) (by (with_reducible repeat (first | refine blk_drewN ?_ _ | refine blk_drew ?_ | refine blk_alloc ?_ _)); exact BK101.out) hb); have n1_ := Aside0.mk (below_step (by repeat (first | (with_reducible first | exact HB.out | apply below_alloc | apply pw_below_drewN | apply below_drew1 | refine below_set ?_ GE101.out) | exact HB.out)) hb); clear BK101; clear HB; have BK101 := n0_; have HB := n1_; clear n0_ n1_; (try clear hb); (try clear hb2); (try clear hk); (try clear hi); have hcz31_0 : w30.cell? ⟨gb101, 0, none⟩ = some (.int .i64 0) := (blk_cell BK101.out 0).trans rfl; have hcz31_1 : w30.cell? ⟨gb101, 1, none⟩ = some (.string (⟨#[]⟩ : ByteArray)) := (blk_cell BK101.out 1).trans rfl; have hcz31_2 : w30.cell? ⟨gb101, 2, none⟩ = some (.string (⟨#[]⟩ : ByteArray)) := (blk_cell BK101.out 2).trans rfl; have hcz31_3 : w30.cell? ⟨gb101, 3, none⟩ = some (.bool false) := (blk_cell BK101.out 3).trans rfl; have hcz31_4 : w30.cell? ⟨gb101, 4, none⟩ = some (.bool false) := (blk_cell BK101.out 4).trans rfl; have hfz31_0 := blk_frozen BK101.out 0; have hfz31_1 := blk_frozen BK101.out 1; have hfz31_2 := blk_frozen BK101.out 2; have hfz31_3 := blk_frozen BK101.out 3; have hfz31_4 := blk_frozen BK101.out 4))
                          refine bodyPost_ret (results_ct rfl _ _ gb101 43 #[.int .i64 14, .string (⟨#[]⟩ : ByteArray), .string (⟨#[]⟩ : ByteArray), .bool false, .bool false] (0, 0) _ rfl (by (with_reducible repeat (first | refine blk_drewN ?_ _ | refine blk_drew ?_ | refine blk_alloc ?_ _)); refine blk_put (cs := #[.int .i64 14, .string (⟨#[]⟩ : ByteArray), .string (⟨#[]⟩ : ByteArray), .bool false, .bool false]) ?_ 4 _ rfl; (with_reducible repeat (first | refine blk_drewN ?_ _ | refine blk_drew ?_ | refine blk_alloc ?_ _)); refine blk_put (cs := #[.int .i64 14, .string (⟨#[]⟩ : ByteArray), .string (⟨#[]⟩ : ByteArray), .bool false, .bool false]) ?_ 3 _ rfl; (with_reducible repeat (first | refine blk_drewN ?_ _ | refine blk_drew ?_ | refine blk_alloc ?_ _)); refine blk_put (cs := #[.int .i64 14, .string (⟨#[]⟩ : ByteArray), .string (⟨#[]⟩ : ByteArray), .bool false, .bool false]) ?_ 2 _ rfl; (with_reducible repeat (first | refine blk_drewN ?_ _ | refine blk_drew ?_ | refine blk_alloc ?_ _)); refine blk_put (cs := #[.int .i64 14, .string (⟨#[]⟩ : ByteArray), .string (⟨#[]⟩ : ByteArray), .bool false, .bool false]) ?_ 1 _ rfl; (with_reducible repeat (first | refine blk_drewN ?_ _ | refine blk_drew ?_ | refine blk_alloc ?_ _)); refine blk_put (cs := #[.int .i64 0, .string (⟨#[]⟩ : ByteArray), .string (⟨#[]⟩ : ByteArray), .bool false, .bool false]) ?_ 0 _ rfl; (with_reducible repeat (first | refine blk_drewN ?_ _ | refine blk_drew ?_ | refine blk_alloc ?_ _)); exact BK101.out) Try.underlying43 rfl (by kernel_rfl)) rfl ?_
                          exact ⟨by first | rfl | (simp [errW_none, errW_some] <;> rfl) | (simp [*, errW_none, errW_some] <;> rfl), by repeat (first | (with_reducible first | exact HB.out | apply below_alloc | apply pw_below_drewN | apply below_drew1 | refine below_set ?_ GE101.out) | exact HB.out)⟩
                        · replace c28 := Bool.eq_false_iff.mpr c28
                          subst c28
                          have H1 : ((gouacheref02_names.f l0 a1).bind fun t111 => (if t111 = true then ((gouacheref02_word.f kj13 l0 a1).bind fun bt112 => (some (bt112.1, bt112.2.1, bt112.2.2.1, bt112.2.2.2.1, bt112.2.2.2.2.1, bt112.2.2.2.2.2))) else (if (rd l0 a1) = 64 then ((gouacheref02_names.f l0 (wrap64 (a1 + 1))).bind fun t118 => (gouacheref02_one.j2 kj13 l0 a1 (rd l0 a1) t118)) else (gouacheref02_one.j2 kj13 l0 a1 (rd l0 a1) false)))) = some (r1, r2, r3, r4, r5, r6) := by rw [if_neg (show ¬ (false = true) by decide)] at H; exact H
                          clear H
                          have H := H1
                          clear H1
                          replace H := Option.bind_eq_some_iff.mp H
                          obtain ⟨t111, A320, H⟩ := H
                          replace H : (if t111 = true then ((gouacheref02_word.f kj13 l0 a1).bind fun bt112 => (some (bt112.1, bt112.2.1, bt112.2.2.1, bt112.2.2.2.1, bt112.2.2.2.2.1, bt112.2.2.2.2.2))) else (if (rd l0 a1) = 64 then ((gouacheref02_names.f l0 (wrap64 (a1 + 1))).bind fun t118 => (gouacheref02_one.j2 kj13 l0 a1 (rd l0 a1) t118)) else (gouacheref02_one.j2 kj13 l0 a1 (rd l0 a1) false))) = some (r1, r2, r3, r4, r5, r6) := H
                          have A32 := Aside0.mk A320
                          clear A320
                          by_cases c33 : t111 = true
                          · subst c33
                            have H1 : ((gouacheref02_word.f kj13 l0 a1).bind fun bt112 => (some (bt112.1, bt112.2.1, bt112.2.2.1, bt112.2.2.2.1, bt112.2.2.2.2.1, bt112.2.2.2.2.2))) = some (r1, r2, r3, r4, r5, r6) := by rw [if_pos rfl] at H; exact H
                            clear H
                            have H := H1
                            clear H1
                            replace H := Option.bind_eq_some_iff.mp H
                            obtain ⟨⟨t112, t113, t114, t115, t116, t117⟩, A340, H⟩ := H
                            replace H : (some (t112, t113, t114, t115, t116, t117)) = some (r1, r2, r3, r4, r5, r6) := H
                            have A34 := Aside0.mk A340
                            clear A340
                            simp only [Option.some.injEq, Prod.mk.injEq] at H
                            obtain ⟨rfl, rfl, rfl, rfl, rfl, rfl⟩ := H
                            go_wp2_with (first | ((with_reducible refine gate_callee (f := 66) rfl ?_); refine goesL_ (some 66) rfl rfl Try.func66 (by kernel_rfl) rfl #[.slice (some ad102) l0.length c0, .int .i64 a1] rfl (by (try simp only [List.map_toArray, List.map_cons, List.map_nil]); first | done | rfl | (simp only [List.length_drop, List.length_take]; rfl)) ?_; (with_reducible refine (gouacheref02_numbers.calls kj13 _ _ l0 a1 false _ ?side1 ?side2 A21.out).mono ?_); (case side1 => repeat (first | exact (Kd.C_below HR0.out HB.out) | (with_reducible refine Kd.C_alloc ?_ _) | (with_reducible refine Kd.C_drewN ?_ _) | (with_reducible refine Kd.C_drew ?_))); (case side2 => exact HC0.out); rintro e w' ⟨rfl, ⟨nd, rfl⟩⟩; refine ⟨_, rfl, ?_⟩; (try (rw [drewN_self wc]; generalize hq_ : World.drewN wc _ = wc; have n0_ : Aside0 (wc.heap[gb101]? = some (.cells #[.int .i64 0, .string (⟨#[]⟩ : ByteArray), .string (⟨#[]⟩ : ByteArray), .bool false, .bool false] 43 (0, 0))) := ⟨by rw [← hq_]; exact (by (with_reducible repeat (first | refine blk_drewN ?_ _ | refine blk_drew ?_ | refine blk_alloc ?_ _)); exact BK101.out)⟩; have n1_ : Aside0 (Below w.heap.size w wc) := ⟨by rw [← hq_]; exact (by repeat (first | (with_reducible first | exact HB.out | apply below_alloc | apply pw_below_drewN | apply below_drew1 | refine below_set ?_ GE101.out) | exact HB.out))⟩; clear BK101 HB hq_; have BK101 := n0_; have HB := n1_; clear n0_ n1_))) | ((with_reducible refine gate_callee (f := 53) rfl ?_); refine goesL_ (some 75) rfl rfl Try.func53 (by kernel_rfl) rfl #[.slice (some ad102) l0.length c0, .int .i64 a1, .string (⟨#[45, 45, 62]⟩ : ByteArray)] rfl (by (try simp only [List.map_toArray, List.map_cons, List.map_nil]); first | done | rfl | (simp only [List.length_drop, List.length_take]; rfl)) ?_; (with_reducible refine (gouacheref02_starts.calls _ _ l0 a1 (⟨#[45, 45, 62]⟩ : ByteArray) false _ ?side1 ?side2 A23.out).mono ?_); (case side1 => repeat (first | exact (Kd.C_below HR0.out HB.out) | (with_reducible refine Kd.C_alloc ?_ _) | (with_reducible refine Kd.C_drewN ?_ _) | (with_reducible refine Kd.C_drew ?_))); (case side2 => exact HC0.out); rintro e w35 ⟨rfl, hb⟩; refine ⟨_, rfl, ?_⟩; have n0_ := Aside0.mk (blk_below (g := gb101) (o := .cells #[.int .i64 0, .string (⟨#[]⟩ : ByteArray), .string (⟨#[]⟩ : ByteArray), .bool false, .bool false] 43 (0, 0)) (by (with_reducible repeat (first | refine blk_drewN ?_ _ | refine blk_drew ?_ | refine blk_alloc ?_ _)); exact BK101.out) hb); have n1_ := Aside0.mk (below_step (by repeat (first | (with_reducible first | exact HB.out | apply below_alloc | apply pw_below_drewN | apply below_drew1 | refine below_set ?_ GE101.out) | exact HB.out)) hb); clear BK101; clear HB; have BK101 := n0_; have HB := n1_; clear n0_ n1_; (try clear hb); (try clear hb2); (try clear hk); (try clear hi)) | ((with_reducible refine gate_callee (f := 53) rfl ?_); refine goesL_ (some 82) rfl rfl Try.func53 (by kernel_rfl) rfl #[.slice (some ad102) l0.length c0, .int .i64 a1, .string (⟨#[60, 33, 45, 45]⟩ : ByteArray)] rfl (by (try simp only [List.map_toArray, List.map_cons, List.map_nil]); first | done | rfl | (simp only [List.length_drop, List.length_take]; rfl)) ?_; (with_reducible refine (gouacheref02_starts.calls _ _ l0 a1 (⟨#[60, 33, 45, 45]⟩ : ByteArray) false _ ?side1 ?side2 A27.out).mono ?_); (case side1 => repeat (first | exact (Kd.C_below HR0.out HB.out) | (with_reducible refine Kd.C_alloc ?_ _) | (with_reducible refine Kd.C_drewN ?_ _) | (with_reducible refine Kd.C_drew ?_))); (case side2 => exact HC0.out); rintro e w36 ⟨rfl, hb⟩; refine ⟨_, rfl, ?_⟩; have n0_ := Aside0.mk (blk_below (g := gb101) (o := .cells #[.int .i64 0, .string (⟨#[]⟩ : ByteArray), .string (⟨#[]⟩ : ByteArray), .bool false, .bool false] 43 (0, 0)) (by (with_reducible repeat (first | refine blk_drewN ?_ _ | refine blk_drew ?_ | refine blk_alloc ?_ _)); exact BK101.out) hb); have n1_ := Aside0.mk (below_step (by repeat (first | (with_reducible first | exact HB.out | apply below_alloc | apply pw_below_drewN | apply below_drew1 | refine below_set ?_ GE101.out) | exact HB.out)) hb); clear BK101; clear HB; have BK101 := n0_; have HB := n1_; clear n0_ n1_; (try clear hb); (try clear hb2); (try clear hk); (try clear hi)) | ((with_reducible refine gate_callee (f := 64) rfl ?_); refine goesL_ (some 89) rfl rfl Try.func64 (by kernel_rfl) rfl #[.slice (some ad102) l0.length c0, .int .i64 a1] rfl (by (try simp only [List.map_toArray, List.map_cons, List.map_nil]); first | done | rfl | (simp only [List.length_drop, List.length_take]; rfl)) ?_; (with_reducible refine (gouacheref02_names.calls _ _ l0 a1 true _ ?side1 ?side2 A32.out).mono ?_); (case side1 => repeat (first | exact (Kd.C_below HR0.out HB.out) | (with_reducible refine Kd.C_alloc ?_ _) | (with_reducible refine Kd.C_drewN ?_ _) | (with_reducible refine Kd.C_drew ?_))); (case side2 => exact HC0.out); rintro e w' ⟨rfl, ⟨nd, rfl⟩⟩; refine ⟨_, rfl, ?_⟩; (try (rw [drewN_self w36]; generalize hq_ : World.drewN w36 _ = w36; have n0_ : Aside0 (w36.heap[gb101]? = some (.cells #[.int .i64 0, .string (⟨#[]⟩ : ByteArray), .string (⟨#[]⟩ : ByteArray), .bool false, .bool false] 43 (0, 0))) := ⟨by rw [← hq_]; exact (by (with_reducible repeat (first | refine blk_drewN ?_ _ | refine blk_drew ?_ | refine blk_alloc ?_ _)); exact BK101.out)⟩; have n1_ : Aside0 (Below w.heap.size w w36) := ⟨by rw [← hq_]; exact (by repeat (first | (with_reducible first | exact HB.out | apply below_alloc | apply pw_below_drewN | apply below_drew1 | refine below_set ?_ GE101.out) | exact HB.out))⟩; clear BK101 HB hq_; have BK101 := n0_; have HB := n1_; clear n0_ n1_))) | ((with_reducible refine gate_callee (f := 68) rfl ?_); refine goesL_ (some 92) rfl rfl Try.func68 (by kernel_rfl) rfl #[.slice (some ad102) l0.length c0, .int .i64 a1] rfl (by (try simp only [List.map_toArray, List.map_cons, List.map_nil]); first | done | rfl | (simp only [List.length_drop, List.length_take]; rfl)) ?_; (with_reducible refine (gouacheref02_word.calls kj13 _ _ l0 a1 t112 t113 t114 t115 t116 t117 _ ?side1 ?side2 A34.out).mono ?_); (case side1 => repeat (first | exact (Kd.C_below HR0.out HB.out) | (with_reducible refine Kd.C_alloc ?_ _) | (with_reducible refine Kd.C_drewN ?_ _) | (with_reducible refine Kd.C_drew ?_))); (case side2 => exact HC0.out); rintro e w37 ⟨rfl, hb⟩; refine ⟨_, rfl, ?_⟩; have n0_ := Aside0.mk (blk_below (g := gb101) (o := .cells #[.int .i64 0, .string (⟨#[]⟩ : ByteArray), .string (⟨#[]⟩ : ByteArray), .bool false, .bool false] 43 (0, 0)) (by (with_reducible repeat (first | refine blk_drewN ?_ _ | refine blk_drew ?_ | refine blk_alloc ?_ _)); exact BK101.out) hb); have n1_ := Aside0.mk (below_step (by repeat (first | (with_reducible first | exact HB.out | apply below_alloc | apply pw_below_drewN | apply below_drew1 | refine below_set ?_ GE101.out) | exact HB.out)) hb); clear BK101; clear HB; have BK101 := n0_; have HB := n1_; clear n0_ n1_; (try clear hb); (try clear hb2); (try clear hk); (try clear hi); have hcz38_0 : w37.cell? ⟨gb101, 0, none⟩ = some (.int .i64 0) := (blk_cell BK101.out 0).trans rfl; have hcz38_1 : w37.cell? ⟨gb101, 1, none⟩ = some (.string (⟨#[]⟩ : ByteArray)) := (blk_cell BK101.out 1).trans rfl; have hcz38_2 : w37.cell? ⟨gb101, 2, none⟩ = some (.string (⟨#[]⟩ : ByteArray)) := (blk_cell BK101.out 2).trans rfl; have hcz38_3 : w37.cell? ⟨gb101, 3, none⟩ = some (.bool false) := (blk_cell BK101.out 3).trans rfl; have hcz38_4 : w37.cell? ⟨gb101, 4, none⟩ = some (.bool false) := (blk_cell BK101.out 4).trans rfl; have hfz38_0 := blk_frozen BK101.out 0; have hfz38_1 := blk_frozen BK101.out 1; have hfz38_2 := blk_frozen BK101.out 2; have hfz38_3 := blk_frozen BK101.out 3; have hfz38_4 := blk_frozen BK101.out 4))
                            refine bodyPost_ret (results_ct rfl _ _ gb101 43 #[.int .i64 t112, .string t113, .string t114, .bool t115, .bool t116] (0, 0) _ rfl (by (with_reducible repeat (first | refine blk_drewN ?_ _ | refine blk_drew ?_ | refine blk_alloc ?_ _)); refine blk_put (cs := #[.int .i64 t112, .string t113, .string t114, .bool t115, .bool false]) ?_ 4 _ rfl; (with_reducible repeat (first | refine blk_drewN ?_ _ | refine blk_drew ?_ | refine blk_alloc ?_ _)); refine blk_put (cs := #[.int .i64 t112, .string t113, .string t114, .bool false, .bool false]) ?_ 3 _ rfl; (with_reducible repeat (first | refine blk_drewN ?_ _ | refine blk_drew ?_ | refine blk_alloc ?_ _)); refine blk_put (cs := #[.int .i64 t112, .string t113, .string (⟨#[]⟩ : ByteArray), .bool false, .bool false]) ?_ 2 _ rfl; (with_reducible repeat (first | refine blk_drewN ?_ _ | refine blk_drew ?_ | refine blk_alloc ?_ _)); refine blk_put (cs := #[.int .i64 t112, .string (⟨#[]⟩ : ByteArray), .string (⟨#[]⟩ : ByteArray), .bool false, .bool false]) ?_ 1 _ rfl; (with_reducible repeat (first | refine blk_drewN ?_ _ | refine blk_drew ?_ | refine blk_alloc ?_ _)); refine blk_put (cs := #[.int .i64 0, .string (⟨#[]⟩ : ByteArray), .string (⟨#[]⟩ : ByteArray), .bool false, .bool false]) ?_ 0 _ rfl; (with_reducible repeat (first | refine blk_drewN ?_ _ | refine blk_drew ?_ | refine blk_alloc ?_ _)); exact BK101.out) Try.underlying43 rfl (by kernel_rfl)) rfl ?_
                            exact ⟨by first | rfl | (simp [errW_none, errW_some] <;> rfl) | (simp [*, errW_none, errW_some] <;> rfl), by repeat (first | (with_reducible first | exact HB.out | apply below_alloc | apply pw_below_drewN | apply below_drew1 | refine below_set ?_ GE101.out) | exact HB.out)⟩
                          · replace c33 := Bool.eq_false_iff.mpr c33
                            subst c33
                            have H1 : (if (rd l0 a1) = 64 then ((gouacheref02_names.f l0 (wrap64 (a1 + 1))).bind fun t118 => (gouacheref02_one.j2 kj13 l0 a1 (rd l0 a1) t118)) else (gouacheref02_one.j2 kj13 l0 a1 (rd l0 a1) false)) = some (r1, r2, r3, r4, r5, r6) := by rw [if_neg (show ¬ (false = true) by decide)] at H; exact H
                            clear H
                            have H := H1
                            clear H1
                            have HC39 := Aside0.mk H
                            clear H
                            go_upto_region 18 with (first | ((with_reducible refine gate_callee (f := 66) rfl ?_); refine goesL_ (some 66) rfl rfl Try.func66 (by kernel_rfl) rfl #[.slice (some ad102) l0.length c0, .int .i64 a1] rfl (by (try simp only [List.map_toArray, List.map_cons, List.map_nil]); first | done | rfl | (simp only [List.length_drop, List.length_take]; rfl)) ?_; (with_reducible refine (gouacheref02_numbers.calls kj13 _ _ l0 a1 false _ ?side1 ?side2 A21.out).mono ?_); (case side1 => repeat (first | exact (Kd.C_below HR0.out HB.out) | (with_reducible refine Kd.C_alloc ?_ _) | (with_reducible refine Kd.C_drewN ?_ _) | (with_reducible refine Kd.C_drew ?_))); (case side2 => exact HC0.out); rintro e w' ⟨rfl, ⟨nd, rfl⟩⟩; refine ⟨_, rfl, ?_⟩) | ((with_reducible refine gate_callee (f := 53) rfl ?_); refine goesL_ (some 75) rfl rfl Try.func53 (by kernel_rfl) rfl #[.slice (some ad102) l0.length c0, .int .i64 a1, .string (⟨#[45, 45, 62]⟩ : ByteArray)] rfl (by (try simp only [List.map_toArray, List.map_cons, List.map_nil]); first | done | rfl | (simp only [List.length_drop, List.length_take]; rfl)) ?_; (with_reducible refine (gouacheref02_starts.calls _ _ l0 a1 (⟨#[45, 45, 62]⟩ : ByteArray) false _ ?side1 ?side2 A23.out).mono ?_); (case side1 => repeat (first | exact (Kd.C_below HR0.out (by repeat (first | (with_reducible first | exact HB.out | apply below_alloc | apply pw_below_drewN | apply below_drew1 | refine below_set ?_ GE101.out) | exact HB.out))) | (with_reducible refine Kd.C_alloc ?_ _) | (with_reducible refine Kd.C_drewN ?_ _) | (with_reducible refine Kd.C_drew ?_))); (case side2 => exact HC0.out); rintro e w40 ⟨rfl, hb⟩; refine ⟨_, rfl, ?_⟩; have n0_ := Aside0.mk (blk_below (g := gb101) (o := .cells #[.int .i64 0, .string (⟨#[]⟩ : ByteArray), .string (⟨#[]⟩ : ByteArray), .bool false, .bool false] 43 (0, 0)) (by (with_reducible repeat (first | refine blk_drewN ?_ _ | refine blk_drew ?_ | refine blk_alloc ?_ _)); exact BK101.out) hb); have n1_ := Aside0.mk (below_step (by repeat (first | (with_reducible first | exact HB.out | apply below_alloc | apply pw_below_drewN | apply below_drew1 | refine below_set ?_ GE101.out) | exact HB.out)) hb); clear BK101; clear HB; have BK101 := n0_; have HB := n1_; clear n0_ n1_; (try clear hb); (try clear hb2); (try clear hk); (try clear hi)) | ((with_reducible refine gate_callee (f := 53) rfl ?_); refine goesL_ (some 82) rfl rfl Try.func53 (by kernel_rfl) rfl #[.slice (some ad102) l0.length c0, .int .i64 a1, .string (⟨#[60, 33, 45, 45]⟩ : ByteArray)] rfl (by (try simp only [List.map_toArray, List.map_cons, List.map_nil]); first | done | rfl | (simp only [List.length_drop, List.length_take]; rfl)) ?_; (with_reducible refine (gouacheref02_starts.calls _ _ l0 a1 (⟨#[60, 33, 45, 45]⟩ : ByteArray) false _ ?side1 ?side2 A27.out).mono ?_); (case side1 => repeat (first | exact (Kd.C_below HR0.out HB.out) | (with_reducible refine Kd.C_alloc ?_ _) | (with_reducible refine Kd.C_drewN ?_ _) | (with_reducible refine Kd.C_drew ?_))); (case side2 => exact HC0.out); rintro e w41 ⟨rfl, hb⟩; refine ⟨_, rfl, ?_⟩; have n0_ := Aside0.mk (blk_below (g := gb101) (o := .cells #[.int .i64 0, .string (⟨#[]⟩ : ByteArray), .string (⟨#[]⟩ : ByteArray), .bool false, .bool false] 43 (0, 0)) (by (with_reducible repeat (first | refine blk_drewN ?_ _ | refine blk_drew ?_ | refine blk_alloc ?_ _)); exact BK101.out) hb); have n1_ := Aside0.mk (below_step (by repeat (first | (with_reducible first | exact HB.out | apply below_alloc | apply pw_below_drewN | apply below_drew1 | refine below_set ?_ GE101.out) | exact HB.out)) hb); clear BK101; clear HB; have BK101 := n0_; have HB := n1_; clear n0_ n1_; (try clear hb); (try clear hb2); (try clear hk); (try clear hi)) | ((with_reducible refine gate_callee (f := 64) rfl ?_); refine goesL_ (some 89) rfl rfl Try.func64 (by kernel_rfl) rfl #[.slice (some ad102) l0.length c0, .int .i64 a1] rfl (by (try simp only [List.map_toArray, List.map_cons, List.map_nil]); first | done | rfl | (simp only [List.length_drop, List.length_take]; rfl)) ?_; (with_reducible refine (gouacheref02_names.calls _ _ l0 a1 false _ ?side1 ?side2 A32.out).mono ?_); (case side1 => repeat (first | exact (Kd.C_below HR0.out HB.out) | (with_reducible refine Kd.C_alloc ?_ _) | (with_reducible refine Kd.C_drewN ?_ _) | (with_reducible refine Kd.C_drew ?_))); (case side2 => exact HC0.out); rintro e w' ⟨rfl, ⟨nd, rfl⟩⟩; refine ⟨_, rfl, ?_⟩))
                            (try simp only [Act.put, List.setIfInBounds_toArray, List.set_cons_zero, List.set_cons_succ])
                            go_cut [95] (fun v95 wc => ∃ (kq : Nat) (x95_38 : Bool), v95 = .bool x95_38 ∧ Aside0 (gouacheref02_one.j2 kq l0 a1 (rd l0 a1) x95_38 = some (r1, r2, r3, r4, r5, r6)) ∧ Aside0 (kq ≤ kj13) ∧ Aside0 (wc.heap[gb101]? = some (.cells #[.int .i64 0, .string (⟨#[]⟩ : ByteArray), .string (⟨#[]⟩ : ByteArray), .bool false, .bool false] 43 (0, 0))) ∧ Aside0 (Below w.heap.size w wc))
                            case first =>
                              have H := HC39.out
                              clear HC39
                              by_cases c42 : (rd l0 a1) = 64
                              · rw [if_pos c42] at H
                                have c42b0 : ((rd l0 a1) == 64) = true := beq_iff_eq.mpr c42
                                have c42b1 : ((rd l0 a1) != 64) = false := bne_eq_false_iff_eq.mpr c42
                                clear c42
                                (first | rw [c42b0] | (simp only [i64_w, i32_w]; rw [c42b0]) | skip)
                                replace H := Option.bind_eq_some_iff.mp H
                                obtain ⟨t118, A430, H⟩ := H
                                replace H : (gouacheref02_one.j2 kj13 l0 a1 (rd l0 a1) t118) = some (r1, r2, r3, r4, r5, r6) := H
                                have A43 := Aside0.mk A430
                                clear A430
                                have H' := Aside0.mk H
                                clear H
                                go_wp2_with (first | (go_at_call 64; (with_reducible refine (gouacheref02_names.calls _ _ l0 (wrap64 (a1 + 1)) t118 _ ?side1 ?side2 A43.out).mono ?_); (case side1 => repeat (first | exact (Kd.C_below HR0.out HB.out) | (with_reducible refine Kd.C_alloc ?_ _) | (with_reducible refine Kd.C_drewN ?_ _) | (with_reducible refine Kd.C_drew ?_))); (case side2 => exact HC0.out); rintro e w' ⟨rfl, ⟨nd, rfl⟩⟩))
                                go_meet
                                case rel => exact ⟨_, (t118), (by first | rfl | (simp; done) | (simp [*]; done)), H', ⟨by have := HJ9.out; have := HJ13.out; first | omega | exact Nat.le_refl _⟩, ⟨by (with_reducible repeat (first | refine blk_drewN ?_ _ | refine blk_drew ?_ | refine blk_alloc ?_ _)); exact BK101.out⟩, ⟨by repeat (first | (with_reducible first | exact HB.out | apply below_alloc | apply pw_below_drewN | apply below_drew1 | refine below_set ?_ GE101.out) | exact HB.out)⟩⟩
                              · rw [if_neg c42] at H
                                have c42b0 : ((rd l0 a1) == 64) = false := beq_eq_false_iff_ne.mpr c42
                                have c42b1 : ((rd l0 a1) != 64) = true := bne_iff_ne.mpr c42
                                (first | rw [c42b0] | (simp only [i64_w, i32_w]; rw [c42b0]) | skip)
                                have H' := Aside0.mk H
                                clear H
                                go_wp2
                                go_meet
                                case rel => exact ⟨_, (false), (by first | rfl | (simp; done) | (simp [*]; done)), H', ⟨by have := HJ9.out; have := HJ13.out; first | omega | exact Nat.le_refl _⟩, ⟨by (with_reducible repeat (first | refine blk_drewN ?_ _ | refine blk_drew ?_ | refine blk_alloc ?_ _)); exact BK101.out⟩, ⟨by repeat (first | (with_reducible first | exact HB.out | apply below_alloc | apply pw_below_drewN | apply below_drew1 | refine below_set ?_ GE101.out) | exact HB.out)⟩⟩
                            case rest =>
                              clear HC39
                              try clear c1
                              try clear p1
                              try clear q1
                              try clear hx1
                              try clear c2
                              try clear p2
                              try clear c3
                              try clear c3b0
                              try clear c4
                              try clear c4b0
                              try clear c5
                              try clear c6
                              try clear p6
                              try clear p10
                              try clear q10
                              try clear hx10
                              try clear c12
                              try clear c12b0
                              try clear c12b1
                              try clear c13
                              try clear c15
                              try clear c15b0
                              try clear c15b1
                              try clear c18
                              try clear c20
                              try clear c22
                              try clear c24
                              try clear c28
                              try clear c33
                              try clear c42
                              try clear c42b0
                              try clear c42b1
                              try clear hcz26_0
                              try clear hcz26_1
                              try clear hcz26_2
                              try clear hcz26_3
                              try clear hcz26_4
                              try clear hcz31_0
                              try clear hcz31_1
                              try clear hcz31_2
                              try clear hcz31_3
                              try clear hcz31_4
                              try clear hcz38_0
                              try clear hcz38_1
                              try clear hcz38_2
                              try clear hcz38_3
                              try clear hcz38_4
                              try clear hcz9_0
                              try clear hcz9_1
                              try clear hcz9_2
                              try clear hcz9_3
                              try clear hcz9_4
                              try clear hfz26_0
                              try clear hfz26_1
                              try clear hfz26_2
                              try clear hfz26_3
                              try clear hfz26_4
                              try clear hfz31_0
                              try clear hfz31_1
                              try clear hfz31_2
                              try clear hfz31_3
                              try clear hfz31_4
                              try clear hfz38_0
                              try clear hfz38_1
                              try clear hfz38_2
                              try clear hfz38_3
                              try clear hfz38_4
                              try clear hfz9_0
                              try clear hfz9_1
                              try clear hfz9_2
                              try clear hfz9_3
                              try clear hfz9_4
                              try clear hx102_0
                              try clear p1
                              try clear p10
                              try clear p102
                              try clear p2
                              try clear p6
                              try clear q1
                              try clear q10
                              try clear q102
                              obtain ⟨kq, x95_38, rfl, HA, HJ38, BK101, HB⟩ := hcut
                              cases kq with
                              | zero => exact absurd HA.out (by simp [gouacheref02_one.j2])
                              | succ kj38 =>
                                have H := HA.out
                                clear HA
                                simp only [gouacheref02_one.j2] at H
                                by_cases c44 : x95_38 = true
                                · subst c44
                                  have H1 : ((gouacheref02_name.f kj38 l0 (wrap64 (a1 + 1))).bind fun bt120 => (some (3, bt120.1, (⟨#[]⟩ : ByteArray), false, false, bt120.2))) = some (r1, r2, r3, r4, r5, r6) := by rw [if_pos rfl] at H; exact H
                                  clear H
                                  have H := H1
                                  clear H1
                                  replace H := Option.bind_eq_some_iff.mp H
                                  obtain ⟨⟨t120, t121⟩, A450, H⟩ := H
                                  replace H : (some (3, t120, (⟨#[]⟩ : ByteArray), false, false, t121)) = some (r1, r2, r3, r4, r5, r6) := H
                                  have A45 := Aside0.mk A450
                                  clear A450
                                  simp only [Option.some.injEq, Prod.mk.injEq] at H
                                  obtain ⟨rfl, rfl, rfl, rfl, rfl, rfl⟩ := H
                                  go_wp2_with (first | ((with_reducible refine gate_dst (N := 8) rfl ?_); refine box_event ?hg (N := 8) ?hd (cs := #[.int .i64 0, .string (⟨#[]⟩ : ByteArray), .string (⟨#[]⟩ : ByteArray), .bool false, .bool false]) (t := 43) ?hr ?_; (case hd => rfl); (case hg => rfl); (case hr => first | (go_simp; done) | (go_simp; rfl)); intro gb119 hg w46 hbox hb; have n0_ := Aside0.mk (blk_below (g := gb101) (o := .cells #[.int .i64 0, .string (⟨#[]⟩ : ByteArray), .string (⟨#[]⟩ : ByteArray), .bool false, .bool false] 43 (0, 0)) (by (with_reducible repeat (first | refine blk_drewN ?_ _ | refine blk_drew ?_ | refine blk_alloc ?_ _)); exact BK101.out) hb); have n1_ := Aside0.mk (below_step (by repeat (first | (with_reducible first | exact HB.out | apply below_alloc | apply pw_below_drewN | apply below_drew1 | refine below_set ?_ GE101.out) | exact HB.out)) hb); have n2_ := Aside0.mk (hbox); have n3_ := Aside0.mk ((by rw [hg]; exact (below_size (by repeat (first | (with_reducible first | exact HB.out | apply below_alloc | apply pw_below_drewN | apply below_drew1 | refine below_set ?_ GE101.out) | exact HB.out))) : w.heap.size ≤ gb119)); have n4_ := Aside0.mk ((by rw [hg]; exact (below_size (by repeat (first | (with_reducible first | exact HB.out | apply below_alloc | apply pw_below_drewN | apply below_drew1 | refine below_set ?_ GE101.out) | exact HB.out))) : w.heap.size ≤ gb119)); have n5_ := Aside0.mk ((by rw [hg]; exact Nat.ne_of_lt (blk_lt (g := gb101) (o := .cells #[.int .i64 0, .string (⟨#[]⟩ : ByteArray), .string (⟨#[]⟩ : ByteArray), .bool false, .bool false] 43 (0, 0)) (by (with_reducible repeat (first | refine blk_drewN ?_ _ | refine blk_drew ?_ | refine blk_alloc ?_ _)); exact BK101.out)) : gb101 ≠ gb119)); have n6_ := Aside0.mk ((by rw [hg]; exact Nat.ne_of_gt (blk_lt (g := gb101) (o := .cells #[.int .i64 0, .string (⟨#[]⟩ : ByteArray), .string (⟨#[]⟩ : ByteArray), .bool false, .bool false] 43 (0, 0)) (by (with_reducible repeat (first | refine blk_drewN ?_ _ | refine blk_drew ?_ | refine blk_alloc ?_ _)); exact BK101.out)) : gb119 ≠ gb101)); clear BK101; clear HB; have BK101 := n0_; have HB := n1_; have BK119 := n2_; have GW119 := n3_; have GE119 := n4_; have NB101_119 := n5_; have NB119_101 := n6_; clear n0_ n1_ n2_ n3_ n4_ n5_ n6_; clear hb hbox hg; have hnb47 := NB119_101.out; have hnc47 := NB101_119.out; have hcz48_0 : w46.cell? ⟨gb119, 0, none⟩ = some (.int .i64 0) := (blk_cell BK119.out 0).trans rfl; have hcz48_1 : w46.cell? ⟨gb119, 1, none⟩ = some (.string (⟨#[]⟩ : ByteArray)) := (blk_cell BK119.out 1).trans rfl; have hcz48_2 : w46.cell? ⟨gb119, 2, none⟩ = some (.string (⟨#[]⟩ : ByteArray)) := (blk_cell BK119.out 2).trans rfl; have hcz48_3 : w46.cell? ⟨gb119, 3, none⟩ = some (.bool false) := (blk_cell BK119.out 3).trans rfl; have hcz48_4 : w46.cell? ⟨gb119, 4, none⟩ = some (.bool false) := (blk_cell BK119.out 4).trans rfl; have hfz48_0 := blk_frozen BK119.out 0; have hfz48_1 := blk_frozen BK119.out 1; have hfz48_2 := blk_frozen BK119.out 2; have hfz48_3 := blk_frozen BK119.out 3; have hfz48_4 := blk_frozen BK119.out 4) | ((with_reducible refine gate_callee (f := 65) rfl ?_); refine goesL_ (some 109) rfl rfl Try.func65 (by kernel_rfl) rfl #[.slice (some ad102) l0.length c0, .int .i64 (wrap64 (a1 + 1))] rfl (by (try simp only [List.map_toArray, List.map_cons, List.map_nil]); first | done | rfl | (simp only [List.length_drop, List.length_take]; rfl)) ?_; (with_reducible refine (gouacheref02_name.calls kj38 _ _ l0 (wrap64 (a1 + 1)) t120 t121 _ ?side1 ?side2 A45.out).mono ?_); (case side1 => exact Kd.C_below HR0.out (by repeat (first | (with_reducible first | exact HB.out | apply below_alloc | apply pw_below_drewN | apply below_drew1 | refine below_set ?_ GE101.out | refine below_set ?_ GE119.out) | exact HB.out))); (case side2 => exact HC0.out); rintro e w49 ⟨rfl, hb⟩; refine ⟨_, rfl, ?_⟩; have n0_ := Aside0.mk (blk_below (g := gb101) (o := .cells #[.int .i64 0, .string (⟨#[]⟩ : ByteArray), .string (⟨#[]⟩ : ByteArray), .bool false, .bool false] 43 (0, 0)) (by (with_reducible repeat (first | refine blk_drewN ?_ _ | refine blk_drew ?_ | refine blk_alloc ?_ _)); refine blk_far ?_ NB101_119.out _; (with_reducible repeat (first | refine blk_drewN ?_ _ | refine blk_drew ?_ | refine blk_alloc ?_ _)); refine blk_far ?_ NB101_119.out _; (with_reducible repeat (first | refine blk_drewN ?_ _ | refine blk_drew ?_ | refine blk_alloc ?_ _)); refine blk_far ?_ NB101_119.out _; (with_reducible repeat (first | refine blk_drewN ?_ _ | refine blk_drew ?_ | refine blk_alloc ?_ _)); refine blk_far ?_ NB101_119.out _; (with_reducible repeat (first | refine blk_drewN ?_ _ | refine blk_drew ?_ | refine blk_alloc ?_ _)); refine blk_far ?_ NB101_119.out _; (with_reducible repeat (first | refine blk_drewN ?_ _ | refine blk_drew ?_ | refine blk_alloc ?_ _)); exact BK101.out) hb); have n1_ := Aside0.mk (blk_below (g := gb119) (o := .cells #[.int .i64 3, .string (⟨#[]⟩ : ByteArray), .string (⟨#[]⟩ : ByteArray), .bool false, .bool false] 43 (0, 0)) (by (with_reducible repeat (first | refine blk_drewN ?_ _ | refine blk_drew ?_ | refine blk_alloc ?_ _)); refine blk_put (cs := #[.int .i64 3, .string (⟨#[]⟩ : ByteArray), .string (⟨#[]⟩ : ByteArray), .bool false, .bool false]) ?_ 4 _ rfl; (with_reducible repeat (first | refine blk_drewN ?_ _ | refine blk_drew ?_ | refine blk_alloc ?_ _)); refine blk_put (cs := #[.int .i64 3, .string (⟨#[]⟩ : ByteArray), .string (⟨#[]⟩ : ByteArray), .bool false, .bool false]) ?_ 3 _ rfl; (with_reducible repeat (first | refine blk_drewN ?_ _ | refine blk_drew ?_ | refine blk_alloc ?_ _)); refine blk_put (cs := #[.int .i64 3, .string (⟨#[]⟩ : ByteArray), .string (⟨#[]⟩ : ByteArray), .bool false, .bool false]) ?_ 2 _ rfl; (with_reducible repeat (first | refine blk_drewN ?_ _ | refine blk_drew ?_ | refine blk_alloc ?_ _)); refine blk_put (cs := #[.int .i64 3, .string (⟨#[]⟩ : ByteArray), .string (⟨#[]⟩ : ByteArray), .bool false, .bool false]) ?_ 1 _ rfl; (with_reducible repeat (first | refine blk_drewN ?_ _ | refine blk_drew ?_ | refine blk_alloc ?_ _)); refine blk_put (cs := #[.int .i64 0, .string (⟨#[]⟩ : ByteArray), .string (⟨#[]⟩ : ByteArray), .bool false, .bool false]) ?_ 0 _ rfl; (with_reducible repeat (first | refine blk_drewN ?_ _ | refine blk_drew ?_ | refine blk_alloc ?_ _)); exact BK119.out) hb); have n2_ := Aside0.mk (below_step (by repeat (first | (with_reducible first | exact HB.out | apply below_alloc | apply pw_below_drewN | apply below_drew1 | refine below_set ?_ GE101.out | refine below_set ?_ GE119.out) | exact HB.out)) hb); clear BK101; clear BK119; clear HB; have BK101 := n0_; have BK119 := n1_; have HB := n2_; clear n0_ n1_ n2_; (try clear hb); (try clear hb2); (try clear hk); (try clear hi); have hcz50_0 : w49.cell? ⟨gb119, 0, none⟩ = some (.int .i64 3) := (blk_cell BK119.out 0).trans rfl; have hcz50_1 : w49.cell? ⟨gb119, 1, none⟩ = some (.string (⟨#[]⟩ : ByteArray)) := (blk_cell BK119.out 1).trans rfl; have hcz50_2 : w49.cell? ⟨gb119, 2, none⟩ = some (.string (⟨#[]⟩ : ByteArray)) := (blk_cell BK119.out 2).trans rfl; have hcz50_3 : w49.cell? ⟨gb119, 3, none⟩ = some (.bool false) := (blk_cell BK119.out 3).trans rfl; have hcz50_4 : w49.cell? ⟨gb119, 4, none⟩ = some (.bool false) := (blk_cell BK119.out 4).trans rfl; have hfz50_0 := blk_frozen BK119.out 0; have hfz50_1 := blk_frozen BK119.out 1; have hfz50_2 := blk_frozen BK119.out 2; have hfz50_3 := blk_frozen BK119.out 3; have hfz50_4 := blk_frozen BK119.out 4; have hcz51_0 : w49.cell? ⟨gb101, 0, none⟩ = some (.int .i64 0) := (blk_cell BK101.out 0).trans rfl; have hcz51_1 : w49.cell? ⟨gb101, 1, none⟩ = some (.string (⟨#[]⟩ : ByteArray)) := (blk_cell BK101.out 1).trans rfl; have hcz51_2 : w49.cell? ⟨gb101, 2, none⟩ = some (.string (⟨#[]⟩ : ByteArray)) := (blk_cell BK101.out 2).trans rfl; have hcz51_3 : w49.cell? ⟨gb101, 3, none⟩ = some (.bool false) := (blk_cell BK101.out 3).trans rfl; have hcz51_4 : w49.cell? ⟨gb101, 4, none⟩ = some (.bool false) := (blk_cell BK101.out 4).trans rfl; have hfz51_0 := blk_frozen BK101.out 0; have hfz51_1 := blk_frozen BK101.out 1; have hfz51_2 := blk_frozen BK101.out 2; have hfz51_3 := blk_frozen BK101.out 3; have hfz51_4 := blk_frozen BK101.out 4))
                                  refine bodyPost_ret (results_ct rfl _ _ gb101 43 #[.int .i64 3, .string t120, .string (⟨#[]⟩ : ByteArray), .bool false, .bool false] (0, 0) _ rfl (by (with_reducible repeat (first | refine blk_drewN ?_ _ | refine blk_drew ?_ | refine blk_alloc ?_ _)); refine blk_put (cs := #[.int .i64 3, .string t120, .string (⟨#[]⟩ : ByteArray), .bool false, .bool false]) ?_ 4 _ rfl; (with_reducible repeat (first | refine blk_drewN ?_ _ | refine blk_drew ?_ | refine blk_alloc ?_ _)); refine blk_put (cs := #[.int .i64 3, .string t120, .string (⟨#[]⟩ : ByteArray), .bool false, .bool false]) ?_ 3 _ rfl; (with_reducible repeat (first | refine blk_drewN ?_ _ | refine blk_drew ?_ | refine blk_alloc ?_ _)); refine blk_put (cs := #[.int .i64 3, .string t120, .string (⟨#[]⟩ : ByteArray), .bool false, .bool false]) ?_ 2 _ rfl; (with_reducible repeat (first | refine blk_drewN ?_ _ | refine blk_drew ?_ | refine blk_alloc ?_ _)); refine blk_put (cs := #[.int .i64 3, .string (⟨#[]⟩ : ByteArray), .string (⟨#[]⟩ : ByteArray), .bool false, .bool false]) ?_ 1 _ rfl; (with_reducible repeat (first | refine blk_drewN ?_ _ | refine blk_drew ?_ | refine blk_alloc ?_ _)); refine blk_put (cs := #[.int .i64 0, .string (⟨#[]⟩ : ByteArray), .string (⟨#[]⟩ : ByteArray), .bool false, .bool false]) ?_ 0 _ rfl; (with_reducible repeat (first | refine blk_drewN ?_ _ | refine blk_drew ?_ | refine blk_alloc ?_ _)); refine blk_far ?_ NB101_119.out _; (with_reducible repeat (first | refine blk_drewN ?_ _ | refine blk_drew ?_ | refine blk_alloc ?_ _)); exact BK101.out) Try.underlying43 rfl (by kernel_rfl)) rfl ?_
                                  exact ⟨by first | rfl | (simp [errW_none, errW_some] <;> rfl) | (simp [*, errW_none, errW_some] <;> rfl), by repeat (first | (with_reducible first | exact HB.out | apply below_alloc | apply pw_below_drewN | apply below_drew1 | refine below_set ?_ GE101.out | refine below_set ?_ GE119.out) | exact HB.out)⟩
                                · replace c44 := Bool.eq_false_iff.mpr c44
                                  subst c44
                                  have H1 : ((gouacheref02_sign.f (rd l0 a1)).bind fun t122 => (if t122 > 0 then ((gouacheref02_sign.f (rd l0 a1)).bind fun t123 => (some (t123, (⟨#[]⟩ : ByteArray), (⟨#[]⟩ : ByteArray), false, false, wrap64 (a1 + 1)))) else (some (9, runesBytes (([(rd l0 a1)] : List Int)), (⟨#[]⟩ : ByteArray), false, false, wrap64 (a1 + 1))))) = some (r1, r2, r3, r4, r5, r6) := by rw [if_neg (show ¬ (false = true) by decide)] at H; exact H
                                  clear H
                                  have H := H1
                                  clear H1
                                  replace H := Option.bind_eq_some_iff.mp H
                                  obtain ⟨t122, A520, H⟩ := H
                                  replace H : (if t122 > 0 then ((gouacheref02_sign.f (rd l0 a1)).bind fun t123 => (some (t123, (⟨#[]⟩ : ByteArray), (⟨#[]⟩ : ByteArray), false, false, wrap64 (a1 + 1)))) else (some (9, runesBytes (([(rd l0 a1)] : List Int)), (⟨#[]⟩ : ByteArray), false, false, wrap64 (a1 + 1)))) = some (r1, r2, r3, r4, r5, r6) := H
                                  have A52 := Aside0.mk A520
                                  clear A520
                                  by_cases c53 : t122 > 0
                                  · rw [if_pos c53] at H
                                    have c53b0 : decide (0 < t122) = true := decide_eq_true c53
                                    clear c53
                                    replace H := Option.bind_eq_some_iff.mp H
                                    obtain ⟨t123, A540, H⟩ := H
                                    replace H : (some (t123, (⟨#[]⟩ : ByteArray), (⟨#[]⟩ : ByteArray), false, false, wrap64 (a1 + 1))) = some (r1, r2, r3, r4, r5, r6) := H
                                    have A54 := Aside0.mk A540
                                    clear A540
                                    simp only [Option.some.injEq, Prod.mk.injEq] at H
                                    obtain ⟨rfl, rfl, rfl, rfl, rfl, rfl⟩ := H
                                    go_wp2_with (first | ((with_reducible refine gate_callee (f := 69) rfl ?_); refine goesL_ (some 117) rfl rfl Try.func69 (by kernel_rfl) rfl #[.int .i32 (rd l0 a1)] rfl (by (try simp only [List.map_toArray, List.map_cons, List.map_nil]); first | done | rfl | (simp only [List.length_drop, List.length_take]; rfl)) ?_; (with_reducible refine (gouacheref02_sign.calls (rd l0 a1) t122 _ A52.out).mono ?_); rintro e w' ⟨rfl, ⟨nd, rfl⟩⟩; refine ⟨_, rfl, ?_⟩; (try (rw [drewN_self wc]; generalize hq_ : World.drewN wc _ = wc; have n0_ : Aside0 (wc.heap[gb101]? = some (.cells #[.int .i64 0, .string (⟨#[]⟩ : ByteArray), .string (⟨#[]⟩ : ByteArray), .bool false, .bool false] 43 (0, 0))) := ⟨by rw [← hq_]; exact (by (with_reducible repeat (first | refine blk_drewN ?_ _ | refine blk_drew ?_ | refine blk_alloc ?_ _)); exact BK101.out)⟩; have n1_ : Aside0 (Below w.heap.size w wc) := ⟨by rw [← hq_]; exact (by repeat (first | (with_reducible first | exact HB.out | apply below_alloc | apply pw_below_drewN | apply below_drew1 | refine below_set ?_ GE101.out) | exact HB.out))⟩; clear BK101 HB hq_; have BK101 := n0_; have HB := n1_; clear n0_ n1_))) | ((with_reducible refine gate_callee (f := 69) rfl ?_); refine goesL_ (some 120) rfl rfl Try.func69 (by kernel_rfl) rfl #[.int .i32 (rd l0 a1)] rfl (by (try simp only [List.map_toArray, List.map_cons, List.map_nil]); first | done | rfl | (simp only [List.length_drop, List.length_take]; rfl)) ?_; (with_reducible refine (gouacheref02_sign.calls (rd l0 a1) t123 _ A54.out).mono ?_); rintro e w' ⟨rfl, ⟨nd, rfl⟩⟩; refine ⟨_, rfl, ?_⟩; (try (rw [drewN_self wc]; generalize hq_ : World.drewN wc _ = wc; have n0_ : Aside0 (wc.heap[gb101]? = some (.cells #[.int .i64 0, .string (⟨#[]⟩ : ByteArray), .string (⟨#[]⟩ : ByteArray), .bool false, .bool false] 43 (0, 0))) := ⟨by rw [← hq_]; exact (by (with_reducible repeat (first | refine blk_drewN ?_ _ | refine blk_drew ?_ | refine blk_alloc ?_ _)); exact BK101.out)⟩; have n1_ : Aside0 (Below w.heap.size w wc) := ⟨by rw [← hq_]; exact (by repeat (first | (with_reducible first | exact HB.out | apply below_alloc | apply pw_below_drewN | apply below_drew1 | refine below_set ?_ GE101.out) | exact HB.out))⟩; clear BK101 HB hq_; have BK101 := n0_; have HB := n1_; clear n0_ n1_)); have hcz55_0 : wc.cell? ⟨gb101, 0, none⟩ = some (.int .i64 0) := (blk_cell BK101.out 0).trans rfl; have hcz55_1 : wc.cell? ⟨gb101, 1, none⟩ = some (.string (⟨#[]⟩ : ByteArray)) := (blk_cell BK101.out 1).trans rfl; have hcz55_2 : wc.cell? ⟨gb101, 2, none⟩ = some (.string (⟨#[]⟩ : ByteArray)) := (blk_cell BK101.out 2).trans rfl; have hcz55_3 : wc.cell? ⟨gb101, 3, none⟩ = some (.bool false) := (blk_cell BK101.out 3).trans rfl; have hcz55_4 : wc.cell? ⟨gb101, 4, none⟩ = some (.bool false) := (blk_cell BK101.out 4).trans rfl; have hfz55_0 := blk_frozen BK101.out 0; have hfz55_1 := blk_frozen BK101.out 1; have hfz55_2 := blk_frozen BK101.out 2; have hfz55_3 := blk_frozen BK101.out 3; have hfz55_4 := blk_frozen BK101.out 4))
                                    refine bodyPost_ret (results_ct rfl _ _ gb101 43 #[.int .i64 t123, .string (⟨#[]⟩ : ByteArray), .string (⟨#[]⟩ : ByteArray), .bool false, .bool false] (0, 0) _ rfl (by (with_reducible repeat (first | refine blk_drewN ?_ _ | refine blk_drew ?_ | refine blk_alloc ?_ _)); refine blk_put (cs := #[.int .i64 t123, .string (⟨#[]⟩ : ByteArray), .string (⟨#[]⟩ : ByteArray), .bool false, .bool false]) ?_ 4 _ rfl; (with_reducible repeat (first | refine blk_drewN ?_ _ | refine blk_drew ?_ | refine blk_alloc ?_ _)); refine blk_put (cs := #[.int .i64 t123, .string (⟨#[]⟩ : ByteArray), .string (⟨#[]⟩ : ByteArray), .bool false, .bool false]) ?_ 3 _ rfl; (with_reducible repeat (first | refine blk_drewN ?_ _ | refine blk_drew ?_ | refine blk_alloc ?_ _)); refine blk_put (cs := #[.int .i64 t123, .string (⟨#[]⟩ : ByteArray), .string (⟨#[]⟩ : ByteArray), .bool false, .bool false]) ?_ 2 _ rfl; (with_reducible repeat (first | refine blk_drewN ?_ _ | refine blk_drew ?_ | refine blk_alloc ?_ _)); refine blk_put (cs := #[.int .i64 t123, .string (⟨#[]⟩ : ByteArray), .string (⟨#[]⟩ : ByteArray), .bool false, .bool false]) ?_ 1 _ rfl; (with_reducible repeat (first | refine blk_drewN ?_ _ | refine blk_drew ?_ | refine blk_alloc ?_ _)); refine blk_put (cs := #[.int .i64 0, .string (⟨#[]⟩ : ByteArray), .string (⟨#[]⟩ : ByteArray), .bool false, .bool false]) ?_ 0 _ rfl; (with_reducible repeat (first | refine blk_drewN ?_ _ | refine blk_drew ?_ | refine blk_alloc ?_ _)); exact BK101.out) Try.underlying43 rfl (by kernel_rfl)) rfl ?_
                                    exact ⟨by first | rfl | (simp [errW_none, errW_some] <;> rfl) | (simp [*, errW_none, errW_some] <;> rfl), by repeat (first | (with_reducible first | exact HB.out | apply below_alloc | apply pw_below_drewN | apply below_drew1 | refine below_set ?_ GE101.out) | exact HB.out)⟩
                                  · rw [if_neg c53] at H
                                    have c53b0 : decide (0 < t122) = false := decide_eq_false c53
                                    clear c53
                                    obtain ⟨y124, hy124⟩ : ∃ y_ : List Int, y_ = (([(rd l0 a1)] : List Int)) := ⟨_, rfl⟩
                                    replace H : (some (9, runesBytes y124, (⟨#[]⟩ : ByteArray), false, false, wrap64 (a1 + 1))) = some (r1, r2, r3, r4, r5, r6) := by first | (rw [hy124]; with_reducible exact H) | (have H2_ := (Option.bind_some _ _).symm.trans H; rw [hy124]; with_reducible exact H2_) | (have H2_ := (Option.bind_some _ _).symm.trans H; with_reducible exact H2_) | with_reducible exact H | (rw [hy124]; exact H) | exact H
                                    have Ny124 := Aside0.mk hy124
                                    clear hy124
                                    simp only [Option.some.injEq, Prod.mk.injEq] at H
                                    obtain ⟨rfl, rfl, rfl, rfl, rfl, rfl⟩ := H
                                    go_wp2_with (first | ((with_reducible refine gate_callee (f := 69) rfl ?_); refine goesL_ (some 117) rfl rfl Try.func69 (by kernel_rfl) rfl #[.int .i32 (rd l0 a1)] rfl (by (try simp only [List.map_toArray, List.map_cons, List.map_nil]); first | done | rfl | (simp only [List.length_drop, List.length_take]; rfl)) ?_; (with_reducible refine (gouacheref02_sign.calls (rd l0 a1) t122 _ A52.out).mono ?_); rintro e w' ⟨rfl, ⟨nd, rfl⟩⟩; refine ⟨_, rfl, ?_⟩; (try (rw [drewN_self wc]; generalize hq_ : World.drewN wc _ = wc; have n0_ : Aside0 (wc.heap[gb101]? = some (.cells #[.int .i64 0, .string (⟨#[]⟩ : ByteArray), .string (⟨#[]⟩ : ByteArray), .bool false, .bool false] 43 (0, 0))) := ⟨by rw [← hq_]; exact (by (with_reducible repeat (first | refine blk_drewN ?_ _ | refine blk_drew ?_ | refine blk_alloc ?_ _)); exact BK101.out)⟩; have n1_ : Aside0 (Below w.heap.size w wc) := ⟨by rw [← hq_]; exact (by repeat (first | (with_reducible first | exact HB.out | apply below_alloc | apply pw_below_drewN | apply below_drew1 | refine below_set ?_ GE101.out) | exact HB.out))⟩; clear BK101 HB hq_; have BK101 := n0_; have HB := n1_; clear n0_ n1_))) | ((with_reducible refine gate_dst (N := 125) rfl ?_); refine Kd.R_lit (Kd.int .i32) _ 21 ?hg (N := 125) ?hd (xs := ([(rd l0 a1)] : List Int)) (inner := [.int .i32 (rd l0 a1)]) (ok := fun _ => True) (okp := fun _ => True) ?hr ?hp (fun _ hk => hk) trivial (Below.refl _ _) (Nat.le_refl _) (by simp) ?_; (case hd => rfl); (case hg => rfl); (case hr => first | (go_simp; done) | (go_simp; rfl)); (case hp => exact (Reps.one (show Kd.M (Kd.int .i32) _ _ _ (rd l0 a1) [.int .i32 (rd l0 a1)] from rfl) (Reps.none _ _))); intro v125 w56 ho57 hb hg_ hnew_; clear hg_ hnew_; (first | rw [← Ny124.out] at ho57 | (simp only [Int.reduceToNat] at ho57; rw [← Ny124.out] at ho57)); have n0_ := Aside0.mk (Kd.R_lower ho57 (below_size (by repeat (first | (with_reducible first | exact HB.out | apply below_alloc | apply pw_below_drewN | apply below_drew1 | refine below_set ?_ GE101.out) | exact HB.out)))); have n1_ := Aside0.mk (blk_below (g := gb101) (o := .cells #[.int .i64 0, .string (⟨#[]⟩ : ByteArray), .string (⟨#[]⟩ : ByteArray), .bool false, .bool false] 43 (0, 0)) (by (with_reducible repeat (first | refine blk_drewN ?_ _ | refine blk_drew ?_ | refine blk_alloc ?_ _)); exact BK101.out) hb); have n2_ := Aside0.mk (below_step (by repeat (first | (with_reducible first | exact HB.out | apply below_alloc | apply pw_below_drewN | apply below_drew1 | refine below_set ?_ GE101.out) | exact HB.out)) hb); clear BK101; clear HB; have HO126 := n0_; have BK101 := n1_; have HB := n2_; clear n0_ n1_ n2_; clear hb ho57; have hcv58 := own_runes (P := Try.prog) Try.underlying71 Try.underlying21 Try.underlying9 (Kd.own_of_R HO126.out); have hcv59 := fun (n_ : Nat) => own_runes (P := Try.prog) Try.underlying71 Try.underlying21 Try.underlying9 (pw_own_drewN (Kd.own_of_R HO126.out) n_); have hcz60_0 : w56.cell? ⟨gb101, 0, none⟩ = some (.int .i64 0) := (blk_cell BK101.out 0).trans rfl; have hcz60_1 : w56.cell? ⟨gb101, 1, none⟩ = some (.string (⟨#[]⟩ : ByteArray)) := (blk_cell BK101.out 1).trans rfl; have hcz60_2 : w56.cell? ⟨gb101, 2, none⟩ = some (.string (⟨#[]⟩ : ByteArray)) := (blk_cell BK101.out 2).trans rfl; have hcz60_3 : w56.cell? ⟨gb101, 3, none⟩ = some (.bool false) := (blk_cell BK101.out 3).trans rfl; have hcz60_4 : w56.cell? ⟨gb101, 4, none⟩ = some (.bool false) := (blk_cell BK101.out 4).trans rfl; have hfz60_0 := blk_frozen BK101.out 0; have hfz60_1 := blk_frozen BK101.out 1; have hfz60_2 := blk_frozen BK101.out 2; have hfz60_3 := blk_frozen BK101.out 3; have hfz60_4 := blk_frozen BK101.out 4))
                                    refine bodyPost_ret (results_ct rfl _ _ gb101 43 #[.int .i64 9, .string (runesBytes y124), .string (⟨#[]⟩ : ByteArray), .bool false, .bool false] (0, 0) _ rfl (by (with_reducible repeat (first | refine blk_drewN ?_ _ | refine blk_drew ?_ | refine blk_alloc ?_ _)); refine blk_put (cs := #[.int .i64 9, .string (runesBytes y124), .string (⟨#[]⟩ : ByteArray), .bool false, .bool false]) ?_ 4 _ rfl; (with_reducible repeat (first | refine blk_drewN ?_ _ | refine blk_drew ?_ | refine blk_alloc ?_ _)); refine blk_put (cs := #[.int .i64 9, .string (runesBytes y124), .string (⟨#[]⟩ : ByteArray), .bool false, .bool false]) ?_ 3 _ rfl; (with_reducible repeat (first | refine blk_drewN ?_ _ | refine blk_drew ?_ | refine blk_alloc ?_ _)); refine blk_put (cs := #[.int .i64 9, .string (runesBytes y124), .string (⟨#[]⟩ : ByteArray), .bool false, .bool false]) ?_ 2 _ rfl; (with_reducible repeat (first | refine blk_drewN ?_ _ | refine blk_drew ?_ | refine blk_alloc ?_ _)); refine blk_put (cs := #[.int .i64 9, .string (⟨#[]⟩ : ByteArray), .string (⟨#[]⟩ : ByteArray), .bool false, .bool false]) ?_ 1 _ rfl; (with_reducible repeat (first | refine blk_drewN ?_ _ | refine blk_drew ?_ | refine blk_alloc ?_ _)); refine blk_put (cs := #[.int .i64 0, .string (⟨#[]⟩ : ByteArray), .string (⟨#[]⟩ : ByteArray), .bool false, .bool false]) ?_ 0 _ rfl; (with_reducible repeat (first | refine blk_drewN ?_ _ | refine blk_drew ?_ | refine blk_alloc ?_ _)); exact BK101.out) Try.underlying43 rfl (by kernel_rfl)) rfl ?_
                                    exact ⟨by first | rfl | (simp [errW_none, errW_some] <;> rfl) | (simp [*, errW_none, errW_some] <;> rfl), by repeat (first | (with_reducible first | exact HB.out | apply below_alloc | apply pw_below_drewN | apply below_drew1 | refine below_set ?_ GE101.out) | exact HB.out)⟩
    · rw [if_neg c4] at H
      exact absurd H (by simp)
  · rw [if_neg c3] at H
    exact absurd H (by simp)
end Go.Proofs.Ythaaajpmiofodaa.P
end
section
set_option linter.unusedVariables false
set_option linter.unusedSimpArgs false
namespace Go.Proofs.Ythaaajpmiofodaa.P
open Go.RowKit Go.Proofs.YthaaajpmiofodaaW.PrintWords Go.Proofs.YthaaajpmiofodaaW.PrintLast Go.Proofs.YthaaajpmiofodaaW.PrintMore
attribute [local go_sem] max2_int min2_int max_two min_two max_three min_three max_four min_four
set_option linter.unusedVariables false
set_option linter.unusedSimpArgs false
def gouacheref02_Tokens.l0 : Nat → List Int → List (S43) → Int → Option ((List (S43)))
  | 0, _, _, _ => none
  | k + 1, x0, x3, x4 => if x4 < (x0.length : Int) then ((gouacheref02_starts.f x0 x4 (⟨#[47, 42]⟩ : ByteArray)).bind fun t101 => (if t101 = true then (none) else ((gouacheref02_one.f k x0 x4).bind fun bt103 => (if x3.length < 2932031007402 then (gouacheref02_Tokens.l0 k x0 (x3 ++ [(⟨bt103.1, bt103.2.1, bt103.2.2.1, bt103.2.2.2.1, bt103.2.2.2.2.1⟩ : S43)]) bt103.2.2.2.2.2) else (none))))) else (some x3)
def gouacheref02_Tokens.f (k : Nat) (l0 : List Int) : Option ((List (S43))) := gouacheref02_Tokens.l0 k l0 ([] : List (S43)) 0
set_option maxHeartbeats 8000000 in
set_option maxRecDepth 100000 in
theorem gouacheref02_Tokens.calls (k : Nat) (A0 : Option Addr) (c0 : Nat) (l0 : List Int) (r : List (S43)) (w : World) (hr0 : Kd.C (Kd.int .i32) w A0 l0.length l0) (hc0 : l0.length ≤ c0) (h : gouacheref02_Tokens.f k l0 = some r) :
    Calls Try.prog 45 #[.slice A0 l0.length c0] w fun e w' => ∃ v0_ : Value, e = .returned (v0_) ∧ Kd.R k43 43 w' w.heap.size (fun _ => True) v0_ r ∧ Below w.heap.size w w' := by
  have hu43 := Try.underlying43
  have HR0 := Aside0.mk hr0
  have HC0 := Aside0.mk hc0
  clear hr0 hc0
  have HB := Aside0.mk (Below.refl w.heap.size w)
  have H : (gouacheref02_Tokens.l0 k l0 ([] : List (S43)) 0) = some r := h
  clear h
  have H' := Aside0.mk H
  clear H
  go_enter Try.func45, Try.ntmps45
  go_wp2
  go_loopg [3, 4] k (fun kq v3 v4 w' => ∃ (x3_1 : List (S43)) (x4_1 : Int), v4 = .int .i64 x4_1 ∧ Aside0 (gouacheref02_Tokens.l0 kq l0 x3_1 x4_1 = some r) ∧ Aside0 (kq ≤ k) ∧ Aside0 (Kd.R k43 43 w' w.heap.size (fun _ => True) v3 x3_1) ∧ Aside0 (Below w.heap.size w w'))
  case atStart => exact ⟨(([] : List (S43))), (0), (by first | rfl | (simp; done) | (simp [*]; done)), H', ⟨Nat.le_refl _⟩, ⟨by first | exact Kd.R_nil _ _ _ _ _ | exact Kd.N_nil _ _ _ _ _ | exact Kd.V_nil _ _ _ _ _ | exact Kd.Q_nil _ _ _ _ _ | exact Kd.S_nil _ _ _ _ _⟩, ⟨by repeat (first | (with_reducible first | exact HB.out | apply below_alloc | apply pw_below_drewN | apply below_drew1) | exact HB.out)⟩⟩
  case round =>
    clear H'
    obtain ⟨x3_1, x4_1, rfl, HA, HK1, HO_3, HB⟩ := hrel
    cases gk with
    | zero => exact absurd HA.out (by simp [gouacheref02_Tokens.l0])
    | succ k1 =>
      have H := HA.out
      clear HA
      simp only [gouacheref02_Tokens.l0] at H
      by_cases c2 : x4_1 < (l0.length : Int)
      · rw [if_pos c2] at H
        have c2b0 : decide (x4_1 < (l0.length : Int)) = true := decide_eq_true c2
        clear c2
        replace H := Option.bind_eq_some_iff.mp H
        obtain ⟨t101, A30, H⟩ := H
        replace H : (if t101 = true then (none) else ((gouacheref02_one.f k1 l0 x4_1).bind fun bt103 => (if x3_1.length < 2932031007402 then (gouacheref02_Tokens.l0 k1 l0 (x3_1 ++ [(⟨bt103.1, bt103.2.1, bt103.2.2.1, bt103.2.2.2.1, bt103.2.2.2.2.1⟩ : S43)]) bt103.2.2.2.2.2) else (none)))) = some r := H
        have A3 := Aside0.mk A30
        clear A30
        by_cases c4 : t101 = true
        · subst c4
          have H1 : (none) = some r := by rw [if_pos rfl] at H; exact H
          clear H
          have H := H1
          clear H1
          exact absurd H (by simp)
        · replace c4 := Bool.eq_false_iff.mpr c4
          subst c4
          have H1 : ((gouacheref02_one.f k1 l0 x4_1).bind fun bt103 => (if x3_1.length < 2932031007402 then (gouacheref02_Tokens.l0 k1 l0 (x3_1 ++ [(⟨bt103.1, bt103.2.1, bt103.2.2.1, bt103.2.2.2.1, bt103.2.2.2.2.1⟩ : S43)]) bt103.2.2.2.2.2) else (none))) = some r := by rw [if_neg (show ¬ (false = true) by decide)] at H; exact H
          clear H
          have H := H1
          clear H1
          replace H := Option.bind_eq_some_iff.mp H
          obtain ⟨⟨t103, t104, t105, t106, t107, t108⟩, A50, H⟩ := H
          replace H : (if x3_1.length < 2932031007402 then (gouacheref02_Tokens.l0 k1 l0 (x3_1 ++ [(⟨t103, t104, t105, t106, t107⟩ : S43)]) t108) else (none)) = some r := H
          have A5 := Aside0.mk A50
          clear A50
          by_cases c6 : x3_1.length < 2932031007402
          · rw [if_pos c6] at H
            have LMc6 := Aside0.mk c6
            clear c6
            obtain ⟨y109, hy109⟩ : ∃ y_ : List (S43), y_ = (x3_1 ++ [(⟨t103, t104, t105, t106, t107⟩ : S43)]) := ⟨_, rfl⟩
            replace H : (gouacheref02_Tokens.l0 k1 l0 y109 t108) = some r := by first | (rw [hy109]; with_reducible exact H) | (have H2_ := (Option.bind_some _ _).symm.trans H; rw [hy109]; with_reducible exact H2_) | (have H2_ := (Option.bind_some _ _).symm.trans H; with_reducible exact H2_) | with_reducible exact H | (rw [hy109]; exact H) | exact H
            have Ny109 := Aside0.mk hy109
            clear hy109
            have H' := Aside0.mk H
            clear H
            go_wp2_with (first | ((with_reducible refine gate_callee (f := 53) rfl ?_); refine goesL_ (some 12) rfl rfl Try.func53 (by kernel_rfl) rfl #[.slice A0 l0.length c0, .int .i64 x4_1, .string (⟨#[47, 42]⟩ : ByteArray)] rfl (by (try simp only [List.map_toArray, List.map_cons, List.map_nil]); first | done | rfl | (simp only [List.length_drop, List.length_take]; rfl)) ?_; (with_reducible refine (gouacheref02_starts.calls _ _ l0 x4_1 (⟨#[47, 42]⟩ : ByteArray) false _ ?side1 ?side2 A3.out).mono ?_); (case side1 => repeat (first | exact (Kd.C_below HR0.out HB.out) | (with_reducible refine Kd.C_alloc ?_ _) | (with_reducible refine Kd.C_drewN ?_ _) | (with_reducible refine Kd.C_drew ?_))); (case side2 => exact HC0.out); rintro e w7 ⟨rfl, hb⟩; refine ⟨_, rfl, ?_⟩; have n0_ := Aside0.mk (Kd.R_below (by (with_reducible repeat (first | apply Kd.R_alloc | apply Kd.R_drewN | apply Kd.R_drew)); exact HO_3.out) hb); have n1_ := Aside0.mk (below_step (by repeat (first | (with_reducible first | exact HB.out | apply below_alloc | apply pw_below_drewN | apply below_drew1) | exact HB.out)) hb); clear HO_3; clear HB; have HO_3 := n0_; have HB := n1_; clear n0_ n1_; (try clear hb); (try clear hb2); (try clear hk); (try clear hi)) | ((with_reducible refine gate_dst (N := 5) rfl ?_); refine box_event ?hg (N := 5) ?hd (cs := #[.int .i64 0, .string (⟨#[]⟩ : ByteArray), .string (⟨#[]⟩ : ByteArray), .bool false, .bool false]) (t := 43) ?hr ?_; (case hd => rfl); (case hg => rfl); (case hr => first | (go_simp; done) | (go_simp; rfl)); intro gb102 hg w8 hbox hb; have n0_ := Aside0.mk (Kd.R_below (Kd.R_elderB (by (with_reducible repeat (first | apply Kd.R_alloc | apply Kd.R_drewN | apply Kd.R_drew)); exact HO_3.out) gb102 (Nat.le_of_eq hg.symm)) hb); have n1_ := Aside0.mk (below_step (by repeat (first | (with_reducible first | exact HB.out | apply below_alloc | apply pw_below_drewN | apply below_drew1) | exact HB.out)) hb); have n2_ := Aside0.mk (hbox); have n3_ := Aside0.mk ((by rw [hg]; exact (below_size (by repeat (first | (with_reducible first | exact HB.out | apply below_alloc | apply pw_below_drewN | apply below_drew1) | exact HB.out))) : w.heap.size ≤ gb102)); have n4_ := Aside0.mk ((by rw [hg]; exact (below_size (by repeat (first | (with_reducible first | exact HB.out | apply below_alloc | apply pw_below_drewN | apply below_drew1) | exact HB.out))) : w.heap.size ≤ gb102)); clear HO_3; clear HB; have HO_3 := n0_; have HB := n1_; have BK102 := n2_; have GW102 := n3_; have GE102 := n4_; clear n0_ n1_ n2_ n3_ n4_; clear hb hbox hg) | ((with_reducible refine gate_callee (f := 55) rfl ?_); refine goesL_ (some 19) rfl rfl Try.func55 (by kernel_rfl) rfl #[.slice A0 l0.length c0, .int .i64 x4_1] rfl (by (try simp only [List.map_toArray, List.map_cons, List.map_nil]); first | done | rfl | (simp only [List.length_drop, List.length_take]; rfl)) ?_; (with_reducible refine (gouacheref02_one.calls k1 _ _ l0 x4_1 t103 t104 t105 t106 t107 t108 _ ?side1 ?side2 A5.out).mono ?_); (case side1 => repeat (first | exact (Kd.C_below HR0.out HB.out) | (with_reducible refine Kd.C_alloc ?_ _) | (with_reducible refine Kd.C_drewN ?_ _) | (with_reducible refine Kd.C_drew ?_))); (case side2 => exact HC0.out); rintro e w9 ⟨rfl, hb⟩; refine ⟨_, rfl, ?_⟩; have n0_ := Aside0.mk (Kd.R_below (by (with_reducible repeat (first | apply Kd.R_alloc | apply Kd.R_drewN | apply Kd.R_drew)); exact HO_3.out) hb); have n1_ := Aside0.mk (blk_below (g := gb102) (o := .cells #[.int .i64 0, .string (⟨#[]⟩ : ByteArray), .string (⟨#[]⟩ : ByteArray), .bool false, .bool false] 43 (0, 0)) (by (with_reducible repeat (first | refine blk_drewN ?_ _ | refine blk_drew ?_ | refine blk_alloc ?_ _)); exact BK102.out) hb); have n2_ := Aside0.mk (below_step (by repeat (first | (with_reducible first | exact HB.out | apply below_alloc | apply pw_below_drewN | apply below_drew1 | refine below_set ?_ GE102.out) | exact HB.out)) hb); clear HO_3; clear BK102; clear HB; have HO_3 := n0_; have BK102 := n1_; have HB := n2_; clear n0_ n1_ n2_; (try clear hb); (try clear hb2); (try clear hk); (try clear hi); have hcz10_0 : w9.cell? ⟨gb102, 0, none⟩ = some (.int .i64 0) := (blk_cell BK102.out 0).trans rfl; have hcz10_1 : w9.cell? ⟨gb102, 1, none⟩ = some (.string (⟨#[]⟩ : ByteArray)) := (blk_cell BK102.out 1).trans rfl; have hcz10_2 : w9.cell? ⟨gb102, 2, none⟩ = some (.string (⟨#[]⟩ : ByteArray)) := (blk_cell BK102.out 2).trans rfl; have hcz10_3 : w9.cell? ⟨gb102, 3, none⟩ = some (.bool false) := (blk_cell BK102.out 3).trans rfl; have hcz10_4 : w9.cell? ⟨gb102, 4, none⟩ = some (.bool false) := (blk_cell BK102.out 4).trans rfl; have hfz10_0 := blk_frozen BK102.out 0; have hfz10_1 := blk_frozen BK102.out 1; have hfz10_2 := blk_frozen BK102.out 2; have hfz10_3 := blk_frozen BK102.out 3; have hfz10_4 := blk_frozen BK102.out 4) | ((with_reducible refine gate_builtin (b := .append) (xs := #[.tmp 22, .tmp 24]) rfl ?_); at_builtin; refine Kd.R_append k43 (w0 := w) w.heap.size rfl (.tmp 22) (.tmp 24) 22 43 (.agg #[(.int .i64 0), (.string ⟨#[]⟩), (.string ⟨#[]⟩), (.bool false), (.bool false)]) 48 rfl Try.underlying22 info43 rfl (by decide) (by omega) u3 x3_1 (⟨t103, t104, t105, t106, t107⟩ : S43) [.int .i64 t103, .string t104, .string t105, .bool t106, .bool t107] (fun k_ => k_ ≠ gb102) (fun _ => False) rfl (by first | (go_simp; done) | (go_simp; rfl)) ?aP (fun _ hk => hk.elim) ?aF ?aO ?aB ?aS ?aL ?_; (case aP => exact k43_mkM _ _ _ (⟨t103, t104, t105, t106, t107⟩ : S43)); (case aB => exact (by repeat (first | (with_reducible first | exact HB.out | apply below_alloc | apply pw_below_drewN | apply below_drew1 | refine below_set ?_ GE102.out) | exact HB.out))); (case aF => exact (fun k_ hk => Kd.freshB (g := gb102) (o := .cells #[.int .i64 t103, .string t104, .string t105, .bool t106, .bool t107] 43 (0, 0)) (by (with_reducible repeat (first | refine blk_drewN ?_ _ | refine blk_drew ?_ | refine blk_alloc ?_ _)); refine blk_put (cs := #[.int .i64 t103, .string t104, .string t105, .bool t106, .bool false]) ?_ 4 _ rfl; (with_reducible repeat (first | refine blk_drewN ?_ _ | refine blk_drew ?_ | refine blk_alloc ?_ _)); refine blk_put (cs := #[.int .i64 t103, .string t104, .string t105, .bool false, .bool false]) ?_ 3 _ rfl; (with_reducible repeat (first | refine blk_drewN ?_ _ | refine blk_drew ?_ | refine blk_alloc ?_ _)); refine blk_put (cs := #[.int .i64 t103, .string t104, .string (⟨#[]⟩ : ByteArray), .bool false, .bool false]) ?_ 2 _ rfl; (with_reducible repeat (first | refine blk_drewN ?_ _ | refine blk_drew ?_ | refine blk_alloc ?_ _)); refine blk_put (cs := #[.int .i64 t103, .string (⟨#[]⟩ : ByteArray), .string (⟨#[]⟩ : ByteArray), .bool false, .bool false]) ?_ 1 _ rfl; (with_reducible repeat (first | refine blk_drewN ?_ _ | refine blk_drew ?_ | refine blk_alloc ?_ _)); refine blk_put (cs := #[.int .i64 0, .string (⟨#[]⟩ : ByteArray), .string (⟨#[]⟩ : ByteArray), .bool false, .bool false]) ?_ 0 _ rfl; (with_reducible repeat (first | refine blk_drewN ?_ _ | refine blk_drew ?_ | refine blk_alloc ?_ _)); exact BK102.out) k_ hk)); (case aO => exact (by (with_reducible repeat (first | apply Kd.R_alloc | apply Kd.R_drewN | apply Kd.R_drew)); exact Kd.R_mono (Kd.R_far (p := ⟨gb102, 4, none⟩) (Kd.R_far (p := ⟨gb102, 3, none⟩) (Kd.R_far (p := ⟨gb102, 2, none⟩) (Kd.R_far (p := ⟨gb102, 1, none⟩) (Kd.R_far (p := ⟨gb102, 0, none⟩) (Kd.R_mono HO_3.out (fun k_ hk => (⟨hk, hk.2⟩ : _ ∧ k_ ≠ gb102))) (fun _ hk => hk.2) (.int .i64 t103)) (fun _ hk => hk.2) (.string t104)) (fun _ hk => hk.2) (.string t105)) (fun _ hk => hk.2) (.bool t106)) (fun _ hk => hk.2) (.bool t107)) (fun _ hk => hk.1.2))); (case aS => exact (below_size (by repeat (first | (with_reducible first | exact HB.out | apply below_alloc | apply pw_below_drewN | apply below_drew1 | refine below_set ?_ GE102.out) | exact HB.out)))); (case aL => have := LMc6.out; omega); intro v110 w11 ho hb hg hat; rw [← Ny109.out] at ho; have n0_ := Aside0.mk (blk_grown (g := gb102) (o := .cells #[.int .i64 t103, .string t104, .string t105, .bool t106, .bool t107] 43 (0, 0)) (by (with_reducible repeat (first | refine blk_drewN ?_ _ | refine blk_drew ?_ | refine blk_alloc ?_ _)); refine blk_put (cs := #[.int .i64 t103, .string t104, .string t105, .bool t106, .bool false]) ?_ 4 _ rfl; (with_reducible repeat (first | refine blk_drewN ?_ _ | refine blk_drew ?_ | refine blk_alloc ?_ _)); refine blk_put (cs := #[.int .i64 t103, .string t104, .string t105, .bool false, .bool false]) ?_ 3 _ rfl; (with_reducible repeat (first | refine blk_drewN ?_ _ | refine blk_drew ?_ | refine blk_alloc ?_ _)); refine blk_put (cs := #[.int .i64 t103, .string t104, .string (⟨#[]⟩ : ByteArray), .bool false, .bool false]) ?_ 2 _ rfl; (with_reducible repeat (first | refine blk_drewN ?_ _ | refine blk_drew ?_ | refine blk_alloc ?_ _)); refine blk_put (cs := #[.int .i64 t103, .string (⟨#[]⟩ : ByteArray), .string (⟨#[]⟩ : ByteArray), .bool false, .bool false]) ?_ 1 _ rfl; (with_reducible repeat (first | refine blk_drewN ?_ _ | refine blk_drew ?_ | refine blk_alloc ?_ _)); refine blk_put (cs := #[.int .i64 0, .string (⟨#[]⟩ : ByteArray), .string (⟨#[]⟩ : ByteArray), .bool false, .bool false]) ?_ 0 _ rfl; (with_reducible repeat (first | refine blk_drewN ?_ _ | refine blk_drew ?_ | refine blk_alloc ?_ _)); exact BK102.out) hg (Kd.R_away HO_3.out (fun _ hk => hk.2))); have n1_ := Aside0.mk (hb); have n2_ := Aside0.mk (ho); clear BK102; clear HB; clear HO_3; have BK102 := n0_; have HB := n1_; have HO111 := n2_; clear n0_ n1_ n2_; clear ho hb hg hat))
            go_roundg k1
            case measure => have := HK1.out; omega
            case rel => exact ⟨(y109), (t108), (by first | rfl | (simp; done) | (simp [*]; done)), H', ⟨by have := HK1.out; omega⟩, ⟨by (with_reducible repeat (first | apply Kd.R_alloc | apply Kd.R_drewN | apply Kd.R_drew)); exact Kd.R_mono HO111.out (fun _ hk => trivial)⟩, ⟨by repeat (first | (with_reducible first | exact HB.out | apply below_alloc | apply pw_below_drewN | apply below_drew1 | refine below_set ?_ GE102.out) | exact HB.out)⟩⟩
          · rw [if_neg c6] at H
            exact absurd H (by simp)
      · rw [if_neg c2] at H
        have c2b0 : decide (x4_1 < (l0.length : Int)) = false := decide_eq_false c2
        clear c2
        obtain rfl := Option.some.inj H
        go_wp2
        go_ret
        exact ⟨_, by first | rfl | (simp [errW_none, errW_some] <;> rfl) | (simp [*, errW_none, errW_some] <;> rfl), by (with_reducible repeat (first | apply Kd.R_alloc | apply Kd.R_drewN | apply Kd.R_drew)); exact HO_3.out, by repeat (first | (with_reducible first | exact HB.out | apply below_alloc | apply pw_below_drewN | apply below_drew1) | exact HB.out)⟩
end Go.Proofs.Ythaaajpmiofodaa.P
end
section
set_option linter.unusedVariables false
set_option linter.unusedSimpArgs false
namespace Go.Proofs.Ythaaajpmiofodaa.P
open Go.RowKit Go.Proofs.YthaaajpmiofodaaW.PrintWords Go.Proofs.YthaaajpmiofodaaW.PrintLast Go.Proofs.YthaaajpmiofodaaW.PrintMore
attribute [local go_sem] max2_int min2_int max_two min_two max_three min_three max_four min_four
set_option linter.unusedVariables false
set_option linter.unusedSimpArgs false
def parse_closes.f (a0 : Int) : Option (Int) := if a0 = 2 then (some 22) else (if a0 = 19 then (some (wrap64 (a0 + 1))) else (if a0 = 21 then (some (wrap64 (a0 + 1))) else (if a0 = 23 then (some (wrap64 (a0 + 1))) else (some 0))))
set_option maxHeartbeats 8000000 in
set_option maxRecDepth 100000 in
theorem parse_closes.calls (a0 : Int) (r : Int) (w : World) (h : parse_closes.f a0 = some r) :
    Calls Try.prog 38 #[.int .i64 a0] w fun e w' => e = .returned (.int .i64 r) ∧ Drawn0 w w' := by
  have H : (if a0 = 2 then (some 22) else (if a0 = 19 then (some (wrap64 (a0 + 1))) else (if a0 = 21 then (some (wrap64 (a0 + 1))) else (if a0 = 23 then (some (wrap64 (a0 + 1))) else (some 0))))) = some r := h
  clear h
  by_cases c2 : a0 = 2
  · rw [if_pos c2] at H
    have c2b0 : (a0 == 2) = true := beq_iff_eq.mpr c2
    have c2b1 : (a0 != 2) = false := bne_eq_false_iff_eq.mpr c2
    clear c2
    obtain rfl := Option.some.inj H
    go_enter Try.func38, Try.ntmps38
    go_wp2
    go_ret
    exact ⟨by first | rfl | (simp; done) | (simp [*]; done), by repeat (first | exact Drawn0.refl _ | apply Drawn0.step)⟩
  · rw [if_neg c2] at H
    have c2b0 : (a0 == 2) = false := beq_eq_false_iff_ne.mpr c2
    have c2b1 : (a0 != 2) = true := bne_iff_ne.mpr c2
    by_cases c3 : a0 = 19
    · rw [if_pos c3] at H
      have c3b0 : (a0 == 19) = true := beq_iff_eq.mpr c3
      have c3b1 : (a0 != 19) = false := bne_eq_false_iff_eq.mpr c3
      clear c3
      obtain rfl := Option.some.inj H
      go_enter Try.func38, Try.ntmps38
      go_wp2
      go_ret
      exact ⟨by first | rfl | (simp; done) | (simp [*]; done), by repeat (first | exact Drawn0.refl _ | apply Drawn0.step)⟩
    · rw [if_neg c3] at H
      have c3b0 : (a0 == 19) = false := beq_eq_false_iff_ne.mpr c3
      have c3b1 : (a0 != 19) = true := bne_iff_ne.mpr c3
      by_cases c4 : a0 = 21
      · rw [if_pos c4] at H
        have c4b0 : (a0 == 21) = true := beq_iff_eq.mpr c4
        have c4b1 : (a0 != 21) = false := bne_eq_false_iff_eq.mpr c4
        clear c4
        obtain rfl := Option.some.inj H
        go_enter Try.func38, Try.ntmps38
        go_wp2
        go_ret
        exact ⟨by first | rfl | (simp; done) | (simp [*]; done), by repeat (first | exact Drawn0.refl _ | apply Drawn0.step)⟩
      · rw [if_neg c4] at H
        have c4b0 : (a0 == 21) = false := beq_eq_false_iff_ne.mpr c4
        have c4b1 : (a0 != 21) = true := bne_iff_ne.mpr c4
        by_cases c5 : a0 = 23
        · rw [if_pos c5] at H
          have c5b0 : (a0 == 23) = true := beq_iff_eq.mpr c5
          have c5b1 : (a0 != 23) = false := bne_eq_false_iff_eq.mpr c5
          clear c5
          obtain rfl := Option.some.inj H
          go_enter Try.func38, Try.ntmps38
          go_wp2
          go_ret
          exact ⟨by first | rfl | (simp; done) | (simp [*]; done), by repeat (first | exact Drawn0.refl _ | apply Drawn0.step)⟩
        · rw [if_neg c5] at H
          have c5b0 : (a0 == 23) = false := beq_eq_false_iff_ne.mpr c5
          have c5b1 : (a0 != 23) = true := bne_iff_ne.mpr c5
          obtain rfl := Option.some.inj H
          go_enter Try.func38, Try.ntmps38
          go_wp2
          go_ret
          exact ⟨by first | rfl | (simp; done) | (simp [*]; done), by repeat (first | exact Drawn0.refl _ | apply Drawn0.step)⟩
end Go.Proofs.Ythaaajpmiofodaa.P
end
section
set_option linter.unusedVariables false
set_option linter.unusedSimpArgs false
namespace Go.Proofs.Ythaaajpmiofodaa.P
open Go.RowKit Go.Proofs.YthaaajpmiofodaaW.PrintWords Go.Proofs.YthaaajpmiofodaaW.PrintLast Go.Proofs.YthaaajpmiofodaaW.PrintMore
attribute [local go_sem] max2_int min2_int max_two min_two max_three min_three max_four min_four
set_option linter.unusedVariables false
set_option linter.unusedSimpArgs false
def cells43 (x : S43) : Array Value := #[.int .i64 x.f0, .string x.f1, .string x.f2, .bool x.f3, .bool x.f4]
theorem never_closure (x : S43) (w : World) :
    Calls Try.prog 30 #[.agg (cells43 x)] w fun e w' => e = .returned (.bool false) ∧ Below w.heap.size w w' := by
  unfold cells43
  go_enter Try.func30, Try.ntmps30
  go_wp2
  go_ret
  exact ⟨rfl, below_alloc (Below.refl _ _) _⟩
theorem kind_closure (x : S43) (b : Nat) (k : Int) (w : World) (hb : w.cell? ⟨b, 0, none⟩ = some (.int .i64 k)) :
    Calls Try.prog 47 #[.agg (cells43 x), .pointer (some ⟨b, 0, none⟩)] w fun e w' => e = .returned (.bool (x.f0 == k)) ∧ Below w.heap.size w w' := by
  have hlt := World.block_lt_of_cell? _ _ hb
  have hne : b ≠ w.heap.size := Nat.ne_of_lt hlt
  have hb2 := fun o => (below_alloc (Below.refl w.heap.size w) o).cell hlt |>.trans hb
  unfold cells43
  go_enter Try.func47, Try.ntmps47
  go_wp2
  go_ret
  exact ⟨rfl, below_alloc (Below.refl _ _) _⟩
def closeS (a : Int) : Int := if a = 2 then 22 else if a = 19 then 20 else if a = 21 then 22 else if a = 23 then 24 else 0
theorem closes_f (a : Int) : parse_closes.f a = some (closeS a) := by
  unfold parse_closes.f closeS
  have w1 : wrap64 (19 + 1) = 20 := by simp [wrap64]
  have w2 : wrap64 (21 + 1) = 22 := by simp [wrap64]
  have w3 : wrap64 (23 + 1) = 24 := by simp [wrap64]
  by_cases h1 : a = 2
  · simp [h1]
  · by_cases h2 : a = 19
    · subst h2; simp [wrap64]
    · by_cases h3 : a = 21
      · subst h3; simp [wrap64]
      · by_cases h4 : a = 23
        · subst h4; simp [wrap64]
        · simp [h1, h2, h3, h4]
def valsF : Nat → List S43 → Int → Int → List S45 × List S43
  | 0, l, _, _ => ([], l)
  | _ + 1, [], _, _ => ([], [])
  | k + 1, t :: r, nest, close =>
    if close ≠ 0 ∧ t.f0 = close then ([], r)
    else if closeS t.f0 = 0 then ((⟨t, []⟩ : S45) :: (valsF k r nest close).1, (valsF k r nest close).2)
    else if nest ≥ 64 then valsF k (valsF k r (nest + 1) (closeS t.f0)).2 nest close
    else ((⟨t, (valsF k r (nest + 1) (closeS t.f0)).1⟩ : S45) :: (valsF k (valsF k r (nest + 1) (closeS t.f0)).2 nest close).1, (valsF k (valsF k r (nest + 1) (closeS t.f0)).2 nest close).2)
theorem valsF_len : ∀ (k : Nat) (l : List S43) (nest close : Int), (valsF k l nest close).2.length ≤ l.length
  | 0, _, _, _ => Nat.le_refl _
  | _ + 1, [], _, _ => Nat.le_refl _
  | k + 1, t :: r, nest, close => by
    have h1 := valsF_len k r nest close
    have h2 := valsF_len k r (nest + 1) (closeS t.f0)
    have h3 := valsF_len k (valsF k r (nest + 1) (closeS t.f0)).2 nest close
    unfold valsF
    split
    · simp
    · split
      · simp; omega
      · split
        · simp; omega
        · simp; omega
theorem valsF_count : ∀ (k : Nat) (l : List S43) (nest close : Int), (valsF k l nest close).1.length ≤ l.length
  | 0, _, _, _ => Nat.zero_le _
  | _ + 1, [], _, _ => Nat.le_refl _
  | k + 1, t :: r, nest, close => by
    have h1 := valsF_count k r nest close
    have h2 := valsF_len k r (nest + 1) (closeS t.f0)
    have h3 := valsF_count k (valsF k r (nest + 1) (closeS t.f0)).2 nest close
    unfold valsF
    split
    · simp
    · split
      · simp; omega
      · split
        · simp; omega
        · simp; omega
theorem valsF_any : ∀ (k k' : Nat) (l : List S43) (nest close : Int), l.length < k → l.length < k' → valsF k l nest close = valsF k' l nest close
  | 0, _, _, _, _, h, _ => absurd h (by omega)
  | _ + 1, 0, _, _, _, _, h => absurd h (by omega)
  | _ + 1, _ + 1, [], _, _, _, _ => rfl
  | k + 1, k' + 1, t :: r, nest, close, h, h' => by
    have hr : r.length < k := by simp at h; omega
    have hr' : r.length < k' := by simp at h'; omega
    have h1 := valsF_any k k' r nest close hr hr'
    have h2 := valsF_any k k' r (nest + 1) (closeS t.f0) hr hr'
    have hl := valsF_len k' r (nest + 1) (closeS t.f0)
    have h3 := valsF_any k k' (valsF k' r (nest + 1) (closeS t.f0)).2 nest close (by omega) (by omega)
    unfold valsF
    rw [h1, h2, h3]
theorem elem43 {W : World} {A : Option Addr} {n : Nat} {l : List S43} (h : Kd.C k43 W A n l) (i : Nat) (hi : i < n) : ∃ ad, A = some ad ∧
    W.cell? (ad.add (i * 5)) = some (.int .i64 (rd_T43 l i).f0) ∧ W.cell? ⟨(ad.add (i * 5)).block, (ad.add (i * 5)).off + 1, none⟩ = some (.string (rd_T43 l i).f1) ∧ W.cell? ⟨(ad.add (i * 5)).block, (ad.add (i * 5)).off + 2, none⟩ = some (.string (rd_T43 l i).f2) ∧
    W.cell? ⟨(ad.add (i * 5)).block, (ad.add (i * 5)).off + 3, none⟩ = some (.bool (rd_T43 l i).f3) ∧ W.cell? ⟨(ad.add (i * 5)).block, (ad.add (i * 5)).off + 4, none⟩ = some (.bool (rd_T43 l i).f4) := by
  have := at_T43 h i (by omega) (by omega)
  simpa only [Int.toNat_natCast] using this
end Go.Proofs.Ythaaajpmiofodaa.P
end
section
set_option linter.unusedVariables false
set_option linter.unusedSimpArgs false
namespace Go.Proofs.Ythaaajpmiofodaa.P
open Go.RowKit Go.Proofs.YthaaajpmiofodaaW.PrintWords Go.Proofs.YthaaajpmiofodaaW.PrintLast Go.Proofs.YthaaajpmiofodaaW.PrintMore
attribute [local go_sem] max2_int min2_int max_two min_two max_three min_three max_four min_four
set_option linter.unusedVariables false
set_option linter.unusedSimpArgs false
def cutS (A : Option Addr) (n c : Nat) (i : Nat) : Obj := .cells #[.slice A n c, .int .i64 i] 54 (0, 0)
def Ends (w : World) (g : Nat) (fn : Nat) (caps : Array Value) (close : Int) : Prop :=
  (fn = 30 ∧ caps = #[] ∧ close = 0) ∨ (fn = 47 ∧ close ≠ 0 ∧ ∃ b, b ≠ g ∧ caps = #[.pointer (some ⟨b, 0, none⟩)] ∧ w.cell? ⟨b, 0, none⟩ = some (.int .i64 close))
theorem grown_step {w a b : World} {r : Option Nat} (h : w.grownBy a r) (k : Below a.heap.size a b) : w.grownBy b r :=
  ⟨k.os.trans h.os, k.tape.trans h.tape, k.output.trans h.output, Nat.le_trans h.size k.size, fun i hi hr => (k.block i (Nat.lt_of_lt_of_le hi h.size)).trans (h.block i hi hr)⟩
theorem grown_base {w a b : World} {r : Option Nat} (h : w.grownBy a r) (k : Below w.heap.size a b) : w.grownBy b r :=
  ⟨k.os.trans h.os, k.tape.trans h.tape, k.output.trans h.output, Nat.le_trans h.size k.size, fun i hi hr => (k.block i hi).trans (h.block i hi hr)⟩
theorem grown_set {w a : World} {g o : Nat} (h : w.grownBy a (some g)) (v : Value) : w.grownBy (a.setCell ⟨g, o, none⟩ v) (some g) :=
  ⟨h.os, h.tape, h.output, by simpa [World.setCell] using h.size, fun i hi hr => (Below.heap_setCell a ⟨g, o, none⟩ v i (by intro e; exact hr (by rw [e]))).trans (h.block i hi hr)⟩
theorem grown_grown {w a b : World} {r : Option Nat} (h : w.grownBy a r) (k : a.grownBy b r) : w.grownBy b r :=
  ⟨k.os.trans h.os, k.tape.trans h.tape, k.output.trans h.output, Nat.le_trans h.size k.size, fun i hi hr => (k.block i (Nat.lt_of_lt_of_le hi h.size) hr).trans (h.block i hi hr)⟩
def isEnd (close : Int) (x : S43) : Bool := decide (close ≠ 0) && (x.f0 == close)
set_option maxHeartbeats 8000000 in
set_option maxRecDepth 100000 in
theorem values_calls : ∀ (N : Nat) (g : Nat) (A : Option Addr) (c : Nat) (L : List S43) (i : Nat) (nest : Int) (fn : Nat) (caps : Array Value) (close : Int) (w : World), L.length - i < N → i ≤ L.length → L.length ≤ 1000000000 → 0 ≤ nest → nest + (N : Int) ≤ 2000000000 →
    w.heap[g]? = some (cutS A L.length c i) → (∀ W, w.grownBy W (some g) → Kd.C k43 W A L.length L) → Ends w g fn caps close →
    Calls Try.prog 29 #[.pointer (some ⟨g, 0, none⟩), .int .i64 nest, .func (.func fn) #[] caps] w fun e w' => ∃ v j, e = .returned v ∧ k45.R 45 w' w.heap.size (fun k => w.heap.size ≤ k) v (valsF N (L.drop i) nest close).1 ∧
      w'.heap[g]? = some (cutS A L.length c j) ∧ (valsF N (L.drop i) nest close).2 = L.drop j ∧ j ≤ L.length ∧ i ≤ j ∧ w.grownBy w' (some g) := by
  intro N
  induction N with
  | zero => intro g A c L i nest fn caps close w h; exact absurd h (by omega)
  | succ N ih =>
  intro g A c L i nest fn caps close w hN hi hL hn0 hn1 hg hC hE
  have hu43 := Try.underlying43
  have hu45 := Try.underlying45
  have IH := Aside0.mk ih
  clear ih
  have HC := Aside0.mk hC
  have HG := Aside0.mk hg
  have HCL : Aside0 (∀ (x : S43) (W : World), w.grownBy W (some g) → Calls Try.prog fn (#[.agg (cells43 x)] ++ caps) W fun e w' => e = .returned (.bool (isEnd close x)) ∧ Below W.heap.size W w') := by
    refine ⟨fun x W hw => ?_⟩
    rcases hE with ⟨rfl, rfl, rfl⟩ | ⟨rfl, h0, b, hb, rfl, hc⟩
    · exact never_closure x W
    · have hlt := World.block_lt_of_cell? _ _ hc
      have hc2 : W.cell? ⟨b, 0, none⟩ = some (.int .i64 close) := by
        rw [← hc]
        unfold World.cell?
        rw [hw.block b hlt (by simpa using hb)]
      have := kind_closure x b close W hc2
      unfold isEnd
      rw [decide_eq_true h0, Bool.true_and]
      exact this
  have hfn : (fn = 30 ∧ caps = #[]) ∨ (fn = 47 ∧ ∃ b, caps = #[.pointer (some ⟨b, 0, none⟩)]) := by
    rcases hE with ⟨rfl, rfl, _⟩ | ⟨rfl, _, b, _, rfl, _⟩
    · exact .inl ⟨rfl, rfl⟩
    · exact .inr ⟨rfl, b, rfl⟩
  have HN := Aside0.mk hN
  have HGB := Aside0.mk (blk_lt hg)
  have HI := Aside0.mk hi
  have HLL := Aside0.mk hL
  have HN0 := Aside0.mk hn0
  have HN1 := Aside0.mk hn1
  clear hC hE hg hN hi hL hn0 hn1
  rcases hfn with ⟨rfl, rfl⟩ | ⟨rfl, b, rfl⟩
  all_goals
    simp only [List.append_toArray, List.cons_append, List.nil_append, cells43] at HCL
    go_enter Try.func29, Try.ntmps29
    go_wp2
    go_loopg [7] (L.length - i) (fun gg s7 wr => ∃ (j : Nat) (acc : List S45) (K : Nat), Aside0 (k45.R 45 wr w.heap.size (fun k => w.heap.size ≤ k) s7 acc) ∧ Aside0 (j ≤ L.length) ∧ L.length - j ≤ gg ∧ Aside0 (wr.heap[g]? = some (cutS A L.length c j)) ∧ Aside0 (w.grownBy wr (some g)) ∧ Aside0 (L.length - j < K ∧ i ≤ j ∧ acc ++ (valsF K (L.drop j) nest close).1 = (valsF (N + 1) (L.drop i) nest close).1 ∧ (valsF K (L.drop j) nest close).2 = (valsF (N + 1) (L.drop i) nest close).2))
    case atStart => exact ⟨i, [], N + 1, ⟨Kd.R_nil _ _ _ _ _⟩, HI, Nat.le_refl _, HG, ⟨⟨rfl, rfl, rfl, Nat.le_refl _, fun _ _ _ => rfl⟩⟩, ⟨HN.out, Nat.le_refl _, rfl, rfl⟩⟩
    case round =>
      obtain ⟨j, acc, K, HR, HJ, hgg, HGr, HW, HV⟩ := hrel
      have hc0 : wr.cell? ⟨g, 0, none⟩ = some (.slice A L.length c) := (blk_cell HGr.out 0).trans rfl
      have hc1 : wr.cell? ⟨g, 1, none⟩ = some (.int .i64 j) := (blk_cell HGr.out 1).trans rfl
      by_cases hlt : j < L.length
      · obtain ⟨ad, rfl, h0, h1, h2, h3, h4⟩ := elem43 (HC.out wr HW.out) j hlt
        generalize hx : rd_T43 L (j : Nat) = x at h0 h1 h2 h3 h4
        have HX := Aside0.mk hx
        clear hx
        have hk0 := World.new_ne wr _ hc0
        have hk1 := World.new_ne wr _ hc1
        have hk2 := World.new_ne wr _ h0
        have hk3 := World.new_ne wr _ h1
        have hk4 := World.new_ne wr _ h2
        have hk5 := World.new_ne wr _ h3
        have hk6 := World.new_ne wr _ h4
        have hltz : (j : Int) < (L.length : Int) := by omega
        have hj0 : (0 : Int) ≤ (j : Int) := by omega
        go_wp2
        go_region_held3 (fun w' => w'.cell? ⟨g, 0, none⟩ = some (.slice (some ad) L.length c) ∧ w'.cell? ⟨g, 1, none⟩ = some (.int .i64 j)) (go_keep) (fail)
        go_wp2
        go_region_held3 (fun w' => w'.cell? ⟨g, 0, none⟩ = some (.slice (some ad) L.length c) ∧ w'.cell? ⟨g, 1, none⟩ = some (.int .i64 j) ∧ w'.cell? (ad.add (j * 5)) = some (.int .i64 x.f0) ∧ w'.cell? ⟨(ad.add (j * 5)).block, (ad.add (j * 5)).off + 1, none⟩ = some (.string x.f1) ∧ w'.cell? ⟨(ad.add (j * 5)).block, (ad.add (j * 5)).off + 2, none⟩ = some (.string x.f2) ∧ w'.cell? ⟨(ad.add (j * 5)).block, (ad.add (j * 5)).off + 3, none⟩ = some (.bool x.f3) ∧ w'.cell? ⟨(ad.add (j * 5)).block, (ad.add (j * 5)).off + 4, none⟩ = some (.bool x.f4)) (go_keep) (fail)
        have hgl := (Array.getElem?_eq_some_iff.1 HGr.out).1
        generalize hW8 : World.drew _ = W8
        obtain ⟨g8, hg8⟩ : ∃ g8, g8 = wr.heap.size := ⟨_, rfl⟩
        have hb8 : W8.heap[g8]? = some (.cells #[.int .i64 x.f0, .string x.f1, .string x.f2, .bool x.f3, .bool x.f4] 43 (0, 0)) := by rw [← hW8, hg8]; exact heap_alloc_new _ _
        have hB8 : Below g8 wr W8 := by rw [← hW8, hg8]; repeat (first | exact below_alloc (Below.refl _ _) _ | apply below_drew1)
        rw [← hg8]
        have hgg8 : g ≠ g8 := by omega
        have hgW := (hB8.block g (by omega)).trans HGr.out
        have HB8 := Aside0.mk hB8
        have HB8' := Aside0.mk hb8
        have HG8 := Aside0.mk hg8
        have HGW := Aside0.mk hgW
        have HNE := Aside0.mk hgg8
        clear h0 h1 h2 h3 h4 hk0 hk1 hk2 hk3 hk4 hk5 hk6 hc0 hc1 hW8 hB8 hg8 hgl hb8 hgW
        have hc1 : W8.cell? ⟨g, 1, none⟩ = some (.int .i64 j) := (blk_cell HGW.out 1).trans rfl
        have hf1 : W8.frozen? ⟨g, 1, none⟩ = false := blk_frozen HGW.out 1
        have hp0 : W8.cell? ⟨g8, 0, none⟩ = some (.int .i64 x.f0) := (blk_cell HB8'.out 0).trans rfl
        have hp1 : W8.cell? ⟨g8, 1, none⟩ = some (.string x.f1) := (blk_cell HB8'.out 1).trans rfl
        have hp2 : W8.cell? ⟨g8, 2, none⟩ = some (.string x.f2) := (blk_cell HB8'.out 2).trans rfl
        have hp3 : W8.cell? ⟨g8, 3, none⟩ = some (.bool x.f3) := (blk_cell HB8'.out 3).trans rfl
        have hp4 : W8.cell? ⟨g8, 4, none⟩ = some (.bool x.f4) := (blk_cell HB8'.out 4).trans rfl
        have hjw : (j : Int) + 1 ≤ 4611686018427387904 := by have := HLL.out; omega
        go_wp2_with fail
        have hK : ∃ K', K = K' + 1 := ⟨K - 1, by have := HV.out.1; omega⟩
        obtain ⟨K', rfl⟩ := hK
        have hdr : L.drop j = x :: L.drop (j + 1) := by rw [← HX.out]; simp [rd_T43, List.getD_eq_getElem?_getD, hlt]
        have hg9 : (World.setCell W8 ⟨g, 1, none⟩ (.int .i64 ((j : Int) + 1))).heap[g]? = some (cutS (some ad) L.length c (j + 1)) := blk_set HGW.out 1 _
        have hb9 : (World.setCell W8 ⟨g, 1, none⟩ (.int .i64 ((j : Int) + 1))).heap[g8]? = some (.cells (cells43 x) 43 (0, 0)) := blk_far HB8'.out (Ne.symm HNE.out) _
        have hgr9 : w.grownBy (World.setCell W8 ⟨g, 1, none⟩ (.int .i64 ((j : Int) + 1))) (some g) := grown_set (grown_step HW.out (by rw [← HG8.out]; exact HB8.out)) _
        have hr9 : k45.R 45 (World.setCell W8 ⟨g, 1, none⟩ (.int .i64 ((j : Int) + 1))) w.heap.size (fun k => w.heap.size ≤ k) u7 acc := Kd.R_far (p := ⟨g, 1, none⟩) (Kd.R_below HR.out (by rw [← HG8.out]; exact HB8.out)) (fun k hk => by have := HGB.out; show k ≠ g; omega) _
        generalize World.setCell W8 ⟨g, 1, none⟩ (.int .i64 ((j : Int) + 1)) = W9 at hg9 hb9 hgr9 hr9
        refine (HCL.out x W9 hgr9).mono ?_
        rintro e W10 ⟨rfl, hb10⟩
        have HG10 := Aside0.mk (blk_below hg9 hb10)
        have HB10 := Aside0.mk (blk_below hb9 hb10)
        have HW10 := Aside0.mk (grown_step hgr9 hb10)
        have HR10 := Aside0.mk (Kd.R_below hr9 hb10)
        have HDR := Aside0.mk hdr
        clear hg9 hb9 hgr9 hr9 hb10 hp0 hp1 hp2 hp3 hp4 hc1 hf1 hdr
        clear HR HGr HW HB8 HB8' HGW HG8
        cases hq : isEnd close x with
        | true =>
          have hval : valsF (K' + 1) (L.drop j) nest close = ([], L.drop (j + 1)) := by
            rw [HDR.out]
            unfold valsF
            rw [if_pos (by simpa [isEnd] using hq)]
          clear hq
          have HVV := Aside0.mk hval
          clear hval
          go_wp2
          go_ret
          obtain ⟨hv1, hv2, hv3, hv4⟩ := HV.out
          rw [HVV.out] at hv3 hv4
          simp only [List.append_nil] at hv3
          exact ⟨_, j + 1, rfl, by rw [← hv3]; exact HR10.out, HG10.out, by rw [← hv4], hlt, by omega, HW10.out⟩
        | false =>
          have hp0 : W10.cell? ⟨g8, 0, none⟩ = some (.int .i64 x.f0) := (blk_cell HB10.out 0).trans rfl
          have hp1 : W10.cell? ⟨g8, 1, none⟩ = some (.string x.f1) := (blk_cell HB10.out 1).trans rfl
          have hp2 : W10.cell? ⟨g8, 2, none⟩ = some (.string x.f2) := (blk_cell HB10.out 2).trans rfl
          have hp3 : W10.cell? ⟨g8, 3, none⟩ = some (.bool x.f3) := (blk_cell HB10.out 3).trans rfl
          have hp4 : W10.cell? ⟨g8, 4, none⟩ = some (.bool x.f4) := (blk_cell HB10.out 4).trans rfl
          have hl8 := blk_lt HB10.out
          have HQ := Aside0.mk hq
          clear hq
          go_wp2_with fail
          refine (parse_closes.calls x.f0 (closeS x.f0) _ (closes_f _)).mono ?_
          rintro e W11 ⟨rfl, ⟨nd, rfl⟩⟩
          obtain ⟨g9, hg9⟩ : ∃ g9, g9 = W10.heap.size := ⟨_, rfl⟩
          rw [← hg9]
          have hb11 : (World.drewN (World.alloc W10 (.cells #[.int .i64 x.f0, .string x.f1, .string x.f2, .bool x.f3, .bool x.f4, .slice none 0 0] 45)) nd).heap[g9]? = some (.cells #[.int .i64 x.f0, .string x.f1, .string x.f2, .bool x.f3, .bool x.f4, .slice none 0 0] 45 (0, 0)) := by rw [hg9]; exact heap_alloc_new _ _
          have hB11 : Below W10.heap.size W10 (World.drewN (World.alloc W10 (.cells #[.int .i64 x.f0, .string x.f1, .string x.f2, .bool x.f3, .bool x.f4, .slice none 0 0] 45)) nd) := pw_below_drewN (below_alloc (Below.refl _ _) _) _
          generalize World.drewN (World.alloc W10 (.cells #[.int .i64 x.f0, .string x.f1, .string x.f2, .bool x.f3, .bool x.f4, .slice none 0 0] 45)) nd = W11 at hb11 hB11
          have HB11 := Aside0.mk hb11
          have HG11 := Aside0.mk (blk_below HG10.out hB11)
          have HW11 := Aside0.mk (grown_step HW10.out hB11)
          have HG9 := Aside0.mk (show W10.heap.size = g9 by omega)
          have HS9 := Aside0.mk (show w.heap.size ≤ g9 by have := HW10.out.size; omega)
          have HR11 := Aside0.mk (Kd.R_below (Kd.R_mono (Kd.R_bound HR10.out) (ok' := fun k => w.heap.size ≤ k ∧ k < g9) (fun k hk => ⟨hk.1, by have := hk.2.2.1; have := HG9.out; omega⟩)) hB11)
          have hq0 : W11.cell? ⟨g9, 0, none⟩ = some (.int .i64 x.f0) := (blk_cell HB11.out 0).trans rfl
          have hq1 : W11.cell? ⟨g9, 1, none⟩ = some (.string x.f1) := (blk_cell HB11.out 1).trans rfl
          have hq2 : W11.cell? ⟨g9, 2, none⟩ = some (.string x.f2) := (blk_cell HB11.out 2).trans rfl
          have hq3 : W11.cell? ⟨g9, 3, none⟩ = some (.bool x.f3) := (blk_cell HB11.out 3).trans rfl
          have hq4 : W11.cell? ⟨g9, 4, none⟩ = some (.bool x.f4) := (blk_cell HB11.out 4).trans rfl
          have hq5 : W11.cell? ⟨g9, 5, none⟩ = some (.slice none 0 0) := (blk_cell HB11.out 5).trans rfl
          have hl9 := blk_lt HB11.out
          have hacc : Aside0 (acc.length ≤ L.length) := ⟨by
            have h1 := congrArg List.length HV.out.2.2.1
            have h2 := valsF_count (N + 1) (L.drop i) nest close
            rw [List.length_append] at h1
            rw [List.length_drop] at h2
            omega⟩
          clear hp0 hp1 hp2 hp3 hp4 hl8 hb11 hB11 hg9
          have hnw : nest + 1 ≤ 4611686018427387904 := by have := HN1.out; omega
          have hn0 := HN0.out
          by_cases hcl : closeS x.f0 = 0
          · have HVV := Aside0.mk (show valsF (K' + 1) (L.drop j) nest close = ((⟨x, []⟩ : S45) :: (valsF K' (L.drop (j + 1)) nest close).1, (valsF K' (L.drop (j + 1)) nest close).2) by
              rw [HDR.out]
              conv => lhs; unfold valsF
              rw [if_neg (by have := HQ.out; simpa [isEnd] using this), if_pos hcl])
            have hle : closeS x.f0 ≤ 0 := Int.le_of_eq hcl
            have hz0 : (World.alloc W11 (.cells #[.int .i64 (closeS x.f0)] 3)).cell? ⟨g9, 0, none⟩ = some (.int .i64 x.f0) := (blk_cell (blk_alloc HB11.out _) 0).trans rfl
            have hz1 : (World.alloc W11 (.cells #[.int .i64 (closeS x.f0)] 3)).cell? ⟨g9, 1, none⟩ = some (.string x.f1) := (blk_cell (blk_alloc HB11.out _) 1).trans rfl
            have hz2 : (World.alloc W11 (.cells #[.int .i64 (closeS x.f0)] 3)).cell? ⟨g9, 2, none⟩ = some (.string x.f2) := (blk_cell (blk_alloc HB11.out _) 2).trans rfl
            have hz3 : (World.alloc W11 (.cells #[.int .i64 (closeS x.f0)] 3)).cell? ⟨g9, 3, none⟩ = some (.bool x.f3) := (blk_cell (blk_alloc HB11.out _) 3).trans rfl
            have hz4 : (World.alloc W11 (.cells #[.int .i64 (closeS x.f0)] 3)).cell? ⟨g9, 4, none⟩ = some (.bool x.f4) := (blk_cell (blk_alloc HB11.out _) 4).trans rfl
            have hz5 : (World.alloc W11 (.cells #[.int .i64 (closeS x.f0)] 3)).cell? ⟨g9, 5, none⟩ = some (.slice none 0 0) := (blk_cell (blk_alloc HB11.out _) 5).trans rfl
            clear hcl hjw hltz hj0 hnw hn0 hl9
            go_wp2_with ((with_reducible refine gate_builtin (b := .append) (xs := #[.tmp 56, .tmp 58]) rfl ?_); at_builtin; refine Kd.R_append k45 (w0 := World.alloc W11 (.cells #[.int .i64 (closeS x.f0)] 3)) w.heap.size rfl (.tmp 56) (.tmp 58) 25 45 (.agg #[(.int .i64 0), (.string ⟨#[]⟩), (.string ⟨#[]⟩), (.bool false), (.bool false), (.slice none 0 0)]) 72 rfl Try.underlying25 info45 rfl (by decide) (by omega) u7 acc (⟨x, []⟩ : S45) [.int .i64 x.f0, .string x.f1, .string x.f2, .bool x.f3, .bool x.f4, .slice none 0 0] (fun k => w.heap.size ≤ k) (fun k => w.heap.size ≤ k ∧ some k ≠ u7.ownBlock) rfl (by first | (go_simp; done) | (go_simp; rfl)) ?aP (fun _ hk => hk) ?aF ?aO ?aB ?aS ?aL ?_; (case aP => exact k45_mkM _ _ _ (⟨x, []⟩ : S45) (Kd.R_nil _ _ _ _ _)); (case aF => exact fun k hk => Nat.le_trans HW11.out.size (Nat.le_trans (by simp) hk)); (case aO => exact Kd.R_alloc (Kd.R_mono HR11.out (fun k hk => hk.1)) _); (case aB => exact Below.refl _ _); (case aS => exact Nat.le_trans HW11.out.size (by simp)); (case aL => have := hacc.out; have := HLL.out; omega); intro v1 W12 ho hb hg hat)
            go_roundg (L.length - (j + 1))
            case measure => omega
            case rel => exact ⟨j + 1, acc ++ [(⟨x, []⟩ : S45)], K', ⟨ho⟩, ⟨hlt⟩, Nat.le_refl _, ⟨blk_grown (blk_alloc HG11.out _) hg (Kd.R_away HR11.out (fun k hk => by have := hk.1; have := HGB.out; omega))⟩, ⟨grown_base (grown_step HW11.out (below_alloc (Below.refl _ _) _)) hb⟩, ⟨by have := HV.out.1; omega, by have := HV.out.2.1; omega, by rw [← HV.out.2.2.1, HVV.out]; simp, by rw [← HV.out.2.2.2, HVV.out]⟩⟩
          · have hcp : 0 < closeS x.f0 := by
              unfold closeS at hcl ⊢
              repeat' split
              all_goals first | omega | simp_all
            have HCP := Aside0.mk hcl
            clear hcl
            go_wp2_with fail
            have hrec := IH.out g (some ad) c L (j + 1) (nest + 1) 47 #[.pointer (some ⟨W11.heap.size, 0, none⟩)] (closeS x.f0) (World.alloc W11 (.cells #[.int .i64 (closeS x.f0)] 3)) (by have := HN.out; have := HV.out.2.1; omega) hlt HLL.out (by omega) (by have := HN1.out; omega)
              (blk_alloc HG11.out _) (fun W hW => HC.out W (grown_grown (grown_step HW11.out (below_alloc (Below.refl _ _) _)) hW)) (.inr ⟨rfl, HCP.out, _, by have := blk_lt HG11.out; omega, rfl, (blk_cell (blk_new W11 _) 0).trans rfl⟩)
            refine hrec.mono ?_
            rintro e W13 ⟨v, j2, rfl, hkids, hg13, hrest, hj2, hjj, hgr⟩
            clear hrec
            have hs12 : (World.alloc W11 (.cells #[.int .i64 (closeS x.f0)] 3)).heap.size = W11.heap.size + 1 := by simp
            rw [hs12] at hkids
            obtain ⟨A5, c5, rfl⟩ := Kd.N_slice (Kd.R_N hkids)
            have HB13 := Aside0.mk ((hgr.block g9 (by omega) (by simpa using (show g9 ≠ g by have := HS9.out; have := HGB.out; omega))).trans (blk_alloc HB11.out _))
            have HR13 := Aside0.mk (Kd.R_grown (Kd.R_alloc HR11.out _) hgr (fun k hk => by simpa using (show k ≠ g by have := hk.1; have := HGB.out; omega)))
            have HW13 := Aside0.mk (grown_grown (grown_step HW11.out (below_alloc (Below.refl _ _) _)) hgr)
            have HK := Aside0.mk hkids
            have HG13 := Aside0.mk hg13
            have HREST := Aside0.mk hrest
            have HL9 := Aside0.mk (show g9 < W13.heap.size by have := hgr.size; omega)
            have HL99 := Aside0.mk hl9
            have hq0 : W13.cell? ⟨g9, 0, none⟩ = some (.int .i64 x.f0) := (blk_cell HB13.out 0).trans rfl
            have hq1 : W13.cell? ⟨g9, 1, none⟩ = some (.string x.f1) := (blk_cell HB13.out 1).trans rfl
            have hq2 : W13.cell? ⟨g9, 2, none⟩ = some (.string x.f2) := (blk_cell HB13.out 2).trans rfl
            have hq3 : W13.cell? ⟨g9, 3, none⟩ = some (.bool x.f3) := (blk_cell HB13.out 3).trans rfl
            have hq4 : W13.cell? ⟨g9, 4, none⟩ = some (.bool x.f4) := (blk_cell HB13.out 4).trans rfl
            have hq5 : W13.cell? ⟨g9, 5, none⟩ = some (.slice none 0 0) := (blk_cell HB13.out 5).trans rfl
            have hf5 : W13.frozen? ⟨g9, 5, none⟩ = false := blk_frozen HB13.out 5
            clear hkids hg13 hrest hgr hl9 hjw hltz hj0 hnw hn0
            have HF1 := Aside0.mk (show valsF N (L.drop (j + 1)) (nest + 1) (closeS x.f0) = valsF K' (L.drop (j + 1)) (nest + 1) (closeS x.f0) from valsF_any _ _ _ _ _ (by rw [List.length_drop]; have := HN.out; have := HV.out.2.1; omega) (by rw [List.length_drop]; have := HV.out.1; omega))
            have hnl := Kd.N_lt (Kd.R_N HR11.out)
            have HU := Aside0.mk hnl
            clear hnl
            generalize hkk : (valsF N (L.drop (j + 1)) (nest + 1) (closeS x.f0)).1 = kids at *
            have HKK := Aside0.mk hkk
            clear hkk
            by_cases hns : 64 ≤ nest
            · have HVV := Aside0.mk (show valsF (K' + 1) (L.drop j) nest close = valsF K' (L.drop j2) nest close by
                rw [HDR.out]
                conv => lhs; unfold valsF
                rw [if_neg (by have := HQ.out; simpa [isEnd] using this), if_neg HCP.out, if_pos hns, ← HF1.out, HREST.out])
              go_wp2_with fail
              go_roundg (L.length - j2)
              case measure => omega
              case rel => exact ⟨j2, acc, K', ⟨Kd.R_mono (Kd.R_far (p := ⟨g9, 5, none⟩) HR13.out (fun k hk => by have := hk.2; show k ≠ g9; omega) _) (fun k hk => hk.1)⟩, ⟨hj2⟩, Nat.le_refl _, ⟨blk_far HG13.out (by show g ≠ g9; have := HS9.out; have := HGB.out; omega) _⟩, ⟨⟨HW13.out.os, HW13.out.tape, HW13.out.output, by simpa [World.setCell] using HW13.out.size, fun i hi hr => (Below.heap_setCell _ _ _ i (by show i ≠ g9; have := HS9.out; omega)).trans (HW13.out.block i hi hr)⟩⟩, ⟨by have := HV.out.1; omega, by have := HV.out.2.1; omega, by rw [← HV.out.2.2.1, HVV.out], by rw [← HV.out.2.2.2, HVV.out]⟩⟩
            · have HVV := Aside0.mk (show valsF (K' + 1) (L.drop j) nest close = ((⟨x, kids⟩ : S45) :: (valsF K' (L.drop j2) nest close).1, (valsF K' (L.drop j2) nest close).2) by
                rw [HDR.out]
                conv => lhs; unfold valsF
                rw [if_neg (by have := HQ.out; simpa [isEnd] using this), if_neg HCP.out, if_neg hns, ← HF1.out, HREST.out, HKK.out])
              have HWS : Aside0 (w.grownBy (World.setCell W13 ⟨g9, 5, none⟩ (.slice A5 kids.length c5)) (some g)) := ⟨⟨HW13.out.os, HW13.out.tape, HW13.out.output, by simpa [World.setCell] using HW13.out.size, fun i hi hr => (Below.heap_setCell W13 ⟨g9, 5, none⟩ (.slice A5 kids.length c5) i (by show i ≠ g9; have := HS9.out; omega)).trans (HW13.out.block i hi hr)⟩⟩
              have HKF : Aside0 (k45.R 45 (World.setCell W13 ⟨g9, 5, none⟩ (.slice A5 kids.length c5)) w.heap.size (fun k => w.heap.size ≤ k ∧ some k ≠ u7.ownBlock) (.slice A5 kids.length c5) kids) := by
                have h1 := HW11.out.size
                have h2 := HL99.out
                have hlow : k45.R 45 W13 w.heap.size (fun k => W11.heap.size + 1 ≤ k) (.slice A5 kids.length c5) kids := Kd.R_lower HK.out (by omega)
                have hm : k45.R 45 W13 w.heap.size (fun k => (w.heap.size ≤ k ∧ some k ≠ u7.ownBlock) ∧ k ≠ g9) (.slice A5 kids.length c5) kids := Kd.R_mono hlow (fun k hk => by
                  have hk' : W11.heap.size + 1 ≤ k := hk
                  refine ⟨⟨by omega, fun e => ?_⟩, by omega⟩
                  have := HU.out k e.symm
                  omega)
                exact ⟨Kd.R_mono (Kd.R_far (p := ⟨g9, 5, none⟩) hm (fun k hk => hk.2) _) (fun k hk => hk.1)⟩
              go_wp2_with ((with_reducible refine gate_builtin (b := .append) (xs := #[.tmp 56, .tmp 58]) rfl ?_); at_builtin; refine Kd.R_append k45 (w0 := World.setCell W13 ⟨g9, 5, none⟩ (.slice A5 kids.length c5)) w.heap.size rfl (.tmp 56) (.tmp 58) 25 45 (.agg #[(.int .i64 0), (.string ⟨#[]⟩), (.string ⟨#[]⟩), (.bool false), (.bool false), (.slice none 0 0)]) 72 rfl Try.underlying25 info45 rfl (by decide) (by omega) u7 acc (⟨x, kids⟩ : S45) [.int .i64 x.f0, .string x.f1, .string x.f2, .bool x.f3, .bool x.f4, .slice A5 kids.length c5] (fun k => w.heap.size ≤ k) (fun k => w.heap.size ≤ k ∧ some k ≠ u7.ownBlock) rfl (by first | (go_simp; done) | (go_simp; rfl)) ?aP (fun _ hk => hk) ?aF ?aO ?aB ?aS ?aL ?_; (case aP => exact k45_mkM _ _ _ (⟨x, kids⟩ : S45) HKF.out); (case aF => exact fun k hk => Nat.le_trans HW13.out.size (Nat.le_trans (by simp [World.setCell]) hk)); (case aO => exact Kd.R_mono (Kd.R_far (p := ⟨g9, 5, none⟩) HR13.out (fun k hk => by have := hk.2; show k ≠ g9; omega) _) (fun k hk => hk.1)); (case aB => exact Below.refl _ _); (case aS => exact Nat.le_trans HW13.out.size (by simp [World.setCell])); (case aL => have := hacc.out; have := HLL.out; omega); intro v1 W14 ho hb hg hat)
              go_roundg (L.length - j2)
              case measure => omega
              case rel => exact ⟨j2, acc ++ [(⟨x, kids⟩ : S45)], K', ⟨ho⟩, ⟨hj2⟩, Nat.le_refl _, ⟨blk_grown (blk_far HG13.out (by show g ≠ g9; have := HS9.out; have := HGB.out; omega) _) hg (fun e => by have h1 := Kd.N_base (Kd.R_N HR13.out) g e.symm; have := HGB.out; omega)⟩, ⟨grown_base HWS.out hb⟩, ⟨by have := HV.out.1; omega, by have := HV.out.2.1; omega, by rw [← HV.out.2.2.1, HVV.out]; simp, by rw [← HV.out.2.2.2, HVV.out]⟩⟩
      · have hej : j = L.length := by have := HJ.out; omega
        subst hej
        have hltz : ¬ (L.length : Int) < (L.length : Int) := by omega
        go_wp2
        go_region_held3 (fun w' => w'.cell? ⟨g, 0, none⟩ = some (.slice A L.length c) ∧ w'.cell? ⟨g, 1, none⟩ = some (.int .i64 L.length)) (go_keep) (fail)
        go_wp2
        go_ret
        have hval : valsF K (L.drop L.length) nest close = ([], []) := by
          rw [List.drop_length]
          cases K <;> rfl
        obtain ⟨hv1, hv2, hv3, hv4⟩ := HV.out
        rw [hval] at hv3 hv4
        simp only [List.append_nil] at hv3
        exact ⟨_, L.length, rfl, by rw [← hv3]; exact Kd.R_drew HR.out, HGr.out, by rw [← hv4, List.drop_length], Nat.le_refl _, hv2, grown_step HW.out (below_drew (Below.refl _ _))⟩
end Go.Proofs.Ythaaajpmiofodaa.P
end
section
set_option linter.unusedVariables false
set_option linter.unusedSimpArgs false
namespace Go.Proofs.Ythaaajpmiofodaa.P
open Go.RowKit Go.Proofs.YthaaajpmiofodaaW.PrintWords Go.Proofs.YthaaajpmiofodaaW.PrintLast Go.Proofs.YthaaajpmiofodaaW.PrintMore
attribute [local go_sem] max2_int min2_int max_two min_two max_three min_three max_four min_four
set_option linter.unusedVariables false
set_option linter.unusedSimpArgs false
def valsS (l : List S43) : List S45 := (valsF (l.length + 1) l 0 0).1
theorem below_of_grown_new {w W : World} {o : Obj} (hW : (w.alloc o).grownBy W (some w.heap.size)) : Below w.heap.size w W := by
  have hb := below_alloc (Below.refl w.heap.size w) o
  have hs : (w.alloc o).heap.size = w.heap.size + 1 := by simp
  refine ⟨hW.os, hW.tape, hW.output, ?_, fun k hk => (hW.block k (by omega) ?_).trans (hb.block k hk)⟩
  · have := hW.size; omega
  · intro e
    have := Option.some.inj e
    omega
theorem parse_Values.calls0 (A : Option Addr) (c : Nat) (l : List S43) (w : World) (hl : Kd.C k43 w A l.length l) (hL : l.length ≤ 1000000000) :
    Calls Try.prog 12 #[.slice A l.length c] w fun e w' => ∃ v, e = .returned v ∧ k45.R 45 w' w.heap.size (fun k => w.heap.size ≤ k) v (valsS l) ∧ Below w.heap.size w w' := by
  have HC := Aside0.mk (values_calls (l.length + 1) w.heap.size A c l 0 0 30 #[] 0 (w.alloc (.cells #[.slice A l.length c, .int .i64 0] 54)) (by omega) (Nat.zero_le _) hL (Int.le_refl _) (by omega) (blk_new w _)
    (fun W hW => Kd.C_below hl (below_of_grown_new hW)) (.inl ⟨rfl, rfl, rfl⟩))
  clear hl
  go_enter Try.func12, Try.ntmps12
  go_wp2_with (go_at_call 29; refine HC.out.mono ?_; rintro e w1 ⟨v, j, rfl, hR, hg, hr, hj, hj0, hw⟩)
  go_ret
  have hs : (w.alloc (Obj.cells #[Value.slice A l.length c, Value.int IntKind.i64 0] 54)).heap.size = w.heap.size + 1 := by simp
  exact ⟨v, rfl, Kd.R_mono (Kd.R_lower hR (by omega)) (fun k hk => by omega), below_of_grown_new hw⟩
def parse_Values.f (l : List S43) : Option (List S45) := if l.length ≤ 1000000000 then some (valsS l) else none
theorem parse_Values.calls (A : Option Addr) (c : Nat) (l : List S43) (r : List S45) (w : World) (hl : Kd.C k43 w A l.length l) (hc : l.length ≤ c) (h : parse_Values.f l = some r) :
    Calls Try.prog 12 #[.slice A l.length c] w fun e w' => ∃ v, e = .returned v ∧ k45.R 45 w' w.heap.size (fun k => w.heap.size ≤ k) v r ∧ Below w.heap.size w w' := by
  unfold parse_Values.f at h
  split at h
  · obtain rfl := Option.some.inj h
    rename_i hL
    exact parse_Values.calls0 A c l w hl hL
  · cases h
end Go.Proofs.Ythaaajpmiofodaa.P
end
section
set_option linter.unusedVariables false
set_option linter.unusedSimpArgs false
namespace Go.Proofs.Ythaaajpmiofodaa.P
open Go.RowKit Go.Proofs.YthaaajpmiofodaaW.PrintWords Go.Proofs.YthaaajpmiofodaaW.PrintLast Go.Proofs.YthaaajpmiofodaaW.PrintMore
attribute [local go_sem] max2_int min2_int max_two min_two max_three min_three max_four min_four
set_option linter.unusedVariables false
set_option linter.unusedSimpArgs false
def gouachelaw03_values.f (k : Nat) (a0 : ByteArray) : Option (List S45) := if a0.size ≤ 1000 then (gouacheref01_Runes.f k (bytesOfS a0)).bind fun t1 => (gouacheref02_Tokens.f k t1).bind fun t2 => parse_Values.f t2 else none
set_option maxHeartbeats 2000000 in
theorem gouachelaw03_values.calls (k : Nat) (a0 : ByteArray) (r : List S45) (w : World) (h : gouachelaw03_values.f k a0 = some r) :
    Calls Try.prog 28 #[.string a0] w fun e w' => ∃ v0_ : Value, e = .returned (v0_) ∧ Kd.R k45 45 w' w.heap.size (fun _ => True) v0_ r ∧ Below w.heap.size w w' := by
  unfold gouachelaw03_values.f at h
  split at h
  · rename_i hs
    obtain ⟨t1, h1, h⟩ := Option.bind_eq_some_iff.mp h
    obtain ⟨t2, h2, h3⟩ := Option.bind_eq_some_iff.mp h
    have hcv := Lib.run_convert_string_bytes (P := Try.prog) w 9 69 5 a0 Try.underlying9 Try.underlying69 Try.underlying5
    have hge := grownCap_ge w a0.size 0 5
    have hr : Kd.C (Kd.int .u8) (Lib.bytesWorld w 5 a0) (some ⟨w.heap.size, 0, none⟩) (bytesOfS a0).length (bytesOfS a0) :=
      Kd.C_of_reads (d := (0 : Int)) (h1 := fun _ => rfl) ⟨rfl, by rw [bytesOfS_len]; omega, fun _ => ⟨_, rfl, fun j hj => by rw [add_plain]; exact (BRow.made w 5 a0).cell j hj⟩⟩
    have c1 := gouacheref01_Runes.calls k (some ⟨w.heap.size, 0, none⟩) (grownCap w a0.size 0 5) (bytesOfS a0) t1 _ hr (by rw [bytesOfS_len]; exact hge) h1
    rw [bytesOfS_len] at c1
    have C1 := Aside0.mk c1
    have HB := Aside0.mk (bytesWorld_below w 5 a0)
    have H2 := Aside0.mk h2
    have H3 := Aside0.mk h3
    clear c1 hr h h1 h2 h3 hge hs
    go_enter Try.func28, Try.ntmps28
    go_wp2_with fail
    clear hcv
    refine C1.out.mono ?_
    rintro e w1 ⟨v1, rfl, hR1, hb1⟩
    obtain ⟨A1, c1, rfl, hl1, hC1⟩ := Kd.R_reads hR1
    have c2 := gouacheref02_Tokens.calls k A1 c1 t1 t2 w1 hC1 hl1 H2.out
    have C2 := Aside0.mk c2
    replace HB := Aside0.mk (below_step HB.out hb1)
    clear c2 hR1 hC1 hl1 hb1 C1
    go_wp2_with fail
    refine C2.out.mono ?_
    rintro e w2 ⟨v2, rfl, hR2, hb2⟩
    obtain ⟨A2, c2, rfl, hl2, hC2⟩ := Kd.R_reads hR2
    have c3 := parse_Values.calls A2 c2 t2 r w2 hC2 hl2 H3.out
    have C3 := Aside0.mk c3
    replace HB := Aside0.mk (below_step HB.out hb2)
    clear c3 hR2 hC2 hl2 hb2 C2
    go_wp2_with fail
    refine C3.out.mono ?_
    rintro e w3 ⟨v3, rfl, hR3, hb3⟩
    go_wp2
    go_ret
    exact ⟨v3, rfl, Kd.R_mono (Kd.R_lower hR3 HB.out.size) (fun _ _ => trivial), below_step HB.out hb3⟩
  · cases h
end Go.Proofs.Ythaaajpmiofodaa.P
end
section
set_option linter.unusedVariables false
set_option linter.unusedSimpArgs false
namespace Go.Proofs.Ythaaajpmiofodaa.P
open Go.RowKit Go.Proofs.YthaaajpmiofodaaW.PrintWords Go.Proofs.YthaaajpmiofodaaW.PrintLast Go.Proofs.YthaaajpmiofodaaW.PrintMore
attribute [local go_sem] max2_int min2_int max_two min_two max_three min_three max_four min_four
set_option linter.unusedVariables false
set_option linter.unusedSimpArgs false
theorem eqA43 (d : Nat) (w : World) (x0 y0 : Int) (x1 y1 : ByteArray) (x2 y2 : ByteArray) (x3 y3 : Bool) (x4 y4 : Bool) :
    (Op.equalIn (d + 2) 43 (.agg #[.int .i64 x0, .string x1, .string x2, .bool x3, .bool x4]) (.agg #[.int .i64 y0, .string y1, .string y2, .bool y3, .bool y4])).run Try.prog w = .ok (x0 == y0 && (x1.toList == y1.toList && (x2.toList == y2.toList && (x3 == y3 && (x4 == y4))))) w := by
  refine eqA_of Try.underlying43 (by kernel_rfl) ?_
  refine eqf_cons (by rfl) (by go_simp; rfl) (by go_simp; rfl) (by go_simp) ?_
  refine eqf_cons (by rfl) (by go_simp; rfl) (by go_simp; rfl) (by go_simp) ?_
  refine eqf_cons (by rfl) (by go_simp; rfl) (by go_simp; rfl) (by go_simp) ?_
  refine eqf_cons (by rfl) (by go_simp; rfl) (by go_simp; rfl) (by go_simp) ?_
  exact eqf_last (by rfl) (by go_simp; rfl) (by go_simp; rfl) (by go_simp)
end Go.Proofs.Ythaaajpmiofodaa.P
end
section
set_option linter.unusedVariables false
set_option linter.unusedSimpArgs false
namespace Go.Proofs.Ythaaajpmiofodaa.P
open Go.RowKit Go.Proofs.YthaaajpmiofodaaW.PrintWords Go.Proofs.YthaaajpmiofodaaW.PrintLast Go.Proofs.YthaaajpmiofodaaW.PrintMore
attribute [local go_sem] max2_int min2_int max_two min_two max_three min_three max_four min_four
set_option linter.unusedVariables false
set_option linter.unusedSimpArgs false
attribute [local go_sem high] eqA43
mutual
def gouacheref03_Same.l0 : Nat → List (S45) → List (S45) → Int → Int → Option (Bool)
  | 0, _, _, _, _ => none
  | k + 1, x0, x1, x12, x13 => if x13 < x12 then (if 0 ≤ x13 then (if x13 < (x0.length : Int) then (if x13 < (x1.length : Int) then (if (!(((rd_T45 x0 x13).f0.f0) == ((rd_T45 x1 x13).f0.f0)) || (!((((rd_T45 x0 x13).f0.f1).toList) == (((rd_T45 x1 x13).f0.f1).toList)) || (!((((rd_T45 x0 x13).f0.f2).toList) == (((rd_T45 x1 x13).f0.f2).toList)) || (!(((rd_T45 x0 x13).f0.f3) == ((rd_T45 x1 x13).f0.f3)) || (!(((rd_T45 x0 x13).f0.f4) == ((rd_T45 x1 x13).f0.f4))))))) = true then (some false) else ((gouacheref03_Same.f k ((rd_T45 x0 x13).f1) ((rd_T45 x1 x13).f1)).bind fun t105 => (if t105 = true then (gouacheref03_Same.l0 k x0 x1 x12 (wrap64 (x13 + 1))) else (some false)))) else (none)) else (none)) else (none)) else (some true)
def gouacheref03_Same.f : Nat → List (S45) → List (S45) → Option (Bool)
  | 0, _, _ => none
  | k + 1, l0, l1 => if (l0.length : Int) = (l1.length : Int) then (gouacheref03_Same.l0 k l0 l1 (l0.length : Int) 0) else (some false)
end
def gouacheref03_Same.T6 : Bool × List (List Nat × List Nat) := (true, [([], []), ([], []), ([0, 1], [0, 1]), ([2], [2]), ([3], [3]), ([], []), ([], []), ([5, 6], [5, 6]), ([7], [7]), ([8], [8]), ([4, 9], [4, 9]), ([10], [10]), ([11], [11]), ([11], [11]), ([12, 13, 11], [11, 12, 13]), ([14, 11], [11, 14]), ([15, 11], [11, 15]), ([11], [11]), ([11], [11]), ([17, 18, 11], [11, 17, 18]), ([19, 11], [11, 19]), ([20, 11], [11, 20]), ([16, 21, 11, 11], [11, 16, 21]), ([22, 11], [11, 22]), ([11, 23], [11, 23])])
def gouacheref03_Same.B6 : List Nat := [0, 0, 3, 7, 15, 0, 0, 96, 224, 480, 1023, 2047, 4095, 4095, 16383, 32767, 65535, 4095, 4095, 397311, 921599, 1970175, 4194303, 8388607, 16777215]
theorem gouacheref03_Same.tab6 : rtab .any (opsOf Try.f11 6) = gouacheref03_Same.T6 := by kernel_rfl
theorem gouacheref03_Same.bits6 : waitsOk gouacheref03_Same.T6.2 gouacheref03_Same.B6 = true := by kernel_rfl
set_option maxHeartbeats 8000000 in
set_option maxRecDepth 100000 in
theorem gouacheref03_Same.calls (k : Nat) : ∀ (A0 : Option Addr) (c0 : Nat) (l0 : List (S45)) (A1 : Option Addr) (c1 : Nat) (l1 : List (S45)) (r : Bool) (w : World) (hr0 : Kd.C k45 w A0 l0.length l0) (hc0 : l0.length ≤ c0) (hr1 : Kd.C k45 w A1 l1.length l1) (hc1 : l1.length ≤ c1) (h : gouacheref03_Same.f k l0 l1 = some r),
    Calls Try.prog 11 #[.slice A0 l0.length c0, .slice A1 l1.length c1] w fun e w' => e = .returned (.bool r) ∧ Below w.heap.size w w' := by
  induction k using Nat.strongRecOn with
  | _ k ih =>
  intro A0 c0 l0 A1 c1 l1 r w hr0 hc0 hr1 hc1 h
  cases k with
  | zero => exact absurd h (by simp [gouacheref03_Same.f])
  | succ k =>
  simp only [gouacheref03_Same.f] at h
  have hu43 := Try.underlying43
  have HR0 := Aside0.mk hr0
  have HC0 := Aside0.mk hc0
  clear hr0 hc0
  have HR1 := Aside0.mk hr1
  have HC1 := Aside0.mk hc1
  clear hr1 hc1
  have HB := Aside0.mk (Below.refl w.heap.size w)
  have H : (if (l0.length : Int) = (l1.length : Int) then (gouacheref03_Same.l0 k l0 l1 (l0.length : Int) 0) else (some false)) = some r := h
  clear h
  by_cases c3 : (l0.length : Int) = (l1.length : Int)
  · rw [if_pos c3] at H
    have c3b0 : ((l0.length : Int) == (l1.length : Int)) = true := beq_iff_eq.mpr c3
    have c3b1 : ((l0.length : Int) != (l1.length : Int)) = false := bne_eq_false_iff_eq.mpr c3
    have c3b2 : (l0.length == l1.length) = true := by first | simpa using c3 | (simp at c3 ⊢; omega)
    clear c3
    have H' := Aside0.mk H
    clear H
    go_enter Try.func11, Try.ntmps11
    go_wp2
    go_loopg [13] k (fun kq v13 w' => ∃ (x13_1 : Int), v13 = .int .i64 x13_1 ∧ Aside0 (gouacheref03_Same.l0 kq l0 l1 (l0.length : Int) x13_1 = some r) ∧ Aside0 (kq ≤ k) ∧ Aside0 (Below w.heap.size w w'))
    case atStart => exact ⟨(0), (by first | rfl | (simp; done) | (simp [*]; done)), H', ⟨Nat.le_refl _⟩, ⟨by repeat (first | (with_reducible first | exact HB.out | apply below_alloc | apply pw_below_drewN | apply below_drew1) | exact HB.out)⟩⟩
    case round =>
      clear H'
      try clear c1
      try clear p2
      try clear c3
      try clear c3b0
      try clear c3b1
      try clear c3b2
      obtain ⟨x13_1, rfl, HA, HK1, HB⟩ := hrel
      cases gk with
      | zero => exact absurd HA.out (by simp [gouacheref03_Same.l0])
      | succ k1 =>
        have H := HA.out
        clear HA
        simp only [gouacheref03_Same.l0] at H
        by_cases c4 : x13_1 < (l0.length : Int)
        · rw [if_pos c4] at H
          have c4b0 : decide (x13_1 < (l0.length : Int)) = true := decide_eq_true c4
          clear c4
          by_cases c5 : 0 ≤ x13_1
          · rw [if_pos c5] at H
            have c5b0 : decide (0 ≤ x13_1) = true := decide_eq_true c5
            clear c5
            by_cases c6 : x13_1 < (l0.length : Int)
            · rw [if_pos c6] at H
              have c6b0 : decide (x13_1 < (l0.length : Int)) = true := decide_eq_true c6
              clear c6
              by_cases c7 : x13_1 < (l1.length : Int)
              · rw [if_pos c7] at H
                have c7b0 : decide (x13_1 < (l1.length : Int)) = true := decide_eq_true c7
                clear c7
                by_cases c8 : (!(((rd_T45 l0 x13_1).f0.f0) == ((rd_T45 l1 x13_1).f0.f0)) || (!((((rd_T45 l0 x13_1).f0.f1).toList) == (((rd_T45 l1 x13_1).f0.f1).toList)) || (!((((rd_T45 l0 x13_1).f0.f2).toList) == (((rd_T45 l1 x13_1).f0.f2).toList)) || (!(((rd_T45 l0 x13_1).f0.f3) == ((rd_T45 l1 x13_1).f0.f3)) || (!(((rd_T45 l0 x13_1).f0.f4) == ((rd_T45 l1 x13_1).f0.f4))))))) = true
                · rw [if_pos c8] at H
                  have c8b0 : (!(((rd_T45 l0 x13_1).f0.f0) == ((rd_T45 l1 x13_1).f0.f0)) || (!((((rd_T45 l0 x13_1).f0.f1).toList) == (((rd_T45 l1 x13_1).f0.f1).toList)) || (!((((rd_T45 l0 x13_1).f0.f2).toList) == (((rd_T45 l1 x13_1).f0.f2).toList)) || (!(((rd_T45 l0 x13_1).f0.f3) == ((rd_T45 l1 x13_1).f0.f3)) || (!(((rd_T45 l0 x13_1).f0.f4) == ((rd_T45 l1 x13_1).f0.f4))))))) = true := c8
                  clear c8
                  obtain rfl := Option.some.inj H
                  try go_wp2
                  have n0_ := Aside0.mk (below_drew1 HB.out)
                  clear HB
                  have HB := n0_
                  clear n0_
                  have p101 : 0 ≤ (x13_1 : Int) := of_decide_eq_true (by first | (with_reducible assumption) | assumption)
                  have q101 : x13_1 < (l0.length : Int) := of_decide_eq_true (by first | (with_reducible assumption) | assumption)
                  obtain ⟨ad101, A101_5, c101_5, e101, hx101_0, hx101_1, hx101_2, hx101_3, hx101_4, hx101_5, hl101_5, hi101_5⟩ := at_T45 HR0.out x13_1 p101 q101
                  have hw101_5 := hx101_5
                  have hw101_4 := hx101_4
                  have hw101_3 := hx101_3
                  have hw101_2 := hx101_2
                  have hw101_1 := hx101_1
                  have hw101_0 := hx101_0
                  cases e101
                  replace hx101_0 := (HB.out.cell (World.block_lt_of_cell? w _ hx101_0)).trans hx101_0
                  replace hx101_1 := (HB.out.cell (World.block_lt_of_cell? w _ hx101_1)).trans hx101_1
                  replace hx101_2 := (HB.out.cell (World.block_lt_of_cell? w _ hx101_2)).trans hx101_2
                  replace hx101_3 := (HB.out.cell (World.block_lt_of_cell? w _ hx101_3)).trans hx101_3
                  replace hx101_4 := (HB.out.cell (World.block_lt_of_cell? w _ hx101_4)).trans hx101_4
                  replace hx101_5 := (HB.out.cell (World.block_lt_of_cell? w _ hx101_5)).trans hx101_5
                  have HR101_5 := Aside0.mk hi101_5
                  have HC101_5 := Aside0.mk hl101_5
                  clear hi101_5 hl101_5
                  replace p101 := eq_true p101
                  replace q101 := eq_true q101
                  have p102 : 0 ≤ (x13_1 : Int) := of_decide_eq_true (by first | (with_reducible assumption) | assumption)
                  have q102 : x13_1 < (l1.length : Int) := of_decide_eq_true (by first | (with_reducible assumption) | assumption)
                  obtain ⟨ad102, A102_5, c102_5, e102, hx102_0, hx102_1, hx102_2, hx102_3, hx102_4, hx102_5, hl102_5, hi102_5⟩ := at_T45 HR1.out x13_1 p102 q102
                  have hw102_5 := hx102_5
                  have hw102_4 := hx102_4
                  have hw102_3 := hx102_3
                  have hw102_2 := hx102_2
                  have hw102_1 := hx102_1
                  have hw102_0 := hx102_0
                  cases e102
                  replace hx102_0 := (HB.out.cell (World.block_lt_of_cell? w _ hx102_0)).trans hx102_0
                  replace hx102_1 := (HB.out.cell (World.block_lt_of_cell? w _ hx102_1)).trans hx102_1
                  replace hx102_2 := (HB.out.cell (World.block_lt_of_cell? w _ hx102_2)).trans hx102_2
                  replace hx102_3 := (HB.out.cell (World.block_lt_of_cell? w _ hx102_3)).trans hx102_3
                  replace hx102_4 := (HB.out.cell (World.block_lt_of_cell? w _ hx102_4)).trans hx102_4
                  replace hx102_5 := (HB.out.cell (World.block_lt_of_cell? w _ hx102_5)).trans hx102_5
                  have HR102_5 := Aside0.mk hi102_5
                  have HC102_5 := Aside0.mk hl102_5
                  clear hi102_5 hl102_5
                  replace p102 := eq_true p102
                  replace q102 := eq_true q102
                  refine start_ (n := 25) (S := fun w' => w'.cell? (ad101.add ((x13_1).toNat * 6)) = some (.int .i64 ((rd_T45 l0 x13_1).f0.f0)) ∧ w'.cell? ⟨(ad101.add ((x13_1).toNat * 6)).block, (ad101.add ((x13_1).toNat * 6)).off + 1, none⟩ = some (.string ((rd_T45 l0 x13_1).f0.f1)) ∧ w'.cell? ⟨(ad101.add ((x13_1).toNat * 6)).block, (ad101.add ((x13_1).toNat * 6)).off + 2, none⟩ = some (.string ((rd_T45 l0 x13_1).f0.f2)) ∧ w'.cell? ⟨(ad101.add ((x13_1).toNat * 6)).block, (ad101.add ((x13_1).toNat * 6)).off + 3, none⟩ = some (.bool ((rd_T45 l0 x13_1).f0.f3)) ∧ w'.cell? ⟨(ad101.add ((x13_1).toNat * 6)).block, (ad101.add ((x13_1).toNat * 6)).off + 4, none⟩ = some (.bool ((rd_T45 l0 x13_1).f0.f4)) ∧ w'.cell? ⟨(ad101.add ((x13_1).toNat * 6)).block, (ad101.add ((x13_1).toNat * 6)).off + 5, none⟩ = some (.slice A101_5 ((rd_T45 l0 x13_1).f1).length c101_5) ∧ w'.cell? (ad102.add ((x13_1).toNat * 6)) = some (.int .i64 ((rd_T45 l1 x13_1).f0.f0)) ∧ w'.cell? ⟨(ad102.add ((x13_1).toNat * 6)).block, (ad102.add ((x13_1).toNat * 6)).off + 1, none⟩ = some (.string ((rd_T45 l1 x13_1).f0.f1)) ∧ w'.cell? ⟨(ad102.add ((x13_1).toNat * 6)).block, (ad102.add ((x13_1).toNat * 6)).off + 2, none⟩ = some (.string ((rd_T45 l1 x13_1).f0.f2)) ∧ w'.cell? ⟨(ad102.add ((x13_1).toNat * 6)).block, (ad102.add ((x13_1).toNat * 6)).off + 3, none⟩ = some (.bool ((rd_T45 l1 x13_1).f0.f3)) ∧ w'.cell? ⟨(ad102.add ((x13_1).toNat * 6)).block, (ad102.add ((x13_1).toNat * 6)).off + 4, none⟩ = some (.bool ((rd_T45 l1 x13_1).f0.f4)) ∧ w'.cell? ⟨(ad102.add ((x13_1).toNat * 6)).block, (ad102.add ((x13_1).toNat * 6)).off + 5, none⟩ = some (.slice A102_5 ((rd_T45 l1 x13_1).f1).length c102_5)) (ds := []) #[false, false, false, false, false, false, false, false, false, false, false, false, false, false, false, false, false, false, false, false, false, false, false, false, false] (by kernel_rfl) rfl rfl ⟨((HB.out.cell (World.block_lt_of_cell? w _ hw101_0)).trans hw101_0), ((HB.out.cell (World.block_lt_of_cell? w _ hw101_1)).trans hw101_1), ((HB.out.cell (World.block_lt_of_cell? w _ hw101_2)).trans hw101_2), ((HB.out.cell (World.block_lt_of_cell? w _ hw101_3)).trans hw101_3), ((HB.out.cell (World.block_lt_of_cell? w _ hw101_4)).trans hw101_4), ((HB.out.cell (World.block_lt_of_cell? w _ hw101_5)).trans hw101_5), ((HB.out.cell (World.block_lt_of_cell? w _ hw102_0)).trans hw102_0), ((HB.out.cell (World.block_lt_of_cell? w _ hw102_1)).trans hw102_1), ((HB.out.cell (World.block_lt_of_cell? w _ hw102_2)).trans hw102_2), ((HB.out.cell (World.block_lt_of_cell? w _ hw102_3)).trans hw102_3), ((HB.out.cell (World.block_lt_of_cell? w _ hw102_4)).trans hw102_4), ((HB.out.cell (World.block_lt_of_cell? w _ hw102_5)).trans hw102_5)⟩ (fun hHeld => ?_); refine with_tabW gouacheref03_Same.tab6 gouacheref03_Same.bits6 (fun HT_ HW_ => ?_)
                  generalize wr.drew = w9 at HB HR101_5 HR102_5 hx101_0 hx101_1 hx101_2 hx101_3 hx101_4 hx101_5 hx102_0 hx102_1 hx102_2 hx102_3 hx102_4 hx102_5 hHeld ⊢
                  refine pure_ (i := 0) (N := some 16) (v := ?_) (a' := ?_) #[true, false, false, false, false, false, false, false, false, false, false, false, false, false, false, false, false, false, false, false, false, false, false, false, false] rfl rfl (any_of HT_.out (by kernel_rfl)) (fun _ _ _ h => h) (Or.inl ⟨by rfl, ?_⟩) ?_ ?_
                  rotate_left
                  · intro w'
                    go_simp
                    with_reducible rfl
                  rotate_left
                  · simp only [Act.put, List.setIfInBounds_toArray, List.set_cons_zero, List.set_cons_succ, i64_w, i32_w]
                    rfl
                  refine pure_ (i := 1) (N := some 17) (v := ?_) (a' := ?_) #[true, true, false, false, false, false, false, false, false, false, false, false, false, false, false, false, false, false, false, false, false, false, false, false, false] rfl rfl (any_of HT_.out (by kernel_rfl)) (fun _ _ _ h => h) (Or.inl ⟨by rfl, ?_⟩) ?_ ?_
                  rotate_left
                  · intro w'
                    go_simp
                    with_reducible rfl
                  rotate_left
                  · simp only [Act.put, List.setIfInBounds_toArray, List.set_cons_zero, List.set_cons_succ, i64_w, i32_w]
                    rfl
                  refine pure_ (i := 2) (N := some 18) (v := ?_) (a' := ?_) #[true, true, true, false, false, false, false, false, false, false, false, false, false, false, false, false, false, false, false, false, false, false, false, false, false] rfl rfl (any_of HT_.out (by kernel_rfl)) (fun _ _ _ h => h) (Or.inl ⟨by rfl, ?_⟩) ?_ ?_
                  rotate_left
                  · intro w'
                    go_simp
                    with_reducible rfl
                  rotate_left
                  · simp only [Act.put, List.setIfInBounds_toArray, List.set_cons_zero, List.set_cons_succ, i64_w, i32_w]
                    rfl
                  refine pure_ (i := 3) (N := some 19) (v := ?_) (a' := ?_) #[true, true, true, true, false, false, false, false, false, false, false, false, false, false, false, false, false, false, false, false, false, false, false, false, false] rfl rfl (any_of HT_.out (by kernel_rfl)) (fun _ _ _ h => h) (Or.inl ⟨by rfl, ?_⟩) ?_ ?_
                  rotate_left
                  · intro w'
                    go_simp
                    with_reducible rfl
                  rotate_left
                  · simp only [Act.put, List.setIfInBounds_toArray, List.set_cons_zero, List.set_cons_succ, i64_w, i32_w]
                    rfl
                  refine pure_ (i := 5) (N := some 21) (v := ?_) (a' := ?_) #[true, true, true, true, false, true, false, false, false, false, false, false, false, false, false, false, false, false, false, false, false, false, false, false, false] rfl rfl (any_of HT_.out (by kernel_rfl)) (fun _ _ _ h => h) (Or.inl ⟨by rfl, ?_⟩) ?_ ?_
                  rotate_left
                  · intro w'
                    go_simp
                    with_reducible rfl
                  rotate_left
                  · simp only [Act.put, List.setIfInBounds_toArray, List.set_cons_zero, List.set_cons_succ, i64_w, i32_w]
                    rfl
                  refine pure_ (i := 6) (N := some 22) (v := ?_) (a' := ?_) #[true, true, true, true, false, true, true, false, false, false, false, false, false, false, false, false, false, false, false, false, false, false, false, false, false] rfl rfl (any_of HT_.out (by kernel_rfl)) (fun _ _ _ h => h) (Or.inl ⟨by rfl, ?_⟩) ?_ ?_
                  rotate_left
                  · intro w'
                    go_simp
                    with_reducible rfl
                  rotate_left
                  · simp only [Act.put, List.setIfInBounds_toArray, List.set_cons_zero, List.set_cons_succ, i64_w, i32_w]
                    rfl
                  refine pure_ (i := 7) (N := some 23) (v := ?_) (a' := ?_) #[true, true, true, true, false, true, true, true, false, false, false, false, false, false, false, false, false, false, false, false, false, false, false, false, false] rfl rfl (any_of HT_.out (by kernel_rfl)) (fun _ _ _ h => h) (Or.inl ⟨by rfl, ?_⟩) ?_ ?_
                  rotate_left
                  · intro w'
                    go_simp
                    with_reducible rfl
                  rotate_left
                  · simp only [Act.put, List.setIfInBounds_toArray, List.set_cons_zero, List.set_cons_succ, i64_w, i32_w]
                    rfl
                  refine pure_ (i := 8) (N := some 24) (v := ?_) (a' := ?_) #[true, true, true, true, false, true, true, true, true, false, false, false, false, false, false, false, false, false, false, false, false, false, false, false, false] rfl rfl (any_of HT_.out (by kernel_rfl)) (fun _ _ _ h => h) (Or.inl ⟨by rfl, ?_⟩) ?_ ?_
                  rotate_left
                  · intro w'
                    go_simp
                    with_reducible rfl
                  rotate_left
                  · simp only [Act.put, List.setIfInBounds_toArray, List.set_cons_zero, List.set_cons_succ, i64_w, i32_w]
                    rfl
                  refine take_ (i := 4) (N := some 20) (v := ?_) (a' := ?_) #[true, true, true, true, true, true, true, true, true, false, false, false, false, false, false, false, false, false, false, false, false, false, false, false, false] rfl rfl (take_ofW HT_.out HW_.out (by kernel_rfl)) (fun _ _ _ h => h) (Or.inl ⟨by rfl, ?_⟩) hHeld ?_ ?_
                  rotate_left
                  · rintro w' ⟨s0, s1, s2, s3, s4, s5, s6, s7, s8, s9, s10, s11⟩
                    go_simp
                    with_reducible rfl
                  rotate_left
                  · simp only [Act.put, List.setIfInBounds_toArray, List.set_cons_zero, List.set_cons_succ, i64_w, i32_w]
                    rfl
                  refine take_ (i := 9) (N := some 25) (v := ?_) (a' := ?_) #[true, true, true, true, true, true, true, true, true, true, false, false, false, false, false, false, false, false, false, false, false, false, false, false, false] rfl rfl (take_ofW HT_.out HW_.out (by kernel_rfl)) (fun _ _ _ h => h) (Or.inl ⟨by rfl, ?_⟩) hHeld ?_ ?_
                  rotate_left
                  · rintro w' ⟨s0, s1, s2, s3, s4, s5, s6, s7, s8, s9, s10, s11⟩
                    go_simp
                    with_reducible rfl
                  rotate_left
                  · simp only [Act.put, List.setIfInBounds_toArray, List.set_cons_zero, List.set_cons_succ, i64_w, i32_w]
                    rfl
                  refine pure_ (i := 10) (N := some 26) (v := ?_) (a' := ?_) #[true, true, true, true, true, true, true, true, true, true, true, false, false, false, false, false, false, false, false, false, false, false, false, false, false] rfl rfl (any_of HT_.out (by kernel_rfl)) (fun _ _ _ h => h) (Or.inl ⟨by rfl, ?_⟩) ?_ ?_
                  rotate_left
                  · intro w'
                    go_simp
                    with_reducible rfl
                  rotate_left
                  · simp only [Act.put, List.setIfInBounds_toArray, List.set_cons_zero, List.set_cons_succ, i64_w, i32_w]
                    rfl
                  refine pure_ (i := 11) (N := some 27) (v := ?_) (a' := ?_) #[true, true, true, true, true, true, true, true, true, true, true, true, false, false, false, false, false, false, false, false, false, false, false, false, false] rfl rfl (any_of HT_.out (by kernel_rfl)) (fun _ _ _ h => h) (Or.inl ⟨by rfl, ?_⟩) ?_ ?_
                  rotate_left
                  · intro w'
                    go_simp
                    with_reducible rfl
                  rotate_left
                  · simp only [Act.put, List.setIfInBounds_toArray, List.set_cons_zero, List.set_cons_succ, i64_w, i32_w]
                    rfl
                  refine pure_ (i := 12) (N := some 28) (v := undef) (a' := ?_) #[true, true, true, true, true, true, true, true, true, true, true, true, true, false, false, false, false, false, false, false, false, false, false, false, false] rfl rfl (any_of HT_.out (by kernel_rfl)) (fun _ _ _ h => h) (Or.inr ⟨by rfl, rfl⟩) ?_ ?_
                  rotate_left
                  · simp only [Act.put, List.setIfInBounds_toArray, List.set_cons_zero, List.set_cons_succ, i64_w, i32_w]
                    rfl
                  refine pure_ (i := 13) (N := some 29) (v := undef) (a' := ?_) #[true, true, true, true, true, true, true, true, true, true, true, true, true, true, false, false, false, false, false, false, false, false, false, false, false] rfl rfl (any_of HT_.out (by kernel_rfl)) (fun _ _ _ h => h) (Or.inr ⟨by rfl, rfl⟩) ?_ ?_
                  rotate_left
                  · simp only [Act.put, List.setIfInBounds_toArray, List.set_cons_zero, List.set_cons_succ, i64_w, i32_w]
                    rfl
                  refine pure_ (i := 14) (N := some 30) (v := undef) (a' := ?_) #[true, true, true, true, true, true, true, true, true, true, true, true, true, true, true, false, false, false, false, false, false, false, false, false, false] rfl rfl (any_of HT_.out (by kernel_rfl)) (fun _ _ _ h => h) (Or.inr ⟨by rfl, rfl⟩) ?_ ?_
                  rotate_left
                  · simp only [Act.put, List.setIfInBounds_toArray, List.set_cons_zero, List.set_cons_succ, i64_w, i32_w]
                    rfl
                  refine pure_ (i := 15) (N := some 31) (v := undef) (a' := ?_) #[true, true, true, true, true, true, true, true, true, true, true, true, true, true, true, true, false, false, false, false, false, false, false, false, false] rfl rfl (any_of HT_.out (by kernel_rfl)) (fun _ _ _ h => h) (Or.inr ⟨by rfl, rfl⟩) ?_ ?_
                  rotate_left
                  · simp only [Act.put, List.setIfInBounds_toArray, List.set_cons_zero, List.set_cons_succ, i64_w, i32_w]
                    rfl
                  refine pure_ (i := 16) (N := some 32) (v := undef) (a' := ?_) #[true, true, true, true, true, true, true, true, true, true, true, true, true, true, true, true, true, false, false, false, false, false, false, false, false] rfl rfl (any_of HT_.out (by kernel_rfl)) (fun _ _ _ h => h) (Or.inr ⟨by rfl, rfl⟩) ?_ ?_
                  rotate_left
                  · simp only [Act.put, List.setIfInBounds_toArray, List.set_cons_zero, List.set_cons_succ, i64_w, i32_w]
                    rfl
                  refine pure_ (i := 17) (N := some 33) (v := undef) (a' := ?_) #[true, true, true, true, true, true, true, true, true, true, true, true, true, true, true, true, true, true, false, false, false, false, false, false, false] rfl rfl (any_of HT_.out (by kernel_rfl)) (fun _ _ _ h => h) (Or.inr ⟨by rfl, rfl⟩) ?_ ?_
                  rotate_left
                  · simp only [Act.put, List.setIfInBounds_toArray, List.set_cons_zero, List.set_cons_succ, i64_w, i32_w]
                    rfl
                  refine pure_ (i := 18) (N := some 34) (v := undef) (a' := ?_) #[true, true, true, true, true, true, true, true, true, true, true, true, true, true, true, true, true, true, true, false, false, false, false, false, false] rfl rfl (any_of HT_.out (by kernel_rfl)) (fun _ _ _ h => h) (Or.inr ⟨by rfl, rfl⟩) ?_ ?_
                  rotate_left
                  · simp only [Act.put, List.setIfInBounds_toArray, List.set_cons_zero, List.set_cons_succ, i64_w, i32_w]
                    rfl
                  refine pure_ (i := 19) (N := some 35) (v := undef) (a' := ?_) #[true, true, true, true, true, true, true, true, true, true, true, true, true, true, true, true, true, true, true, true, false, false, false, false, false] rfl rfl (any_of HT_.out (by kernel_rfl)) (fun _ _ _ h => h) (Or.inr ⟨by rfl, rfl⟩) ?_ ?_
                  rotate_left
                  · simp only [Act.put, List.setIfInBounds_toArray, List.set_cons_zero, List.set_cons_succ, i64_w, i32_w]
                    rfl
                  refine pure_ (i := 20) (N := some 36) (v := undef) (a' := ?_) #[true, true, true, true, true, true, true, true, true, true, true, true, true, true, true, true, true, true, true, true, true, false, false, false, false] rfl rfl (any_of HT_.out (by kernel_rfl)) (fun _ _ _ h => h) (Or.inr ⟨by rfl, rfl⟩) ?_ ?_
                  rotate_left
                  · simp only [Act.put, List.setIfInBounds_toArray, List.set_cons_zero, List.set_cons_succ, i64_w, i32_w]
                    rfl
                  refine pure_ (i := 21) (N := some 37) (v := undef) (a' := ?_) #[true, true, true, true, true, true, true, true, true, true, true, true, true, true, true, true, true, true, true, true, true, true, false, false, false] rfl rfl (any_of HT_.out (by kernel_rfl)) (fun _ _ _ h => h) (Or.inr ⟨by rfl, rfl⟩) ?_ ?_
                  rotate_left
                  · simp only [Act.put, List.setIfInBounds_toArray, List.set_cons_zero, List.set_cons_succ, i64_w, i32_w]
                    rfl
                  refine pure_ (i := 22) (N := some 38) (v := undef) (a' := ?_) #[true, true, true, true, true, true, true, true, true, true, true, true, true, true, true, true, true, true, true, true, true, true, true, false, false] rfl rfl (any_of HT_.out (by kernel_rfl)) (fun _ _ _ h => h) (Or.inr ⟨by rfl, rfl⟩) ?_ ?_
                  rotate_left
                  · simp only [Act.put, List.setIfInBounds_toArray, List.set_cons_zero, List.set_cons_succ, i64_w, i32_w]
                    rfl
                  refine pure_ (i := 23) (N := some 39) (v := undef) (a' := ?_) #[true, true, true, true, true, true, true, true, true, true, true, true, true, true, true, true, true, true, true, true, true, true, true, true, false] rfl rfl (any_of HT_.out (by kernel_rfl)) (fun _ _ _ h => h) (Or.inr ⟨by rfl, rfl⟩) ?_ ?_
                  rotate_left
                  · simp only [Act.put, List.setIfInBounds_toArray, List.set_cons_zero, List.set_cons_succ, i64_w, i32_w]
                    rfl
                  refine pure_ (i := 24) (N := some 40) (v := ?_) (a' := ?_) #[true, true, true, true, true, true, true, true, true, true, true, true, true, true, true, true, true, true, true, true, true, true, true, true, true] rfl rfl (any_of HT_.out (by kernel_rfl)) (fun _ _ _ h => h) (Or.inl ⟨by rfl, ?_⟩) ?_ ?_
                  rotate_left
                  · intro w'
                    go_simp
                    with_reducible rfl
                  rotate_left
                  · simp only [Act.put, List.setIfInBounds_toArray, List.set_cons_zero, List.set_cons_succ, i64_w, i32_w]
                    rfl
                  refine done_ (done_of HT_.out (by kernel_rfl)) ?_
                  try go_wp2
                  go_ret
                  exact ⟨by first | rfl | (simp [errW_none, errW_some] <;> rfl) | (simp [*, errW_none, errW_some] <;> rfl), by repeat (first | (with_reducible first | exact HB.out | apply below_alloc | apply pw_below_drewN | apply below_drew1) | exact HB.out)⟩
                · rw [if_neg c8] at H
                  have c8b0 : (!(((rd_T45 l0 x13_1).f0.f0) == ((rd_T45 l1 x13_1).f0.f0)) || (!((((rd_T45 l0 x13_1).f0.f1).toList) == (((rd_T45 l1 x13_1).f0.f1).toList)) || (!((((rd_T45 l0 x13_1).f0.f2).toList) == (((rd_T45 l1 x13_1).f0.f2).toList)) || (!(((rd_T45 l0 x13_1).f0.f3) == ((rd_T45 l1 x13_1).f0.f3)) || (!(((rd_T45 l0 x13_1).f0.f4) == ((rd_T45 l1 x13_1).f0.f4))))))) = false := by simpa using c8
                  clear c8
                  replace H := Option.bind_eq_some_iff.mp H
                  obtain ⟨t105, A100, H⟩ := H
                  replace H : (if t105 = true then (gouacheref03_Same.l0 k1 l0 l1 (l0.length : Int) (wrap64 (x13_1 + 1))) else (some false)) = some r := H
                  have A10 := Aside0.mk A100
                  clear A100
                  by_cases c11 : t105 = true
                  · subst c11
                    have H1 : (gouacheref03_Same.l0 k1 l0 l1 (l0.length : Int) (wrap64 (x13_1 + 1))) = some r := by rw [if_pos rfl] at H; exact H
                    clear H
                    have H := H1
                    clear H1
                    have H' := Aside0.mk H
                    clear H
                    try go_wp2
                    have n0_ := Aside0.mk (below_drew1 HB.out)
                    clear HB
                    have HB := n0_
                    clear n0_
                    have p101 : 0 ≤ (x13_1 : Int) := of_decide_eq_true (by first | (with_reducible assumption) | assumption)
                    have q101 : x13_1 < (l0.length : Int) := of_decide_eq_true (by first | (with_reducible assumption) | assumption)
                    obtain ⟨ad101, A101_5, c101_5, e101, hx101_0, hx101_1, hx101_2, hx101_3, hx101_4, hx101_5, hl101_5, hi101_5⟩ := at_T45 HR0.out x13_1 p101 q101
                    have hw101_5 := hx101_5
                    have hw101_4 := hx101_4
                    have hw101_3 := hx101_3
                    have hw101_2 := hx101_2
                    have hw101_1 := hx101_1
                    have hw101_0 := hx101_0
                    cases e101
                    replace hx101_0 := (HB.out.cell (World.block_lt_of_cell? w _ hx101_0)).trans hx101_0
                    replace hx101_1 := (HB.out.cell (World.block_lt_of_cell? w _ hx101_1)).trans hx101_1
                    replace hx101_2 := (HB.out.cell (World.block_lt_of_cell? w _ hx101_2)).trans hx101_2
                    replace hx101_3 := (HB.out.cell (World.block_lt_of_cell? w _ hx101_3)).trans hx101_3
                    replace hx101_4 := (HB.out.cell (World.block_lt_of_cell? w _ hx101_4)).trans hx101_4
                    replace hx101_5 := (HB.out.cell (World.block_lt_of_cell? w _ hx101_5)).trans hx101_5
                    have HR101_5 := Aside0.mk hi101_5
                    have HC101_5 := Aside0.mk hl101_5
                    clear hi101_5 hl101_5
                    replace p101 := eq_true p101
                    replace q101 := eq_true q101
                    have p102 : 0 ≤ (x13_1 : Int) := of_decide_eq_true (by first | (with_reducible assumption) | assumption)
                    have q102 : x13_1 < (l1.length : Int) := of_decide_eq_true (by first | (with_reducible assumption) | assumption)
                    obtain ⟨ad102, A102_5, c102_5, e102, hx102_0, hx102_1, hx102_2, hx102_3, hx102_4, hx102_5, hl102_5, hi102_5⟩ := at_T45 HR1.out x13_1 p102 q102
                    have hw102_5 := hx102_5
                    have hw102_4 := hx102_4
                    have hw102_3 := hx102_3
                    have hw102_2 := hx102_2
                    have hw102_1 := hx102_1
                    have hw102_0 := hx102_0
                    cases e102
                    replace hx102_0 := (HB.out.cell (World.block_lt_of_cell? w _ hx102_0)).trans hx102_0
                    replace hx102_1 := (HB.out.cell (World.block_lt_of_cell? w _ hx102_1)).trans hx102_1
                    replace hx102_2 := (HB.out.cell (World.block_lt_of_cell? w _ hx102_2)).trans hx102_2
                    replace hx102_3 := (HB.out.cell (World.block_lt_of_cell? w _ hx102_3)).trans hx102_3
                    replace hx102_4 := (HB.out.cell (World.block_lt_of_cell? w _ hx102_4)).trans hx102_4
                    replace hx102_5 := (HB.out.cell (World.block_lt_of_cell? w _ hx102_5)).trans hx102_5
                    have HR102_5 := Aside0.mk hi102_5
                    have HC102_5 := Aside0.mk hl102_5
                    clear hi102_5 hl102_5
                    replace p102 := eq_true p102
                    replace q102 := eq_true q102
                    have p103 : 0 ≤ (x13_1 : Int) := of_decide_eq_true (by first | (with_reducible assumption) | assumption)
                    have q103 : x13_1 < (l0.length : Int) := of_decide_eq_true (by first | (with_reducible assumption) | assumption)
                    obtain ⟨ad103, A103_5, c103_5, e103, hx103_0, hx103_1, hx103_2, hx103_3, hx103_4, hx103_5, hl103_5, hi103_5⟩ := at_T45 HR0.out x13_1 p103 q103
                    have hw103_5 := hx103_5
                    have hw103_4 := hx103_4
                    have hw103_3 := hx103_3
                    have hw103_2 := hx103_2
                    have hw103_1 := hx103_1
                    have hw103_0 := hx103_0
                    obtain rfl : ad101 = ad103 := (by injection e103)
                    replace hx103_0 := (HB.out.cell (World.block_lt_of_cell? w _ hx103_0)).trans hx103_0
                    replace hx103_1 := (HB.out.cell (World.block_lt_of_cell? w _ hx103_1)).trans hx103_1
                    replace hx103_2 := (HB.out.cell (World.block_lt_of_cell? w _ hx103_2)).trans hx103_2
                    replace hx103_3 := (HB.out.cell (World.block_lt_of_cell? w _ hx103_3)).trans hx103_3
                    replace hx103_4 := (HB.out.cell (World.block_lt_of_cell? w _ hx103_4)).trans hx103_4
                    replace hx103_5 := (HB.out.cell (World.block_lt_of_cell? w _ hx103_5)).trans hx103_5
                    have HR103_5 := Aside0.mk hi103_5
                    have HC103_5 := Aside0.mk hl103_5
                    clear hi103_5 hl103_5
                    replace p103 := eq_true p103
                    replace q103 := eq_true q103
                    have ea_ := Option.some.inj (hx101_5.symm.trans hx103_5)
                    injection ea_ with ea_ en_ ec_
                    subst ea_
                    subst ec_
                    clear en_
                    have p104 : 0 ≤ (x13_1 : Int) := of_decide_eq_true (by first | (with_reducible assumption) | assumption)
                    have q104 : x13_1 < (l1.length : Int) := of_decide_eq_true (by first | (with_reducible assumption) | assumption)
                    obtain ⟨ad104, A104_5, c104_5, e104, hx104_0, hx104_1, hx104_2, hx104_3, hx104_4, hx104_5, hl104_5, hi104_5⟩ := at_T45 HR1.out x13_1 p104 q104
                    have hw104_5 := hx104_5
                    have hw104_4 := hx104_4
                    have hw104_3 := hx104_3
                    have hw104_2 := hx104_2
                    have hw104_1 := hx104_1
                    have hw104_0 := hx104_0
                    obtain rfl : ad102 = ad104 := (by injection e104)
                    replace hx104_0 := (HB.out.cell (World.block_lt_of_cell? w _ hx104_0)).trans hx104_0
                    replace hx104_1 := (HB.out.cell (World.block_lt_of_cell? w _ hx104_1)).trans hx104_1
                    replace hx104_2 := (HB.out.cell (World.block_lt_of_cell? w _ hx104_2)).trans hx104_2
                    replace hx104_3 := (HB.out.cell (World.block_lt_of_cell? w _ hx104_3)).trans hx104_3
                    replace hx104_4 := (HB.out.cell (World.block_lt_of_cell? w _ hx104_4)).trans hx104_4
                    replace hx104_5 := (HB.out.cell (World.block_lt_of_cell? w _ hx104_5)).trans hx104_5
                    have HR104_5 := Aside0.mk hi104_5
                    have HC104_5 := Aside0.mk hl104_5
                    clear hi104_5 hl104_5
                    replace p104 := eq_true p104
                    replace q104 := eq_true q104
                    have ea_ := Option.some.inj (hx102_5.symm.trans hx104_5)
                    injection ea_ with ea_ en_ ec_
                    subst ea_
                    subst ec_
                    clear en_
                    refine start_ (n := 25) (S := fun w' => w'.cell? (ad101.add ((x13_1).toNat * 6)) = some (.int .i64 ((rd_T45 l0 x13_1).f0.f0)) ∧ w'.cell? ⟨(ad101.add ((x13_1).toNat * 6)).block, (ad101.add ((x13_1).toNat * 6)).off + 1, none⟩ = some (.string ((rd_T45 l0 x13_1).f0.f1)) ∧ w'.cell? ⟨(ad101.add ((x13_1).toNat * 6)).block, (ad101.add ((x13_1).toNat * 6)).off + 2, none⟩ = some (.string ((rd_T45 l0 x13_1).f0.f2)) ∧ w'.cell? ⟨(ad101.add ((x13_1).toNat * 6)).block, (ad101.add ((x13_1).toNat * 6)).off + 3, none⟩ = some (.bool ((rd_T45 l0 x13_1).f0.f3)) ∧ w'.cell? ⟨(ad101.add ((x13_1).toNat * 6)).block, (ad101.add ((x13_1).toNat * 6)).off + 4, none⟩ = some (.bool ((rd_T45 l0 x13_1).f0.f4)) ∧ w'.cell? ⟨(ad101.add ((x13_1).toNat * 6)).block, (ad101.add ((x13_1).toNat * 6)).off + 5, none⟩ = some (.slice A101_5 ((rd_T45 l0 x13_1).f1).length c101_5) ∧ w'.cell? (ad102.add ((x13_1).toNat * 6)) = some (.int .i64 ((rd_T45 l1 x13_1).f0.f0)) ∧ w'.cell? ⟨(ad102.add ((x13_1).toNat * 6)).block, (ad102.add ((x13_1).toNat * 6)).off + 1, none⟩ = some (.string ((rd_T45 l1 x13_1).f0.f1)) ∧ w'.cell? ⟨(ad102.add ((x13_1).toNat * 6)).block, (ad102.add ((x13_1).toNat * 6)).off + 2, none⟩ = some (.string ((rd_T45 l1 x13_1).f0.f2)) ∧ w'.cell? ⟨(ad102.add ((x13_1).toNat * 6)).block, (ad102.add ((x13_1).toNat * 6)).off + 3, none⟩ = some (.bool ((rd_T45 l1 x13_1).f0.f3)) ∧ w'.cell? ⟨(ad102.add ((x13_1).toNat * 6)).block, (ad102.add ((x13_1).toNat * 6)).off + 4, none⟩ = some (.bool ((rd_T45 l1 x13_1).f0.f4)) ∧ w'.cell? ⟨(ad102.add ((x13_1).toNat * 6)).block, (ad102.add ((x13_1).toNat * 6)).off + 5, none⟩ = some (.slice A102_5 ((rd_T45 l1 x13_1).f1).length c102_5) ∧ w'.cell? (ad101.add ((x13_1).toNat * 6)) = some (.int .i64 ((rd_T45 l0 x13_1).f0.f0)) ∧ w'.cell? ⟨(ad101.add ((x13_1).toNat * 6)).block, (ad101.add ((x13_1).toNat * 6)).off + 1, none⟩ = some (.string ((rd_T45 l0 x13_1).f0.f1)) ∧ w'.cell? ⟨(ad101.add ((x13_1).toNat * 6)).block, (ad101.add ((x13_1).toNat * 6)).off + 2, none⟩ = some (.string ((rd_T45 l0 x13_1).f0.f2)) ∧ w'.cell? ⟨(ad101.add ((x13_1).toNat * 6)).block, (ad101.add ((x13_1).toNat * 6)).off + 3, none⟩ = some (.bool ((rd_T45 l0 x13_1).f0.f3)) ∧ w'.cell? ⟨(ad101.add ((x13_1).toNat * 6)).block, (ad101.add ((x13_1).toNat * 6)).off + 4, none⟩ = some (.bool ((rd_T45 l0 x13_1).f0.f4)) ∧ w'.cell? ⟨(ad101.add ((x13_1).toNat * 6)).block, (ad101.add ((x13_1).toNat * 6)).off + 5, none⟩ = some (.slice A101_5 ((rd_T45 l0 x13_1).f1).length c101_5) ∧ w'.cell? (ad102.add ((x13_1).toNat * 6)) = some (.int .i64 ((rd_T45 l1 x13_1).f0.f0)) ∧ w'.cell? ⟨(ad102.add ((x13_1).toNat * 6)).block, (ad102.add ((x13_1).toNat * 6)).off + 1, none⟩ = some (.string ((rd_T45 l1 x13_1).f0.f1)) ∧ w'.cell? ⟨(ad102.add ((x13_1).toNat * 6)).block, (ad102.add ((x13_1).toNat * 6)).off + 2, none⟩ = some (.string ((rd_T45 l1 x13_1).f0.f2)) ∧ w'.cell? ⟨(ad102.add ((x13_1).toNat * 6)).block, (ad102.add ((x13_1).toNat * 6)).off + 3, none⟩ = some (.bool ((rd_T45 l1 x13_1).f0.f3)) ∧ w'.cell? ⟨(ad102.add ((x13_1).toNat * 6)).block, (ad102.add ((x13_1).toNat * 6)).off + 4, none⟩ = some (.bool ((rd_T45 l1 x13_1).f0.f4)) ∧ w'.cell? ⟨(ad102.add ((x13_1).toNat * 6)).block, (ad102.add ((x13_1).toNat * 6)).off + 5, none⟩ = some (.slice A102_5 ((rd_T45 l1 x13_1).f1).length c102_5)) (ds := []) #[false, false, false, false, false, false, false, false, false, false, false, false, false, false, false, false, false, false, false, false, false, false, false, false, false] (by kernel_rfl) rfl rfl ⟨((HB.out.cell (World.block_lt_of_cell? w _ hw101_0)).trans hw101_0), ((HB.out.cell (World.block_lt_of_cell? w _ hw101_1)).trans hw101_1), ((HB.out.cell (World.block_lt_of_cell? w _ hw101_2)).trans hw101_2), ((HB.out.cell (World.block_lt_of_cell? w _ hw101_3)).trans hw101_3), ((HB.out.cell (World.block_lt_of_cell? w _ hw101_4)).trans hw101_4), ((HB.out.cell (World.block_lt_of_cell? w _ hw101_5)).trans hw101_5), ((HB.out.cell (World.block_lt_of_cell? w _ hw102_0)).trans hw102_0), ((HB.out.cell (World.block_lt_of_cell? w _ hw102_1)).trans hw102_1), ((HB.out.cell (World.block_lt_of_cell? w _ hw102_2)).trans hw102_2), ((HB.out.cell (World.block_lt_of_cell? w _ hw102_3)).trans hw102_3), ((HB.out.cell (World.block_lt_of_cell? w _ hw102_4)).trans hw102_4), ((HB.out.cell (World.block_lt_of_cell? w _ hw102_5)).trans hw102_5), ((HB.out.cell (World.block_lt_of_cell? w _ hw103_0)).trans hw103_0), ((HB.out.cell (World.block_lt_of_cell? w _ hw103_1)).trans hw103_1), ((HB.out.cell (World.block_lt_of_cell? w _ hw103_2)).trans hw103_2), ((HB.out.cell (World.block_lt_of_cell? w _ hw103_3)).trans hw103_3), ((HB.out.cell (World.block_lt_of_cell? w _ hw103_4)).trans hw103_4), ((HB.out.cell (World.block_lt_of_cell? w _ hw103_5)).trans hw103_5), ((HB.out.cell (World.block_lt_of_cell? w _ hw104_0)).trans hw104_0), ((HB.out.cell (World.block_lt_of_cell? w _ hw104_1)).trans hw104_1), ((HB.out.cell (World.block_lt_of_cell? w _ hw104_2)).trans hw104_2), ((HB.out.cell (World.block_lt_of_cell? w _ hw104_3)).trans hw104_3), ((HB.out.cell (World.block_lt_of_cell? w _ hw104_4)).trans hw104_4), ((HB.out.cell (World.block_lt_of_cell? w _ hw104_5)).trans hw104_5)⟩ (fun hHeld => ?_); refine with_tabW gouacheref03_Same.tab6 gouacheref03_Same.bits6 (fun HT_ HW_ => ?_)
                    generalize wr.drew = w12 at HB HR101_5 HR102_5 HR103_5 HR104_5 hx101_0 hx101_1 hx101_2 hx101_3 hx101_4 hx101_5 hx102_0 hx102_1 hx102_2 hx102_3 hx102_4 hx102_5 hx103_0 hx103_1 hx103_2 hx103_3 hx103_4 hx103_5 hx104_0 hx104_1 hx104_2 hx104_3 hx104_4 hx104_5 hHeld ⊢
                    refine pure_ (i := 0) (N := some 16) (v := ?_) (a' := ?_) #[true, false, false, false, false, false, false, false, false, false, false, false, false, false, false, false, false, false, false, false, false, false, false, false, false] rfl rfl (any_of HT_.out (by kernel_rfl)) (fun _ _ _ h => h) (Or.inl ⟨by rfl, ?_⟩) ?_ ?_
                    rotate_left
                    · intro w'
                      go_simp
                      with_reducible rfl
                    rotate_left
                    · simp only [Act.put, List.setIfInBounds_toArray, List.set_cons_zero, List.set_cons_succ, i64_w, i32_w]
                      rfl
                    refine pure_ (i := 1) (N := some 17) (v := ?_) (a' := ?_) #[true, true, false, false, false, false, false, false, false, false, false, false, false, false, false, false, false, false, false, false, false, false, false, false, false] rfl rfl (any_of HT_.out (by kernel_rfl)) (fun _ _ _ h => h) (Or.inl ⟨by rfl, ?_⟩) ?_ ?_
                    rotate_left
                    · intro w'
                      go_simp
                      with_reducible rfl
                    rotate_left
                    · simp only [Act.put, List.setIfInBounds_toArray, List.set_cons_zero, List.set_cons_succ, i64_w, i32_w]
                      rfl
                    refine pure_ (i := 2) (N := some 18) (v := ?_) (a' := ?_) #[true, true, true, false, false, false, false, false, false, false, false, false, false, false, false, false, false, false, false, false, false, false, false, false, false] rfl rfl (any_of HT_.out (by kernel_rfl)) (fun _ _ _ h => h) (Or.inl ⟨by rfl, ?_⟩) ?_ ?_
                    rotate_left
                    · intro w'
                      go_simp
                      with_reducible rfl
                    rotate_left
                    · simp only [Act.put, List.setIfInBounds_toArray, List.set_cons_zero, List.set_cons_succ, i64_w, i32_w]
                      rfl
                    refine pure_ (i := 3) (N := some 19) (v := ?_) (a' := ?_) #[true, true, true, true, false, false, false, false, false, false, false, false, false, false, false, false, false, false, false, false, false, false, false, false, false] rfl rfl (any_of HT_.out (by kernel_rfl)) (fun _ _ _ h => h) (Or.inl ⟨by rfl, ?_⟩) ?_ ?_
                    rotate_left
                    · intro w'
                      go_simp
                      with_reducible rfl
                    rotate_left
                    · simp only [Act.put, List.setIfInBounds_toArray, List.set_cons_zero, List.set_cons_succ, i64_w, i32_w]
                      rfl
                    refine pure_ (i := 5) (N := some 21) (v := ?_) (a' := ?_) #[true, true, true, true, false, true, false, false, false, false, false, false, false, false, false, false, false, false, false, false, false, false, false, false, false] rfl rfl (any_of HT_.out (by kernel_rfl)) (fun _ _ _ h => h) (Or.inl ⟨by rfl, ?_⟩) ?_ ?_
                    rotate_left
                    · intro w'
                      go_simp
                      with_reducible rfl
                    rotate_left
                    · simp only [Act.put, List.setIfInBounds_toArray, List.set_cons_zero, List.set_cons_succ, i64_w, i32_w]
                      rfl
                    refine pure_ (i := 6) (N := some 22) (v := ?_) (a' := ?_) #[true, true, true, true, false, true, true, false, false, false, false, false, false, false, false, false, false, false, false, false, false, false, false, false, false] rfl rfl (any_of HT_.out (by kernel_rfl)) (fun _ _ _ h => h) (Or.inl ⟨by rfl, ?_⟩) ?_ ?_
                    rotate_left
                    · intro w'
                      go_simp
                      with_reducible rfl
                    rotate_left
                    · simp only [Act.put, List.setIfInBounds_toArray, List.set_cons_zero, List.set_cons_succ, i64_w, i32_w]
                      rfl
                    refine pure_ (i := 7) (N := some 23) (v := ?_) (a' := ?_) #[true, true, true, true, false, true, true, true, false, false, false, false, false, false, false, false, false, false, false, false, false, false, false, false, false] rfl rfl (any_of HT_.out (by kernel_rfl)) (fun _ _ _ h => h) (Or.inl ⟨by rfl, ?_⟩) ?_ ?_
                    rotate_left
                    · intro w'
                      go_simp
                      with_reducible rfl
                    rotate_left
                    · simp only [Act.put, List.setIfInBounds_toArray, List.set_cons_zero, List.set_cons_succ, i64_w, i32_w]
                      rfl
                    refine pure_ (i := 8) (N := some 24) (v := ?_) (a' := ?_) #[true, true, true, true, false, true, true, true, true, false, false, false, false, false, false, false, false, false, false, false, false, false, false, false, false] rfl rfl (any_of HT_.out (by kernel_rfl)) (fun _ _ _ h => h) (Or.inl ⟨by rfl, ?_⟩) ?_ ?_
                    rotate_left
                    · intro w'
                      go_simp
                      with_reducible rfl
                    rotate_left
                    · simp only [Act.put, List.setIfInBounds_toArray, List.set_cons_zero, List.set_cons_succ, i64_w, i32_w]
                      rfl
                    refine take_ (i := 4) (N := some 20) (v := ?_) (a' := ?_) #[true, true, true, true, true, true, true, true, true, false, false, false, false, false, false, false, false, false, false, false, false, false, false, false, false] rfl rfl (take_ofW HT_.out HW_.out (by kernel_rfl)) (fun _ _ _ h => h) (Or.inl ⟨by rfl, ?_⟩) hHeld ?_ ?_
                    rotate_left
                    · rintro w' ⟨s0, s1, s2, s3, s4, s5, s6, s7, s8, s9, s10, s11, s12, s13, s14, s15, s16, s17, s18, s19, s20, s21, s22, s23⟩
                      go_simp
                      with_reducible rfl
                    rotate_left
                    · simp only [Act.put, List.setIfInBounds_toArray, List.set_cons_zero, List.set_cons_succ, i64_w, i32_w]
                      rfl
                    refine take_ (i := 9) (N := some 25) (v := ?_) (a' := ?_) #[true, true, true, true, true, true, true, true, true, true, false, false, false, false, false, false, false, false, false, false, false, false, false, false, false] rfl rfl (take_ofW HT_.out HW_.out (by kernel_rfl)) (fun _ _ _ h => h) (Or.inl ⟨by rfl, ?_⟩) hHeld ?_ ?_
                    rotate_left
                    · rintro w' ⟨s0, s1, s2, s3, s4, s5, s6, s7, s8, s9, s10, s11, s12, s13, s14, s15, s16, s17, s18, s19, s20, s21, s22, s23⟩
                      go_simp
                      with_reducible rfl
                    rotate_left
                    · simp only [Act.put, List.setIfInBounds_toArray, List.set_cons_zero, List.set_cons_succ, i64_w, i32_w]
                      rfl
                    refine pure_ (i := 10) (N := some 26) (v := ?_) (a' := ?_) #[true, true, true, true, true, true, true, true, true, true, true, false, false, false, false, false, false, false, false, false, false, false, false, false, false] rfl rfl (any_of HT_.out (by kernel_rfl)) (fun _ _ _ h => h) (Or.inl ⟨by rfl, ?_⟩) ?_ ?_
                    rotate_left
                    · intro w'
                      go_simp
                      with_reducible rfl
                    rotate_left
                    · simp only [Act.put, List.setIfInBounds_toArray, List.set_cons_zero, List.set_cons_succ, i64_w, i32_w]
                      rfl
                    refine pure_ (i := 11) (N := some 27) (v := ?_) (a' := ?_) #[true, true, true, true, true, true, true, true, true, true, true, true, false, false, false, false, false, false, false, false, false, false, false, false, false] rfl rfl (any_of HT_.out (by kernel_rfl)) (fun _ _ _ h => h) (Or.inl ⟨by rfl, ?_⟩) ?_ ?_
                    rotate_left
                    · intro w'
                      go_simp
                      with_reducible rfl
                    rotate_left
                    · simp only [Act.put, List.setIfInBounds_toArray, List.set_cons_zero, List.set_cons_succ, i64_w, i32_w]
                      rfl
                    refine pure_ (i := 12) (N := some 28) (v := ?_) (a' := ?_) #[true, true, true, true, true, true, true, true, true, true, true, true, true, false, false, false, false, false, false, false, false, false, false, false, false] rfl rfl (any_of HT_.out (by kernel_rfl)) (fun _ _ _ h => h) (Or.inl ⟨by rfl, ?_⟩) ?_ ?_
                    rotate_left
                    · intro w'
                      go_simp
                      with_reducible rfl
                    rotate_left
                    · simp only [Act.put, List.setIfInBounds_toArray, List.set_cons_zero, List.set_cons_succ, i64_w, i32_w]
                      rfl
                    refine pure_ (i := 13) (N := some 29) (v := ?_) (a' := ?_) #[true, true, true, true, true, true, true, true, true, true, true, true, true, true, false, false, false, false, false, false, false, false, false, false, false] rfl rfl (any_of HT_.out (by kernel_rfl)) (fun _ _ _ h => h) (Or.inl ⟨by rfl, ?_⟩) ?_ ?_
                    rotate_left
                    · intro w'
                      go_simp
                      with_reducible rfl
                    rotate_left
                    · simp only [Act.put, List.setIfInBounds_toArray, List.set_cons_zero, List.set_cons_succ, i64_w, i32_w]
                      rfl
                    refine pure_ (i := 14) (N := some 30) (v := ?_) (a' := ?_) #[true, true, true, true, true, true, true, true, true, true, true, true, true, true, true, false, false, false, false, false, false, false, false, false, false] rfl rfl (any_of HT_.out (by kernel_rfl)) (fun _ _ _ h => h) (Or.inl ⟨by rfl, ?_⟩) ?_ ?_
                    rotate_left
                    · intro w'
                      go_simp
                      with_reducible rfl
                    rotate_left
                    · simp only [Act.put, List.setIfInBounds_toArray, List.set_cons_zero, List.set_cons_succ, i64_w, i32_w]
                      rfl
                    refine pure_ (i := 15) (N := some 31) (v := ?_) (a' := ?_) #[true, true, true, true, true, true, true, true, true, true, true, true, true, true, true, true, false, false, false, false, false, false, false, false, false] rfl rfl (any_of HT_.out (by kernel_rfl)) (fun _ _ _ h => h) (Or.inl ⟨by rfl, ?_⟩) ?_ ?_
                    rotate_left
                    · intro w'
                      go_simp
                      with_reducible rfl
                    rotate_left
                    · simp only [Act.put, List.setIfInBounds_toArray, List.set_cons_zero, List.set_cons_succ, i64_w, i32_w]
                      rfl
                    refine pure_ (i := 17) (N := some 33) (v := ?_) (a' := ?_) #[true, true, true, true, true, true, true, true, true, true, true, true, true, true, true, true, false, true, false, false, false, false, false, false, false] rfl rfl (any_of HT_.out (by kernel_rfl)) (fun _ _ _ h => h) (Or.inl ⟨by rfl, ?_⟩) ?_ ?_
                    rotate_left
                    · intro w'
                      go_simp
                      with_reducible rfl
                    rotate_left
                    · simp only [Act.put, List.setIfInBounds_toArray, List.set_cons_zero, List.set_cons_succ, i64_w, i32_w]
                      rfl
                    refine pure_ (i := 18) (N := some 34) (v := ?_) (a' := ?_) #[true, true, true, true, true, true, true, true, true, true, true, true, true, true, true, true, false, true, true, false, false, false, false, false, false] rfl rfl (any_of HT_.out (by kernel_rfl)) (fun _ _ _ h => h) (Or.inl ⟨by rfl, ?_⟩) ?_ ?_
                    rotate_left
                    · intro w'
                      go_simp
                      with_reducible rfl
                    rotate_left
                    · simp only [Act.put, List.setIfInBounds_toArray, List.set_cons_zero, List.set_cons_succ, i64_w, i32_w]
                      rfl
                    refine pure_ (i := 19) (N := some 35) (v := ?_) (a' := ?_) #[true, true, true, true, true, true, true, true, true, true, true, true, true, true, true, true, false, true, true, true, false, false, false, false, false] rfl rfl (any_of HT_.out (by kernel_rfl)) (fun _ _ _ h => h) (Or.inl ⟨by rfl, ?_⟩) ?_ ?_
                    rotate_left
                    · intro w'
                      go_simp
                      with_reducible rfl
                    rotate_left
                    · simp only [Act.put, List.setIfInBounds_toArray, List.set_cons_zero, List.set_cons_succ, i64_w, i32_w]
                      rfl
                    refine pure_ (i := 20) (N := some 36) (v := ?_) (a' := ?_) #[true, true, true, true, true, true, true, true, true, true, true, true, true, true, true, true, false, true, true, true, true, false, false, false, false] rfl rfl (any_of HT_.out (by kernel_rfl)) (fun _ _ _ h => h) (Or.inl ⟨by rfl, ?_⟩) ?_ ?_
                    rotate_left
                    · intro w'
                      go_simp
                      with_reducible rfl
                    rotate_left
                    · simp only [Act.put, List.setIfInBounds_toArray, List.set_cons_zero, List.set_cons_succ, i64_w, i32_w]
                      rfl
                    refine take_ (i := 16) (N := some 32) (v := ?_) (a' := ?_) #[true, true, true, true, true, true, true, true, true, true, true, true, true, true, true, true, true, true, true, true, true, false, false, false, false] rfl rfl (take_ofW HT_.out HW_.out (by kernel_rfl)) (fun _ _ _ h => h) (Or.inl ⟨by rfl, ?_⟩) hHeld ?_ ?_
                    rotate_left
                    · rintro w' ⟨s0, s1, s2, s3, s4, s5, s6, s7, s8, s9, s10, s11, s12, s13, s14, s15, s16, s17, s18, s19, s20, s21, s22, s23⟩
                      go_simp
                      with_reducible rfl
                    rotate_left
                    · simp only [Act.put, List.setIfInBounds_toArray, List.set_cons_zero, List.set_cons_succ, i64_w, i32_w]
                      rfl
                    refine take_ (i := 21) (N := some 37) (v := ?_) (a' := ?_) #[true, true, true, true, true, true, true, true, true, true, true, true, true, true, true, true, true, true, true, true, true, true, false, false, false] rfl rfl (take_ofW HT_.out HW_.out (by kernel_rfl)) (fun _ _ _ h => h) (Or.inl ⟨by rfl, ?_⟩) hHeld ?_ ?_
                    rotate_left
                    · rintro w' ⟨s0, s1, s2, s3, s4, s5, s6, s7, s8, s9, s10, s11, s12, s13, s14, s15, s16, s17, s18, s19, s20, s21, s22, s23⟩
                      go_simp
                      with_reducible rfl
                    rotate_left
                    · simp only [Act.put, List.setIfInBounds_toArray, List.set_cons_zero, List.set_cons_succ, i64_w, i32_w]
                      rfl
                    refine one_ (i := 22) (N := some 38) #[true, true, true, true, true, true, true, true, true, true, true, true, true, true, true, true, true, true, true, true, true, true, true, false, false] rfl rfl (one_of HT_.out (by kernel_rfl)) (by decide) (fun K hK => ?_)
                    refine goes_ Try.func11 (by kernel_rfl) rfl #[.slice A101_5 ((rd_T45 l0 x13_1).f1).length c101_5, .slice A102_5 ((rd_T45 l1 x13_1).f1).length c102_5] (by rfl) rfl rfl (by (try simp only [List.map_toArray, List.map_cons, List.map_nil]); first | done | rfl | (simp only [List.length_drop, List.length_take]; rfl)) ?_
                    with_reducible refine (ih k1 (by have := HK1.out; omega) _ _ ((rd_T45 l0 x13_1).f1) _ _ ((rd_T45 l1 x13_1).f1) true _ ?side1 ?side2 ?side3 ?side4 A10.out).mono ?_
                    (case side1 => repeat (first | exact (Kd.C_below HR103_5.out HB.out) | (with_reducible refine Kd.C_alloc ?_ _) | (with_reducible refine Kd.C_drewN ?_ _) | (with_reducible refine Kd.C_drew ?_)))
                    (case side2 => exact HC103_5.out)
                    (case side3 => repeat (first | exact (Kd.C_below HR104_5.out HB.out) | (with_reducible refine Kd.C_alloc ?_ _) | (with_reducible refine Kd.C_drewN ?_ _) | (with_reducible refine Kd.C_drew ?_)))
                    (case side4 => exact HC104_5.out)
                    rintro e w13 ⟨rfl, hb⟩
                    refine ⟨_, rfl, ?_⟩
                    have n0_ := Aside0.mk (below_step (by repeat (first | (with_reducible first | exact HB.out | apply below_alloc | apply pw_below_drewN | apply below_drew1) | exact HB.out)) hb)
                    clear HB
                    have HB := n0_
                    clear n0_
                    (try clear hb)
                    (try clear hb2)
                    (try clear hk)
                    (try clear hi)
                    refine hK.out _ _ ⟨((HB.out.cell (World.block_lt_of_cell? w _ hw101_0)).trans hw101_0), ((HB.out.cell (World.block_lt_of_cell? w _ hw101_1)).trans hw101_1), ((HB.out.cell (World.block_lt_of_cell? w _ hw101_2)).trans hw101_2), ((HB.out.cell (World.block_lt_of_cell? w _ hw101_3)).trans hw101_3), ((HB.out.cell (World.block_lt_of_cell? w _ hw101_4)).trans hw101_4), ((HB.out.cell (World.block_lt_of_cell? w _ hw101_5)).trans hw101_5), ((HB.out.cell (World.block_lt_of_cell? w _ hw102_0)).trans hw102_0), ((HB.out.cell (World.block_lt_of_cell? w _ hw102_1)).trans hw102_1), ((HB.out.cell (World.block_lt_of_cell? w _ hw102_2)).trans hw102_2), ((HB.out.cell (World.block_lt_of_cell? w _ hw102_3)).trans hw102_3), ((HB.out.cell (World.block_lt_of_cell? w _ hw102_4)).trans hw102_4), ((HB.out.cell (World.block_lt_of_cell? w _ hw102_5)).trans hw102_5), ((HB.out.cell (World.block_lt_of_cell? w _ hw103_0)).trans hw103_0), ((HB.out.cell (World.block_lt_of_cell? w _ hw103_1)).trans hw103_1), ((HB.out.cell (World.block_lt_of_cell? w _ hw103_2)).trans hw103_2), ((HB.out.cell (World.block_lt_of_cell? w _ hw103_3)).trans hw103_3), ((HB.out.cell (World.block_lt_of_cell? w _ hw103_4)).trans hw103_4), ((HB.out.cell (World.block_lt_of_cell? w _ hw103_5)).trans hw103_5), ((HB.out.cell (World.block_lt_of_cell? w _ hw104_0)).trans hw104_0), ((HB.out.cell (World.block_lt_of_cell? w _ hw104_1)).trans hw104_1), ((HB.out.cell (World.block_lt_of_cell? w _ hw104_2)).trans hw104_2), ((HB.out.cell (World.block_lt_of_cell? w _ hw104_3)).trans hw104_3), ((HB.out.cell (World.block_lt_of_cell? w _ hw104_4)).trans hw104_4), ((HB.out.cell (World.block_lt_of_cell? w _ hw104_5)).trans hw104_5)⟩ (fun hHeld => ?_)
                    clear hK K
                    refine norm_ (a' := ?_) ?_ ?_
                    rotate_left
                    · show Act.put _ (some 38) _ = _
                      simp only [Act.put, List.setIfInBounds_toArray, List.set_cons_zero, List.set_cons_succ, i64_w, i32_w]
                      rfl
                    refine pure_ (i := 23) (N := some 39) (v := ?_) (a' := ?_) #[true, true, true, true, true, true, true, true, true, true, true, true, true, true, true, true, true, true, true, true, true, true, true, true, false] rfl rfl (any_of HT_.out (by kernel_rfl)) (fun _ _ _ h => h) (Or.inl ⟨by rfl, ?_⟩) ?_ ?_
                    rotate_left
                    · intro w'
                      go_simp
                      with_reducible rfl
                    rotate_left
                    · simp only [Act.put, List.setIfInBounds_toArray, List.set_cons_zero, List.set_cons_succ, i64_w, i32_w]
                      rfl
                    refine pure_ (i := 24) (N := some 40) (v := ?_) (a' := ?_) #[true, true, true, true, true, true, true, true, true, true, true, true, true, true, true, true, true, true, true, true, true, true, true, true, true] rfl rfl (any_of HT_.out (by kernel_rfl)) (fun _ _ _ h => h) (Or.inl ⟨by rfl, ?_⟩) ?_ ?_
                    rotate_left
                    · intro w'
                      go_simp
                      with_reducible rfl
                    rotate_left
                    · simp only [Act.put, List.setIfInBounds_toArray, List.set_cons_zero, List.set_cons_succ, i64_w, i32_w]
                      rfl
                    refine done_ (done_of HT_.out (by kernel_rfl)) ?_
                    try go_wp2
                    go_roundg k1
                    case measure => have := HK1.out; omega
                    case rel => exact ⟨(wrap64 (x13_1 + 1)), (by first | rfl | (simp; done) | (simp [*]; done)), H', ⟨by have := HK1.out; omega⟩, ⟨by repeat (first | (with_reducible first | exact HB.out | apply below_alloc | apply pw_below_drewN | apply below_drew1) | exact HB.out)⟩⟩
                  · replace c11 := Bool.eq_false_iff.mpr c11
                    subst c11
                    have H1 : (some false) = some r := by rw [if_neg (show ¬ (false = true) by decide)] at H; exact H
                    clear H
                    have H := H1
                    clear H1
                    obtain rfl := Option.some.inj H
                    try go_wp2
                    have n0_ := Aside0.mk (below_drew1 HB.out)
                    clear HB
                    have HB := n0_
                    clear n0_
                    have p101 : 0 ≤ (x13_1 : Int) := of_decide_eq_true (by first | (with_reducible assumption) | assumption)
                    have q101 : x13_1 < (l0.length : Int) := of_decide_eq_true (by first | (with_reducible assumption) | assumption)
                    obtain ⟨ad101, A101_5, c101_5, e101, hx101_0, hx101_1, hx101_2, hx101_3, hx101_4, hx101_5, hl101_5, hi101_5⟩ := at_T45 HR0.out x13_1 p101 q101
                    have hw101_5 := hx101_5
                    have hw101_4 := hx101_4
                    have hw101_3 := hx101_3
                    have hw101_2 := hx101_2
                    have hw101_1 := hx101_1
                    have hw101_0 := hx101_0
                    cases e101
                    replace hx101_0 := (HB.out.cell (World.block_lt_of_cell? w _ hx101_0)).trans hx101_0
                    replace hx101_1 := (HB.out.cell (World.block_lt_of_cell? w _ hx101_1)).trans hx101_1
                    replace hx101_2 := (HB.out.cell (World.block_lt_of_cell? w _ hx101_2)).trans hx101_2
                    replace hx101_3 := (HB.out.cell (World.block_lt_of_cell? w _ hx101_3)).trans hx101_3
                    replace hx101_4 := (HB.out.cell (World.block_lt_of_cell? w _ hx101_4)).trans hx101_4
                    replace hx101_5 := (HB.out.cell (World.block_lt_of_cell? w _ hx101_5)).trans hx101_5
                    have HR101_5 := Aside0.mk hi101_5
                    have HC101_5 := Aside0.mk hl101_5
                    clear hi101_5 hl101_5
                    replace p101 := eq_true p101
                    replace q101 := eq_true q101
                    have p102 : 0 ≤ (x13_1 : Int) := of_decide_eq_true (by first | (with_reducible assumption) | assumption)
                    have q102 : x13_1 < (l1.length : Int) := of_decide_eq_true (by first | (with_reducible assumption) | assumption)
                    obtain ⟨ad102, A102_5, c102_5, e102, hx102_0, hx102_1, hx102_2, hx102_3, hx102_4, hx102_5, hl102_5, hi102_5⟩ := at_T45 HR1.out x13_1 p102 q102
                    have hw102_5 := hx102_5
                    have hw102_4 := hx102_4
                    have hw102_3 := hx102_3
                    have hw102_2 := hx102_2
                    have hw102_1 := hx102_1
                    have hw102_0 := hx102_0
                    cases e102
                    replace hx102_0 := (HB.out.cell (World.block_lt_of_cell? w _ hx102_0)).trans hx102_0
                    replace hx102_1 := (HB.out.cell (World.block_lt_of_cell? w _ hx102_1)).trans hx102_1
                    replace hx102_2 := (HB.out.cell (World.block_lt_of_cell? w _ hx102_2)).trans hx102_2
                    replace hx102_3 := (HB.out.cell (World.block_lt_of_cell? w _ hx102_3)).trans hx102_3
                    replace hx102_4 := (HB.out.cell (World.block_lt_of_cell? w _ hx102_4)).trans hx102_4
                    replace hx102_5 := (HB.out.cell (World.block_lt_of_cell? w _ hx102_5)).trans hx102_5
                    have HR102_5 := Aside0.mk hi102_5
                    have HC102_5 := Aside0.mk hl102_5
                    clear hi102_5 hl102_5
                    replace p102 := eq_true p102
                    replace q102 := eq_true q102
                    have p103 : 0 ≤ (x13_1 : Int) := of_decide_eq_true (by first | (with_reducible assumption) | assumption)
                    have q103 : x13_1 < (l0.length : Int) := of_decide_eq_true (by first | (with_reducible assumption) | assumption)
                    obtain ⟨ad103, A103_5, c103_5, e103, hx103_0, hx103_1, hx103_2, hx103_3, hx103_4, hx103_5, hl103_5, hi103_5⟩ := at_T45 HR0.out x13_1 p103 q103
                    have hw103_5 := hx103_5
                    have hw103_4 := hx103_4
                    have hw103_3 := hx103_3
                    have hw103_2 := hx103_2
                    have hw103_1 := hx103_1
                    have hw103_0 := hx103_0
                    obtain rfl : ad101 = ad103 := (by injection e103)
                    replace hx103_0 := (HB.out.cell (World.block_lt_of_cell? w _ hx103_0)).trans hx103_0
                    replace hx103_1 := (HB.out.cell (World.block_lt_of_cell? w _ hx103_1)).trans hx103_1
                    replace hx103_2 := (HB.out.cell (World.block_lt_of_cell? w _ hx103_2)).trans hx103_2
                    replace hx103_3 := (HB.out.cell (World.block_lt_of_cell? w _ hx103_3)).trans hx103_3
                    replace hx103_4 := (HB.out.cell (World.block_lt_of_cell? w _ hx103_4)).trans hx103_4
                    replace hx103_5 := (HB.out.cell (World.block_lt_of_cell? w _ hx103_5)).trans hx103_5
                    have HR103_5 := Aside0.mk hi103_5
                    have HC103_5 := Aside0.mk hl103_5
                    clear hi103_5 hl103_5
                    replace p103 := eq_true p103
                    replace q103 := eq_true q103
                    have ea_ := Option.some.inj (hx101_5.symm.trans hx103_5)
                    injection ea_ with ea_ en_ ec_
                    subst ea_
                    subst ec_
                    clear en_
                    have p104 : 0 ≤ (x13_1 : Int) := of_decide_eq_true (by first | (with_reducible assumption) | assumption)
                    have q104 : x13_1 < (l1.length : Int) := of_decide_eq_true (by first | (with_reducible assumption) | assumption)
                    obtain ⟨ad104, A104_5, c104_5, e104, hx104_0, hx104_1, hx104_2, hx104_3, hx104_4, hx104_5, hl104_5, hi104_5⟩ := at_T45 HR1.out x13_1 p104 q104
                    have hw104_5 := hx104_5
                    have hw104_4 := hx104_4
                    have hw104_3 := hx104_3
                    have hw104_2 := hx104_2
                    have hw104_1 := hx104_1
                    have hw104_0 := hx104_0
                    obtain rfl : ad102 = ad104 := (by injection e104)
                    replace hx104_0 := (HB.out.cell (World.block_lt_of_cell? w _ hx104_0)).trans hx104_0
                    replace hx104_1 := (HB.out.cell (World.block_lt_of_cell? w _ hx104_1)).trans hx104_1
                    replace hx104_2 := (HB.out.cell (World.block_lt_of_cell? w _ hx104_2)).trans hx104_2
                    replace hx104_3 := (HB.out.cell (World.block_lt_of_cell? w _ hx104_3)).trans hx104_3
                    replace hx104_4 := (HB.out.cell (World.block_lt_of_cell? w _ hx104_4)).trans hx104_4
                    replace hx104_5 := (HB.out.cell (World.block_lt_of_cell? w _ hx104_5)).trans hx104_5
                    have HR104_5 := Aside0.mk hi104_5
                    have HC104_5 := Aside0.mk hl104_5
                    clear hi104_5 hl104_5
                    replace p104 := eq_true p104
                    replace q104 := eq_true q104
                    have ea_ := Option.some.inj (hx102_5.symm.trans hx104_5)
                    injection ea_ with ea_ en_ ec_
                    subst ea_
                    subst ec_
                    clear en_
                    refine start_ (n := 25) (S := fun w' => w'.cell? (ad101.add ((x13_1).toNat * 6)) = some (.int .i64 ((rd_T45 l0 x13_1).f0.f0)) ∧ w'.cell? ⟨(ad101.add ((x13_1).toNat * 6)).block, (ad101.add ((x13_1).toNat * 6)).off + 1, none⟩ = some (.string ((rd_T45 l0 x13_1).f0.f1)) ∧ w'.cell? ⟨(ad101.add ((x13_1).toNat * 6)).block, (ad101.add ((x13_1).toNat * 6)).off + 2, none⟩ = some (.string ((rd_T45 l0 x13_1).f0.f2)) ∧ w'.cell? ⟨(ad101.add ((x13_1).toNat * 6)).block, (ad101.add ((x13_1).toNat * 6)).off + 3, none⟩ = some (.bool ((rd_T45 l0 x13_1).f0.f3)) ∧ w'.cell? ⟨(ad101.add ((x13_1).toNat * 6)).block, (ad101.add ((x13_1).toNat * 6)).off + 4, none⟩ = some (.bool ((rd_T45 l0 x13_1).f0.f4)) ∧ w'.cell? ⟨(ad101.add ((x13_1).toNat * 6)).block, (ad101.add ((x13_1).toNat * 6)).off + 5, none⟩ = some (.slice A101_5 ((rd_T45 l0 x13_1).f1).length c101_5) ∧ w'.cell? (ad102.add ((x13_1).toNat * 6)) = some (.int .i64 ((rd_T45 l1 x13_1).f0.f0)) ∧ w'.cell? ⟨(ad102.add ((x13_1).toNat * 6)).block, (ad102.add ((x13_1).toNat * 6)).off + 1, none⟩ = some (.string ((rd_T45 l1 x13_1).f0.f1)) ∧ w'.cell? ⟨(ad102.add ((x13_1).toNat * 6)).block, (ad102.add ((x13_1).toNat * 6)).off + 2, none⟩ = some (.string ((rd_T45 l1 x13_1).f0.f2)) ∧ w'.cell? ⟨(ad102.add ((x13_1).toNat * 6)).block, (ad102.add ((x13_1).toNat * 6)).off + 3, none⟩ = some (.bool ((rd_T45 l1 x13_1).f0.f3)) ∧ w'.cell? ⟨(ad102.add ((x13_1).toNat * 6)).block, (ad102.add ((x13_1).toNat * 6)).off + 4, none⟩ = some (.bool ((rd_T45 l1 x13_1).f0.f4)) ∧ w'.cell? ⟨(ad102.add ((x13_1).toNat * 6)).block, (ad102.add ((x13_1).toNat * 6)).off + 5, none⟩ = some (.slice A102_5 ((rd_T45 l1 x13_1).f1).length c102_5) ∧ w'.cell? (ad101.add ((x13_1).toNat * 6)) = some (.int .i64 ((rd_T45 l0 x13_1).f0.f0)) ∧ w'.cell? ⟨(ad101.add ((x13_1).toNat * 6)).block, (ad101.add ((x13_1).toNat * 6)).off + 1, none⟩ = some (.string ((rd_T45 l0 x13_1).f0.f1)) ∧ w'.cell? ⟨(ad101.add ((x13_1).toNat * 6)).block, (ad101.add ((x13_1).toNat * 6)).off + 2, none⟩ = some (.string ((rd_T45 l0 x13_1).f0.f2)) ∧ w'.cell? ⟨(ad101.add ((x13_1).toNat * 6)).block, (ad101.add ((x13_1).toNat * 6)).off + 3, none⟩ = some (.bool ((rd_T45 l0 x13_1).f0.f3)) ∧ w'.cell? ⟨(ad101.add ((x13_1).toNat * 6)).block, (ad101.add ((x13_1).toNat * 6)).off + 4, none⟩ = some (.bool ((rd_T45 l0 x13_1).f0.f4)) ∧ w'.cell? ⟨(ad101.add ((x13_1).toNat * 6)).block, (ad101.add ((x13_1).toNat * 6)).off + 5, none⟩ = some (.slice A101_5 ((rd_T45 l0 x13_1).f1).length c101_5) ∧ w'.cell? (ad102.add ((x13_1).toNat * 6)) = some (.int .i64 ((rd_T45 l1 x13_1).f0.f0)) ∧ w'.cell? ⟨(ad102.add ((x13_1).toNat * 6)).block, (ad102.add ((x13_1).toNat * 6)).off + 1, none⟩ = some (.string ((rd_T45 l1 x13_1).f0.f1)) ∧ w'.cell? ⟨(ad102.add ((x13_1).toNat * 6)).block, (ad102.add ((x13_1).toNat * 6)).off + 2, none⟩ = some (.string ((rd_T45 l1 x13_1).f0.f2)) ∧ w'.cell? ⟨(ad102.add ((x13_1).toNat * 6)).block, (ad102.add ((x13_1).toNat * 6)).off + 3, none⟩ = some (.bool ((rd_T45 l1 x13_1).f0.f3)) ∧ w'.cell? ⟨(ad102.add ((x13_1).toNat * 6)).block, (ad102.add ((x13_1).toNat * 6)).off + 4, none⟩ = some (.bool ((rd_T45 l1 x13_1).f0.f4)) ∧ w'.cell? ⟨(ad102.add ((x13_1).toNat * 6)).block, (ad102.add ((x13_1).toNat * 6)).off + 5, none⟩ = some (.slice A102_5 ((rd_T45 l1 x13_1).f1).length c102_5)) (ds := []) #[false, false, false, false, false, false, false, false, false, false, false, false, false, false, false, false, false, false, false, false, false, false, false, false, false] (by kernel_rfl) rfl rfl ⟨((HB.out.cell (World.block_lt_of_cell? w _ hw101_0)).trans hw101_0), ((HB.out.cell (World.block_lt_of_cell? w _ hw101_1)).trans hw101_1), ((HB.out.cell (World.block_lt_of_cell? w _ hw101_2)).trans hw101_2), ((HB.out.cell (World.block_lt_of_cell? w _ hw101_3)).trans hw101_3), ((HB.out.cell (World.block_lt_of_cell? w _ hw101_4)).trans hw101_4), ((HB.out.cell (World.block_lt_of_cell? w _ hw101_5)).trans hw101_5), ((HB.out.cell (World.block_lt_of_cell? w _ hw102_0)).trans hw102_0), ((HB.out.cell (World.block_lt_of_cell? w _ hw102_1)).trans hw102_1), ((HB.out.cell (World.block_lt_of_cell? w _ hw102_2)).trans hw102_2), ((HB.out.cell (World.block_lt_of_cell? w _ hw102_3)).trans hw102_3), ((HB.out.cell (World.block_lt_of_cell? w _ hw102_4)).trans hw102_4), ((HB.out.cell (World.block_lt_of_cell? w _ hw102_5)).trans hw102_5), ((HB.out.cell (World.block_lt_of_cell? w _ hw103_0)).trans hw103_0), ((HB.out.cell (World.block_lt_of_cell? w _ hw103_1)).trans hw103_1), ((HB.out.cell (World.block_lt_of_cell? w _ hw103_2)).trans hw103_2), ((HB.out.cell (World.block_lt_of_cell? w _ hw103_3)).trans hw103_3), ((HB.out.cell (World.block_lt_of_cell? w _ hw103_4)).trans hw103_4), ((HB.out.cell (World.block_lt_of_cell? w _ hw103_5)).trans hw103_5), ((HB.out.cell (World.block_lt_of_cell? w _ hw104_0)).trans hw104_0), ((HB.out.cell (World.block_lt_of_cell? w _ hw104_1)).trans hw104_1), ((HB.out.cell (World.block_lt_of_cell? w _ hw104_2)).trans hw104_2), ((HB.out.cell (World.block_lt_of_cell? w _ hw104_3)).trans hw104_3), ((HB.out.cell (World.block_lt_of_cell? w _ hw104_4)).trans hw104_4), ((HB.out.cell (World.block_lt_of_cell? w _ hw104_5)).trans hw104_5)⟩ (fun hHeld => ?_); refine with_tabW gouacheref03_Same.tab6 gouacheref03_Same.bits6 (fun HT_ HW_ => ?_)
                    generalize wr.drew = w14 at HB HR101_5 HR102_5 HR103_5 HR104_5 hx101_0 hx101_1 hx101_2 hx101_3 hx101_4 hx101_5 hx102_0 hx102_1 hx102_2 hx102_3 hx102_4 hx102_5 hx103_0 hx103_1 hx103_2 hx103_3 hx103_4 hx103_5 hx104_0 hx104_1 hx104_2 hx104_3 hx104_4 hx104_5 hHeld ⊢
                    refine pure_ (i := 0) (N := some 16) (v := ?_) (a' := ?_) #[true, false, false, false, false, false, false, false, false, false, false, false, false, false, false, false, false, false, false, false, false, false, false, false, false] rfl rfl (any_of HT_.out (by kernel_rfl)) (fun _ _ _ h => h) (Or.inl ⟨by rfl, ?_⟩) ?_ ?_
                    rotate_left
                    · intro w'
                      go_simp
                      with_reducible rfl
                    rotate_left
                    · simp only [Act.put, List.setIfInBounds_toArray, List.set_cons_zero, List.set_cons_succ, i64_w, i32_w]
                      rfl
                    refine pure_ (i := 1) (N := some 17) (v := ?_) (a' := ?_) #[true, true, false, false, false, false, false, false, false, false, false, false, false, false, false, false, false, false, false, false, false, false, false, false, false] rfl rfl (any_of HT_.out (by kernel_rfl)) (fun _ _ _ h => h) (Or.inl ⟨by rfl, ?_⟩) ?_ ?_
                    rotate_left
                    · intro w'
                      go_simp
                      with_reducible rfl
                    rotate_left
                    · simp only [Act.put, List.setIfInBounds_toArray, List.set_cons_zero, List.set_cons_succ, i64_w, i32_w]
                      rfl
                    refine pure_ (i := 2) (N := some 18) (v := ?_) (a' := ?_) #[true, true, true, false, false, false, false, false, false, false, false, false, false, false, false, false, false, false, false, false, false, false, false, false, false] rfl rfl (any_of HT_.out (by kernel_rfl)) (fun _ _ _ h => h) (Or.inl ⟨by rfl, ?_⟩) ?_ ?_
                    rotate_left
                    · intro w'
                      go_simp
                      with_reducible rfl
                    rotate_left
                    · simp only [Act.put, List.setIfInBounds_toArray, List.set_cons_zero, List.set_cons_succ, i64_w, i32_w]
                      rfl
                    refine pure_ (i := 3) (N := some 19) (v := ?_) (a' := ?_) #[true, true, true, true, false, false, false, false, false, false, false, false, false, false, false, false, false, false, false, false, false, false, false, false, false] rfl rfl (any_of HT_.out (by kernel_rfl)) (fun _ _ _ h => h) (Or.inl ⟨by rfl, ?_⟩) ?_ ?_
                    rotate_left
                    · intro w'
                      go_simp
                      with_reducible rfl
                    rotate_left
                    · simp only [Act.put, List.setIfInBounds_toArray, List.set_cons_zero, List.set_cons_succ, i64_w, i32_w]
                      rfl
                    refine pure_ (i := 5) (N := some 21) (v := ?_) (a' := ?_) #[true, true, true, true, false, true, false, false, false, false, false, false, false, false, false, false, false, false, false, false, false, false, false, false, false] rfl rfl (any_of HT_.out (by kernel_rfl)) (fun _ _ _ h => h) (Or.inl ⟨by rfl, ?_⟩) ?_ ?_
                    rotate_left
                    · intro w'
                      go_simp
                      with_reducible rfl
                    rotate_left
                    · simp only [Act.put, List.setIfInBounds_toArray, List.set_cons_zero, List.set_cons_succ, i64_w, i32_w]
                      rfl
                    refine pure_ (i := 6) (N := some 22) (v := ?_) (a' := ?_) #[true, true, true, true, false, true, true, false, false, false, false, false, false, false, false, false, false, false, false, false, false, false, false, false, false] rfl rfl (any_of HT_.out (by kernel_rfl)) (fun _ _ _ h => h) (Or.inl ⟨by rfl, ?_⟩) ?_ ?_
                    rotate_left
                    · intro w'
                      go_simp
                      with_reducible rfl
                    rotate_left
                    · simp only [Act.put, List.setIfInBounds_toArray, List.set_cons_zero, List.set_cons_succ, i64_w, i32_w]
                      rfl
                    refine pure_ (i := 7) (N := some 23) (v := ?_) (a' := ?_) #[true, true, true, true, false, true, true, true, false, false, false, false, false, false, false, false, false, false, false, false, false, false, false, false, false] rfl rfl (any_of HT_.out (by kernel_rfl)) (fun _ _ _ h => h) (Or.inl ⟨by rfl, ?_⟩) ?_ ?_
                    rotate_left
                    · intro w'
                      go_simp
                      with_reducible rfl
                    rotate_left
                    · simp only [Act.put, List.setIfInBounds_toArray, List.set_cons_zero, List.set_cons_succ, i64_w, i32_w]
                      rfl
                    refine pure_ (i := 8) (N := some 24) (v := ?_) (a' := ?_) #[true, true, true, true, false, true, true, true, true, false, false, false, false, false, false, false, false, false, false, false, false, false, false, false, false] rfl rfl (any_of HT_.out (by kernel_rfl)) (fun _ _ _ h => h) (Or.inl ⟨by rfl, ?_⟩) ?_ ?_
                    rotate_left
                    · intro w'
                      go_simp
                      with_reducible rfl
                    rotate_left
                    · simp only [Act.put, List.setIfInBounds_toArray, List.set_cons_zero, List.set_cons_succ, i64_w, i32_w]
                      rfl
                    refine take_ (i := 4) (N := some 20) (v := ?_) (a' := ?_) #[true, true, true, true, true, true, true, true, true, false, false, false, false, false, false, false, false, false, false, false, false, false, false, false, false] rfl rfl (take_ofW HT_.out HW_.out (by kernel_rfl)) (fun _ _ _ h => h) (Or.inl ⟨by rfl, ?_⟩) hHeld ?_ ?_
                    rotate_left
                    · rintro w' ⟨s0, s1, s2, s3, s4, s5, s6, s7, s8, s9, s10, s11, s12, s13, s14, s15, s16, s17, s18, s19, s20, s21, s22, s23⟩
                      go_simp
                      with_reducible rfl
                    rotate_left
                    · simp only [Act.put, List.setIfInBounds_toArray, List.set_cons_zero, List.set_cons_succ, i64_w, i32_w]
                      rfl
                    refine take_ (i := 9) (N := some 25) (v := ?_) (a' := ?_) #[true, true, true, true, true, true, true, true, true, true, false, false, false, false, false, false, false, false, false, false, false, false, false, false, false] rfl rfl (take_ofW HT_.out HW_.out (by kernel_rfl)) (fun _ _ _ h => h) (Or.inl ⟨by rfl, ?_⟩) hHeld ?_ ?_
                    rotate_left
                    · rintro w' ⟨s0, s1, s2, s3, s4, s5, s6, s7, s8, s9, s10, s11, s12, s13, s14, s15, s16, s17, s18, s19, s20, s21, s22, s23⟩
                      go_simp
                      with_reducible rfl
                    rotate_left
                    · simp only [Act.put, List.setIfInBounds_toArray, List.set_cons_zero, List.set_cons_succ, i64_w, i32_w]
                      rfl
                    refine pure_ (i := 10) (N := some 26) (v := ?_) (a' := ?_) #[true, true, true, true, true, true, true, true, true, true, true, false, false, false, false, false, false, false, false, false, false, false, false, false, false] rfl rfl (any_of HT_.out (by kernel_rfl)) (fun _ _ _ h => h) (Or.inl ⟨by rfl, ?_⟩) ?_ ?_
                    rotate_left
                    · intro w'
                      go_simp
                      with_reducible rfl
                    rotate_left
                    · simp only [Act.put, List.setIfInBounds_toArray, List.set_cons_zero, List.set_cons_succ, i64_w, i32_w]
                      rfl
                    refine pure_ (i := 11) (N := some 27) (v := ?_) (a' := ?_) #[true, true, true, true, true, true, true, true, true, true, true, true, false, false, false, false, false, false, false, false, false, false, false, false, false] rfl rfl (any_of HT_.out (by kernel_rfl)) (fun _ _ _ h => h) (Or.inl ⟨by rfl, ?_⟩) ?_ ?_
                    rotate_left
                    · intro w'
                      go_simp
                      with_reducible rfl
                    rotate_left
                    · simp only [Act.put, List.setIfInBounds_toArray, List.set_cons_zero, List.set_cons_succ, i64_w, i32_w]
                      rfl
                    refine pure_ (i := 12) (N := some 28) (v := ?_) (a' := ?_) #[true, true, true, true, true, true, true, true, true, true, true, true, true, false, false, false, false, false, false, false, false, false, false, false, false] rfl rfl (any_of HT_.out (by kernel_rfl)) (fun _ _ _ h => h) (Or.inl ⟨by rfl, ?_⟩) ?_ ?_
                    rotate_left
                    · intro w'
                      go_simp
                      with_reducible rfl
                    rotate_left
                    · simp only [Act.put, List.setIfInBounds_toArray, List.set_cons_zero, List.set_cons_succ, i64_w, i32_w]
                      rfl
                    refine pure_ (i := 13) (N := some 29) (v := ?_) (a' := ?_) #[true, true, true, true, true, true, true, true, true, true, true, true, true, true, false, false, false, false, false, false, false, false, false, false, false] rfl rfl (any_of HT_.out (by kernel_rfl)) (fun _ _ _ h => h) (Or.inl ⟨by rfl, ?_⟩) ?_ ?_
                    rotate_left
                    · intro w'
                      go_simp
                      with_reducible rfl
                    rotate_left
                    · simp only [Act.put, List.setIfInBounds_toArray, List.set_cons_zero, List.set_cons_succ, i64_w, i32_w]
                      rfl
                    refine pure_ (i := 14) (N := some 30) (v := ?_) (a' := ?_) #[true, true, true, true, true, true, true, true, true, true, true, true, true, true, true, false, false, false, false, false, false, false, false, false, false] rfl rfl (any_of HT_.out (by kernel_rfl)) (fun _ _ _ h => h) (Or.inl ⟨by rfl, ?_⟩) ?_ ?_
                    rotate_left
                    · intro w'
                      go_simp
                      with_reducible rfl
                    rotate_left
                    · simp only [Act.put, List.setIfInBounds_toArray, List.set_cons_zero, List.set_cons_succ, i64_w, i32_w]
                      rfl
                    refine pure_ (i := 15) (N := some 31) (v := ?_) (a' := ?_) #[true, true, true, true, true, true, true, true, true, true, true, true, true, true, true, true, false, false, false, false, false, false, false, false, false] rfl rfl (any_of HT_.out (by kernel_rfl)) (fun _ _ _ h => h) (Or.inl ⟨by rfl, ?_⟩) ?_ ?_
                    rotate_left
                    · intro w'
                      go_simp
                      with_reducible rfl
                    rotate_left
                    · simp only [Act.put, List.setIfInBounds_toArray, List.set_cons_zero, List.set_cons_succ, i64_w, i32_w]
                      rfl
                    refine pure_ (i := 17) (N := some 33) (v := ?_) (a' := ?_) #[true, true, true, true, true, true, true, true, true, true, true, true, true, true, true, true, false, true, false, false, false, false, false, false, false] rfl rfl (any_of HT_.out (by kernel_rfl)) (fun _ _ _ h => h) (Or.inl ⟨by rfl, ?_⟩) ?_ ?_
                    rotate_left
                    · intro w'
                      go_simp
                      with_reducible rfl
                    rotate_left
                    · simp only [Act.put, List.setIfInBounds_toArray, List.set_cons_zero, List.set_cons_succ, i64_w, i32_w]
                      rfl
                    refine pure_ (i := 18) (N := some 34) (v := ?_) (a' := ?_) #[true, true, true, true, true, true, true, true, true, true, true, true, true, true, true, true, false, true, true, false, false, false, false, false, false] rfl rfl (any_of HT_.out (by kernel_rfl)) (fun _ _ _ h => h) (Or.inl ⟨by rfl, ?_⟩) ?_ ?_
                    rotate_left
                    · intro w'
                      go_simp
                      with_reducible rfl
                    rotate_left
                    · simp only [Act.put, List.setIfInBounds_toArray, List.set_cons_zero, List.set_cons_succ, i64_w, i32_w]
                      rfl
                    refine pure_ (i := 19) (N := some 35) (v := ?_) (a' := ?_) #[true, true, true, true, true, true, true, true, true, true, true, true, true, true, true, true, false, true, true, true, false, false, false, false, false] rfl rfl (any_of HT_.out (by kernel_rfl)) (fun _ _ _ h => h) (Or.inl ⟨by rfl, ?_⟩) ?_ ?_
                    rotate_left
                    · intro w'
                      go_simp
                      with_reducible rfl
                    rotate_left
                    · simp only [Act.put, List.setIfInBounds_toArray, List.set_cons_zero, List.set_cons_succ, i64_w, i32_w]
                      rfl
                    refine pure_ (i := 20) (N := some 36) (v := ?_) (a' := ?_) #[true, true, true, true, true, true, true, true, true, true, true, true, true, true, true, true, false, true, true, true, true, false, false, false, false] rfl rfl (any_of HT_.out (by kernel_rfl)) (fun _ _ _ h => h) (Or.inl ⟨by rfl, ?_⟩) ?_ ?_
                    rotate_left
                    · intro w'
                      go_simp
                      with_reducible rfl
                    rotate_left
                    · simp only [Act.put, List.setIfInBounds_toArray, List.set_cons_zero, List.set_cons_succ, i64_w, i32_w]
                      rfl
                    refine take_ (i := 16) (N := some 32) (v := ?_) (a' := ?_) #[true, true, true, true, true, true, true, true, true, true, true, true, true, true, true, true, true, true, true, true, true, false, false, false, false] rfl rfl (take_ofW HT_.out HW_.out (by kernel_rfl)) (fun _ _ _ h => h) (Or.inl ⟨by rfl, ?_⟩) hHeld ?_ ?_
                    rotate_left
                    · rintro w' ⟨s0, s1, s2, s3, s4, s5, s6, s7, s8, s9, s10, s11, s12, s13, s14, s15, s16, s17, s18, s19, s20, s21, s22, s23⟩
                      go_simp
                      with_reducible rfl
                    rotate_left
                    · simp only [Act.put, List.setIfInBounds_toArray, List.set_cons_zero, List.set_cons_succ, i64_w, i32_w]
                      rfl
                    refine take_ (i := 21) (N := some 37) (v := ?_) (a' := ?_) #[true, true, true, true, true, true, true, true, true, true, true, true, true, true, true, true, true, true, true, true, true, true, false, false, false] rfl rfl (take_ofW HT_.out HW_.out (by kernel_rfl)) (fun _ _ _ h => h) (Or.inl ⟨by rfl, ?_⟩) hHeld ?_ ?_
                    rotate_left
                    · rintro w' ⟨s0, s1, s2, s3, s4, s5, s6, s7, s8, s9, s10, s11, s12, s13, s14, s15, s16, s17, s18, s19, s20, s21, s22, s23⟩
                      go_simp
                      with_reducible rfl
                    rotate_left
                    · simp only [Act.put, List.setIfInBounds_toArray, List.set_cons_zero, List.set_cons_succ, i64_w, i32_w]
                      rfl
                    refine one_ (i := 22) (N := some 38) #[true, true, true, true, true, true, true, true, true, true, true, true, true, true, true, true, true, true, true, true, true, true, true, false, false] rfl rfl (one_of HT_.out (by kernel_rfl)) (by decide) (fun K hK => ?_)
                    refine goes_ Try.func11 (by kernel_rfl) rfl #[.slice A101_5 ((rd_T45 l0 x13_1).f1).length c101_5, .slice A102_5 ((rd_T45 l1 x13_1).f1).length c102_5] (by rfl) rfl rfl (by (try simp only [List.map_toArray, List.map_cons, List.map_nil]); first | done | rfl | (simp only [List.length_drop, List.length_take]; rfl)) ?_
                    with_reducible refine (ih k1 (by have := HK1.out; omega) _ _ ((rd_T45 l0 x13_1).f1) _ _ ((rd_T45 l1 x13_1).f1) false _ ?side1 ?side2 ?side3 ?side4 A10.out).mono ?_
                    (case side1 => repeat (first | exact (Kd.C_below HR103_5.out HB.out) | (with_reducible refine Kd.C_alloc ?_ _) | (with_reducible refine Kd.C_drewN ?_ _) | (with_reducible refine Kd.C_drew ?_)))
                    (case side2 => exact HC103_5.out)
                    (case side3 => repeat (first | exact (Kd.C_below HR104_5.out HB.out) | (with_reducible refine Kd.C_alloc ?_ _) | (with_reducible refine Kd.C_drewN ?_ _) | (with_reducible refine Kd.C_drew ?_)))
                    (case side4 => exact HC104_5.out)
                    rintro e w15 ⟨rfl, hb⟩
                    refine ⟨_, rfl, ?_⟩
                    have n0_ := Aside0.mk (below_step (by repeat (first | (with_reducible first | exact HB.out | apply below_alloc | apply pw_below_drewN | apply below_drew1) | exact HB.out)) hb)
                    clear HB
                    have HB := n0_
                    clear n0_
                    (try clear hb)
                    (try clear hb2)
                    (try clear hk)
                    (try clear hi)
                    refine hK.out _ _ ⟨((HB.out.cell (World.block_lt_of_cell? w _ hw101_0)).trans hw101_0), ((HB.out.cell (World.block_lt_of_cell? w _ hw101_1)).trans hw101_1), ((HB.out.cell (World.block_lt_of_cell? w _ hw101_2)).trans hw101_2), ((HB.out.cell (World.block_lt_of_cell? w _ hw101_3)).trans hw101_3), ((HB.out.cell (World.block_lt_of_cell? w _ hw101_4)).trans hw101_4), ((HB.out.cell (World.block_lt_of_cell? w _ hw101_5)).trans hw101_5), ((HB.out.cell (World.block_lt_of_cell? w _ hw102_0)).trans hw102_0), ((HB.out.cell (World.block_lt_of_cell? w _ hw102_1)).trans hw102_1), ((HB.out.cell (World.block_lt_of_cell? w _ hw102_2)).trans hw102_2), ((HB.out.cell (World.block_lt_of_cell? w _ hw102_3)).trans hw102_3), ((HB.out.cell (World.block_lt_of_cell? w _ hw102_4)).trans hw102_4), ((HB.out.cell (World.block_lt_of_cell? w _ hw102_5)).trans hw102_5), ((HB.out.cell (World.block_lt_of_cell? w _ hw103_0)).trans hw103_0), ((HB.out.cell (World.block_lt_of_cell? w _ hw103_1)).trans hw103_1), ((HB.out.cell (World.block_lt_of_cell? w _ hw103_2)).trans hw103_2), ((HB.out.cell (World.block_lt_of_cell? w _ hw103_3)).trans hw103_3), ((HB.out.cell (World.block_lt_of_cell? w _ hw103_4)).trans hw103_4), ((HB.out.cell (World.block_lt_of_cell? w _ hw103_5)).trans hw103_5), ((HB.out.cell (World.block_lt_of_cell? w _ hw104_0)).trans hw104_0), ((HB.out.cell (World.block_lt_of_cell? w _ hw104_1)).trans hw104_1), ((HB.out.cell (World.block_lt_of_cell? w _ hw104_2)).trans hw104_2), ((HB.out.cell (World.block_lt_of_cell? w _ hw104_3)).trans hw104_3), ((HB.out.cell (World.block_lt_of_cell? w _ hw104_4)).trans hw104_4), ((HB.out.cell (World.block_lt_of_cell? w _ hw104_5)).trans hw104_5)⟩ (fun hHeld => ?_)
                    clear hK K
                    refine norm_ (a' := ?_) ?_ ?_
                    rotate_left
                    · show Act.put _ (some 38) _ = _
                      simp only [Act.put, List.setIfInBounds_toArray, List.set_cons_zero, List.set_cons_succ, i64_w, i32_w]
                      rfl
                    refine pure_ (i := 23) (N := some 39) (v := ?_) (a' := ?_) #[true, true, true, true, true, true, true, true, true, true, true, true, true, true, true, true, true, true, true, true, true, true, true, true, false] rfl rfl (any_of HT_.out (by kernel_rfl)) (fun _ _ _ h => h) (Or.inl ⟨by rfl, ?_⟩) ?_ ?_
                    rotate_left
                    · intro w'
                      go_simp
                      with_reducible rfl
                    rotate_left
                    · simp only [Act.put, List.setIfInBounds_toArray, List.set_cons_zero, List.set_cons_succ, i64_w, i32_w]
                      rfl
                    refine pure_ (i := 24) (N := some 40) (v := ?_) (a' := ?_) #[true, true, true, true, true, true, true, true, true, true, true, true, true, true, true, true, true, true, true, true, true, true, true, true, true] rfl rfl (any_of HT_.out (by kernel_rfl)) (fun _ _ _ h => h) (Or.inl ⟨by rfl, ?_⟩) ?_ ?_
                    rotate_left
                    · intro w'
                      go_simp
                      with_reducible rfl
                    rotate_left
                    · simp only [Act.put, List.setIfInBounds_toArray, List.set_cons_zero, List.set_cons_succ, i64_w, i32_w]
                      rfl
                    refine done_ (done_of HT_.out (by kernel_rfl)) ?_
                    try go_wp2
                    go_ret
                    exact ⟨by first | rfl | (simp [errW_none, errW_some] <;> rfl) | (simp [*, errW_none, errW_some] <;> rfl), by repeat (first | (with_reducible first | exact HB.out | apply below_alloc | apply pw_below_drewN | apply below_drew1) | exact HB.out)⟩
              · rw [if_neg c7] at H
                exact absurd H (by simp)
            · rw [if_neg c6] at H
              exact absurd H (by simp)
          · rw [if_neg c5] at H
            exact absurd H (by simp)
        · rw [if_neg c4] at H
          have c4b0 : decide (x13_1 < (l0.length : Int)) = false := decide_eq_false c4
          clear c4
          obtain rfl := Option.some.inj H
          go_wp2
          go_ret
          exact ⟨by first | rfl | (simp [errW_none, errW_some] <;> rfl) | (simp [*, errW_none, errW_some] <;> rfl), by repeat (first | (with_reducible first | exact HB.out | apply below_alloc | apply pw_below_drewN | apply below_drew1) | exact HB.out)⟩
  · rw [if_neg c3] at H
    have c3b0 : ((l0.length : Int) == (l1.length : Int)) = false := beq_eq_false_iff_ne.mpr c3
    have c3b1 : ((l0.length : Int) != (l1.length : Int)) = true := bne_iff_ne.mpr c3
    have c3b2 : (l0.length == l1.length) = false := by first | simpa using c3 | (simp at c3 ⊢; omega)
    obtain rfl := Option.some.inj H
    go_enter Try.func11, Try.ntmps11
    go_wp2
    go_ret
    exact ⟨by first | rfl | (simp [errW_none, errW_some] <;> rfl) | (simp [*, errW_none, errW_some] <;> rfl), by repeat (first | (with_reducible first | exact HB.out | apply below_alloc | apply pw_below_drewN | apply below_drew1) | exact HB.out)⟩
end Go.Proofs.Ythaaajpmiofodaa.P
end
section
set_option linter.unusedVariables false
set_option linter.unusedSimpArgs false
namespace Go.Proofs.Ythaaajpmiofodaa.P
open Go.RowKit Go.Proofs.YthaaajpmiofodaaW.PrintWords Go.Proofs.YthaaajpmiofodaaW.PrintLast Go.Proofs.YthaaajpmiofodaaW.PrintMore
attribute [local go_sem] max2_int min2_int max_two min_two max_three min_three max_four min_four
attribute [local go_sem high] eqA43
set_option linter.unusedVariables false
set_option linter.unusedSimpArgs false
def tokEq (a b : S43) : Bool := (a.f0 == b.f0) && ((a.f1.toList == b.f1.toList) && ((a.f2.toList == b.f2.toList) && ((a.f3 == b.f3) && (a.f4 == b.f4))))
def sameS : List S45 → List S45 → Bool
  | [], [] => true
  | x :: l, y :: m => tokEq x.f0 y.f0 && sameS x.f1 y.f1 && sameS l m
  | [], _ :: _ => false
  | _ :: _, [] => false
termination_by l => SizeOf.sizeOf l
decreasing_by
  · cases x; simp; omega
  · simp; omega
def eqvS (x y : S45) : Bool := tokEq x.f0 y.f0 && sameS x.f1 y.f1
theorem sameS_len : ∀ (l m : List S45), l.length ≠ m.length → sameS l m = false
  | [], [], h => absurd rfl h
  | [], _ :: _, _ => by simp [sameS]
  | _ :: _, [], _ => by simp [sameS]
  | x :: l, y :: m, h => by
    rw [sameS, sameS_len l m (by simpa using h)]
    simp
theorem sameS_all : ∀ (l m : List S45), l.length = m.length → sameS l m = true → ∀ j, j < l.length → eqvS (rd_T45 l (j : Nat)) (rd_T45 m (j : Nat)) = true
  | [], [], _, _, j, hj => absurd hj (by simp)
  | [], _ :: _, h, _, _, _ => by simp at h
  | _ :: _, [], h, _, _, _ => by simp at h
  | x :: l, y :: m, h, hs, j, hj => by
    rw [sameS] at hs
    simp only [Bool.and_eq_true] at hs
    cases j with
    | zero => show eqvS x y = true; unfold eqvS; rw [hs.1.1, hs.1.2]; rfl
    | succ j =>
      have := sameS_all l m (by simpa using h) hs.2 j (by simpa using hj)
      exact this
theorem sameS_of : ∀ (l m : List S45), l.length = m.length → (∀ j, j < l.length → eqvS (rd_T45 l (j : Nat)) (rd_T45 m (j : Nat)) = true) → sameS l m = true
  | [], [], _, _ => by simp [sameS]
  | [], _ :: _, h, _ => by simp at h
  | _ :: _, [], h, _ => by simp at h
  | x :: l, y :: m, h, hs => by
    have h0 : eqvS x y = true := hs 0 (by simp)
    have h1 := sameS_of l m (by simpa using h) (fun j hj => hs (j + 1) (by simpa using hj))
    unfold eqvS at h0
    rw [sameS, h0, h1]
    rfl
def Asks2 (fn : Nat) (n : Nat) (l m : List S45) (w : World) : Prop :=
  ∀ (W : World) (j : Nat) (A : Option Addr) (c : Nat) (A' : Option Addr) (c' : Nat), j < n → Below w.heap.size w W → Kd.C k45 W A (rd_T45 l j).f1.length (rd_T45 l j).f1 → (rd_T45 l j).f1.length ≤ c → Kd.C k45 W A' (rd_T45 m j).f1.length (rd_T45 m j).f1 → (rd_T45 m j).f1.length ≤ c' →
    Calls Try.prog fn #[.agg (cells45 (rd_T45 l j) A c), .agg (cells45 (rd_T45 m j) A' c')] W fun e w' => e = .returned (.bool (eqvS (rd_T45 l j) (rd_T45 m j))) ∧ Below W.heap.size W w'
theorem elem45' {W : World} {A : Option Addr} {n : Nat} {l : List S45} (h : Kd.C k45 W A n l) (i : Nat) (hi : i < n) : ∃ ad A5 c5, A = some ad ∧
    W.cell? (ad.add (i * 6)) = some (.int .i64 (rd_T45 l i).f0.f0) ∧ W.cell? ⟨(ad.add (i * 6)).block, (ad.add (i * 6)).off + 1, none⟩ = some (.string (rd_T45 l i).f0.f1) ∧ W.cell? ⟨(ad.add (i * 6)).block, (ad.add (i * 6)).off + 2, none⟩ = some (.string (rd_T45 l i).f0.f2) ∧
    W.cell? ⟨(ad.add (i * 6)).block, (ad.add (i * 6)).off + 3, none⟩ = some (.bool (rd_T45 l i).f0.f3) ∧ W.cell? ⟨(ad.add (i * 6)).block, (ad.add (i * 6)).off + 4, none⟩ = some (.bool (rd_T45 l i).f0.f4) ∧ W.cell? ⟨(ad.add (i * 6)).block, (ad.add (i * 6)).off + 5, none⟩ = some (.slice A5 (rd_T45 l i).f1.length c5) ∧
    (rd_T45 l i).f1.length ≤ c5 ∧ Kd.C k45 W A5 (rd_T45 l i).f1.length (rd_T45 l i).f1 := by
  have := at_T45 h i (by omega) (by omega)
  simpa only [Int.toNat_natCast] using this
set_option maxHeartbeats 4000000 in
set_option maxRecDepth 100000 in
theorem equalFunc_calls (A : Option Addr) (c : Nat) (l : List S45) (A' : Option Addr) (c' : Nat) (m : List S45) (w : World) (hl : Kd.C k45 w A l.length l) (hm : Kd.C k45 w A' m.length m) (hp : l.length = m.length → Asks2 44 l.length l m w) :
    Calls Try.prog 43 #[.slice A l.length c, .slice A' m.length c', .func (.func 44) #[] #[]] w fun e w' => e = .returned (.bool (sameS l m)) ∧ Below w.heap.size w w' := by
  have HL := Aside0.mk hl
  have HM := Aside0.mk hm
  have hlen := hl.2.1
  have hlen2 := hm.2.1
  have hu43 := Try.underlying43
  have hu45 := Try.underlying45
  by_cases hne : l.length = m.length
  · have HP := Aside0.mk (hp hne)
    have HE := Aside0.mk hne
    clear hl hm hp
    generalize hn : m.length = n at *
    obtain rfl := hne
    have HN := Aside0.mk hn
    clear hn
    go_enter Try.func43, Try.ntmps43
    go_wp2
    go_loopg [17] l.length (fun gg s17 wr => ∃ kk : Nat, kk ≤ l.length ∧ l.length - kk ≤ gg ∧ s17 = .int .i64 kk ∧ Aside0 (Below w.heap.size w wr) ∧ Aside0 (∀ j, j < kk → eqvS (rd_T45 l (j : Nat)) (rd_T45 m (j : Nat)) = true))
    case atStart => exact ⟨0, Nat.zero_le _, by omega, rfl, ⟨Below.refl _ w⟩, ⟨fun j hj => absurd hj (Nat.not_lt_zero _)⟩⟩
    case round =>
      obtain ⟨kk, hkk, hg, rfl, BW, NO⟩ := hrel
      by_cases hlt : kk < l.length
      · have hltz : (kk : Int) < (l.length : Int) := by omega
        obtain ⟨ad, A1, c1, rfl, h0, h1, h2, h3, h4, h5, hl1, hi1⟩ := elem45' (Kd.C_below HL.out BW.out) kk hlt
        obtain ⟨bd, B1, d1, rfl, k0, k1, k2, k3, k4, k5, kl1, ki1⟩ := elem45' (Kd.C_below HM.out BW.out) kk hlt
        have HCL := Aside0.mk (fun W (hW : Below wr.heap.size wr W) => HP.out W kk A1 c1 B1 d1 hlt (below_step BW.out hW) (Kd.C_below hi1 hW) hl1 (Kd.C_below ki1 hW) kl1)
        clear hl1 hi1 kl1 ki1
        generalize hy : rd_T45 l (kk : Nat) = x at h0 h1 h2 h3 h4 h5 HCL
        generalize hz : rd_T45 m (kk : Nat) = y at k0 k1 k2 k3 k4 k5 HCL
        have HY := Aside0.mk hy
        have HZ := Aside0.mk hz
        clear hy hz
        have q0 := ((below_alloc (Below.refl wr.heap.size wr) (.cells #[.int .i64 x.f0.f0, .string x.f0.f1, .string x.f0.f2, .bool x.f0.f3, .bool x.f0.f4, .slice A1 x.f1.length c1] 45)).cell (World.block_lt_of_cell? wr _ k0)).trans k0
        have q1 := ((below_alloc (Below.refl wr.heap.size wr) (.cells #[.int .i64 x.f0.f0, .string x.f0.f1, .string x.f0.f2, .bool x.f0.f3, .bool x.f0.f4, .slice A1 x.f1.length c1] 45)).cell (World.block_lt_of_cell? wr _ k1)).trans k1
        have q2 := ((below_alloc (Below.refl wr.heap.size wr) (.cells #[.int .i64 x.f0.f0, .string x.f0.f1, .string x.f0.f2, .bool x.f0.f3, .bool x.f0.f4, .slice A1 x.f1.length c1] 45)).cell (World.block_lt_of_cell? wr _ k2)).trans k2
        have q3 := ((below_alloc (Below.refl wr.heap.size wr) (.cells #[.int .i64 x.f0.f0, .string x.f0.f1, .string x.f0.f2, .bool x.f0.f3, .bool x.f0.f4, .slice A1 x.f1.length c1] 45)).cell (World.block_lt_of_cell? wr _ k3)).trans k3
        have q4 := ((below_alloc (Below.refl wr.heap.size wr) (.cells #[.int .i64 x.f0.f0, .string x.f0.f1, .string x.f0.f2, .bool x.f0.f3, .bool x.f0.f4, .slice A1 x.f1.length c1] 45)).cell (World.block_lt_of_cell? wr _ k4)).trans k4
        have q5 := ((below_alloc (Below.refl wr.heap.size wr) (.cells #[.int .i64 x.f0.f0, .string x.f0.f1, .string x.f0.f2, .bool x.f0.f3, .bool x.f0.f4, .slice A1 x.f1.length c1] 45)).cell (World.block_lt_of_cell? wr _ k5)).trans k5
        have p0 : (World.alloc (World.alloc wr (.cells #[.int .i64 x.f0.f0, .string x.f0.f1, .string x.f0.f2, .bool x.f0.f3, .bool x.f0.f4, .slice A1 x.f1.length c1] 45)) (.cells #[.int .i64 y.f0.f0, .string y.f0.f1, .string y.f0.f2, .bool y.f0.f3, .bool y.f0.f4, .slice B1 y.f1.length d1] 45)).cell? ⟨wr.heap.size, 0, none⟩ = some (.int .i64 x.f0.f0) := (blk_cell (blk_alloc (blk_new wr _) _) 0).trans rfl
        have p1 : (World.alloc (World.alloc wr (.cells #[.int .i64 x.f0.f0, .string x.f0.f1, .string x.f0.f2, .bool x.f0.f3, .bool x.f0.f4, .slice A1 x.f1.length c1] 45)) (.cells #[.int .i64 y.f0.f0, .string y.f0.f1, .string y.f0.f2, .bool y.f0.f3, .bool y.f0.f4, .slice B1 y.f1.length d1] 45)).cell? ⟨wr.heap.size, 1, none⟩ = some (.string x.f0.f1) := (blk_cell (blk_alloc (blk_new wr _) _) 1).trans rfl
        have p2 : (World.alloc (World.alloc wr (.cells #[.int .i64 x.f0.f0, .string x.f0.f1, .string x.f0.f2, .bool x.f0.f3, .bool x.f0.f4, .slice A1 x.f1.length c1] 45)) (.cells #[.int .i64 y.f0.f0, .string y.f0.f1, .string y.f0.f2, .bool y.f0.f3, .bool y.f0.f4, .slice B1 y.f1.length d1] 45)).cell? ⟨wr.heap.size, 2, none⟩ = some (.string x.f0.f2) := (blk_cell (blk_alloc (blk_new wr _) _) 2).trans rfl
        have p3 : (World.alloc (World.alloc wr (.cells #[.int .i64 x.f0.f0, .string x.f0.f1, .string x.f0.f2, .bool x.f0.f3, .bool x.f0.f4, .slice A1 x.f1.length c1] 45)) (.cells #[.int .i64 y.f0.f0, .string y.f0.f1, .string y.f0.f2, .bool y.f0.f3, .bool y.f0.f4, .slice B1 y.f1.length d1] 45)).cell? ⟨wr.heap.size, 3, none⟩ = some (.bool x.f0.f3) := (blk_cell (blk_alloc (blk_new wr _) _) 3).trans rfl
        have p4 : (World.alloc (World.alloc wr (.cells #[.int .i64 x.f0.f0, .string x.f0.f1, .string x.f0.f2, .bool x.f0.f3, .bool x.f0.f4, .slice A1 x.f1.length c1] 45)) (.cells #[.int .i64 y.f0.f0, .string y.f0.f1, .string y.f0.f2, .bool y.f0.f3, .bool y.f0.f4, .slice B1 y.f1.length d1] 45)).cell? ⟨wr.heap.size, 4, none⟩ = some (.bool x.f0.f4) := (blk_cell (blk_alloc (blk_new wr _) _) 4).trans rfl
        have p5 : (World.alloc (World.alloc wr (.cells #[.int .i64 x.f0.f0, .string x.f0.f1, .string x.f0.f2, .bool x.f0.f3, .bool x.f0.f4, .slice A1 x.f1.length c1] 45)) (.cells #[.int .i64 y.f0.f0, .string y.f0.f1, .string y.f0.f2, .bool y.f0.f3, .bool y.f0.f4, .slice B1 y.f1.length d1] 45)).cell? ⟨wr.heap.size, 5, none⟩ = some (.slice A1 x.f1.length c1) := (blk_cell (blk_alloc (blk_new wr _) _) 5).trans rfl
        cases hq : eqvS x y with
        | true =>
          have HQ := Aside0.mk hq
          rw [hq] at HCL
          clear hq
          go_wp2_with fail
          refine (HCL.out _ (below_alloc (below_alloc (Below.refl _ _) _) _)).mono ?_
          rintro e w1 ⟨rfl, hb⟩
          clear k0 k1 k2 k3 k4 k5 q0 q1 q2 q3 q4 q5 p0 p1 p2 p3 p4 p5 h0 h1 h2 h3 h4 h5
          go_wp2
          go_roundg (l.length - (kk + 1))
          case measure => omega
          case rel => exact ⟨kk + 1, by omega, Nat.le_refl _, by go_num, ⟨below_step (below_alloc (below_alloc BW.out _) _) hb⟩, ⟨fun j hj => by
            by_cases e : j = kk
            · subst e; rw [HY.out, HZ.out]; exact HQ.out
            · exact NO.out j (by omega)⟩⟩
        | false =>
          have HQ := Aside0.mk hq
          rw [hq] at HCL
          clear hq
          go_wp2_with fail
          refine (HCL.out _ (below_alloc (below_alloc (Below.refl _ _) _) _)).mono ?_
          rintro e w1 ⟨rfl, hb⟩
          clear k0 k1 k2 k3 k4 k5 q0 q1 q2 q3 q4 q5 p0 p1 p2 p3 p4 p5 h0 h1 h2 h3 h4 h5
          go_wp2
          go_ret
          have hF : sameS l m = false := by
            cases h : sameS l m with
            | false => rfl
            | true =>
              have := sameS_all l m HN.out.symm h kk hlt
              rw [HY.out, HZ.out, HQ.out] at this
              cases this
          exact ⟨by rw [hF]; rfl, below_step (below_alloc (below_alloc BW.out _) _) hb⟩
      · have : kk = l.length := by omega
        subst this
        go_wp2
        go_ret
        exact ⟨by rw [sameS_of l m (by rw [HN.out]) NO.out]; rfl, BW.out⟩
  · have HE := Aside0.mk (sameS_len l m hne)
    have hnez : ¬ (l.length : Int) = (m.length : Int) := by omega
    clear hl hm hp hne
    go_enter Try.func43, Try.ntmps43
    go_wp2
    go_ret
    exact ⟨by rw [HE.out]; rfl, Below.refl _ _⟩
theorem z45_size (m : List S45) (j : Nat) (h : j < m.length) : SizeOf.sizeOf (rd_T45 m (j : Nat)).f1 < SizeOf.sizeOf m := by
  have h1 : rd_T45 m (j : Nat) = m[j] := by simp [rd_T45, List.getD_eq_getElem?_getD, h]
  have h2 := List.sizeOf_lt_of_mem (List.getElem_mem h)
  rw [h1]
  have h3 : SizeOf.sizeOf (m[j]).f1 < SizeOf.sizeOf m[j] := by
    cases m[j]
    simp
    omega
  omega
set_option maxHeartbeats 4000000 in
theorem same_calls : ∀ (N : Nat) (A : Option Addr) (c : Nat) (l : List S45) (A' : Option Addr) (c' : Nat) (m : List S45) (w : World), SizeOf.sizeOf l < N → Kd.C k45 w A l.length l → l.length ≤ c → Kd.C k45 w A' m.length m → m.length ≤ c' →
    Calls Try.prog 25 #[.slice A l.length c, .slice A' m.length c'] w fun e w' => e = .returned (.bool (sameS l m)) ∧ Below w.heap.size w w' := by
  intro N
  induction N with
  | zero => intro A c l A' c' m w h; exact absurd h (Nat.not_lt_zero _)
  | succ N ih =>
  intro A c l A' c' m w hN hl hc hm hc'
  have HF := Aside0.mk (equalFunc_calls A c l A' c' m w hl hm (fun hlen W j A1 c1 B1 d1 hj hW hx hx1 hy hy1 => by
    have hr := ih A1 c1 (rd_T45 l j).f1 B1 d1 (rd_T45 m j).f1
    have hsz := z45_size l j hj
    generalize rd_T45 l (j : Nat) = x at hx hx1 hr hsz
    generalize rd_T45 m (j : Nat) = y at hy hy1 hr
    have HR := Aside0.mk (fun W (hx : Kd.C k45 W A1 x.f1.length x.f1) (hy : Kd.C k45 W B1 y.f1.length y.f1) => hr W (by omega) hx hx1 hy hy1)
    have HX := Aside0.mk hx
    have HY := Aside0.mk hy
    have hu43 := Try.underlying43
    have hu45 := Try.underlying45
    clear hr hx hy hl hm hc hc' hx1 hy1 hN ih hsz hlen hj hW
    cases ht : tokEq x.f0 y.f0 with
    | true =>
      have HT := Aside0.mk (show eqvS x y = sameS x.f1 y.f1 by unfold eqvS; rw [ht]; simp)
      unfold tokEq at ht
      unfold cells45
      go_enter Try.func44, Try.ntmps44
      go_wp2_with fail
      refine (HR.out _ (Kd.C_below HX.out (below_alloc (below_alloc (Below.refl _ _) _) _)) (Kd.C_below HY.out (below_alloc (below_alloc (Below.refl _ _) _) _))).mono ?_
      rintro e w1 ⟨rfl, hb⟩
      go_wp2
      go_ret
      exact ⟨by rw [HT.out]; rfl, below_step (below_alloc (below_alloc (Below.refl _ _) _) _) hb⟩
    | false =>
      have HT := Aside0.mk (show eqvS x y = false by unfold eqvS; rw [ht]; rfl)
      unfold tokEq at ht
      unfold cells45
      go_enter Try.func44, Try.ntmps44
      go_wp2_with fail
      go_ret
      exact ⟨by rw [HT.out]; rfl, below_alloc (below_alloc (Below.refl _ _) _) _⟩))
  clear hl hm ih hN hc hc'
  go_enter Try.func25, Try.ntmps25
  go_wp2_with (go_at_call 43; refine HF.out.mono ?_; rintro e w1 ⟨rfl, hb⟩)
  go_ret
  exact ⟨rfl, hb⟩
def parse_Same.f (_ : Nat) (l m : List S45) : Option Bool := some (sameS l m)
theorem parse_Same.calls (k : Nat) (A0 : Option Addr) (c0 : Nat) (l0 : List S45) (A1 : Option Addr) (c1 : Nat) (l1 : List S45) (r : Bool) (w : World) (hr0 : Kd.C k45 w A0 l0.length l0) (hc0 : l0.length ≤ c0) (hr1 : Kd.C k45 w A1 l1.length l1) (hc1 : l1.length ≤ c1) (h : parse_Same.f k l0 l1 = some r) :
    Calls Try.prog 25 #[.slice A0 l0.length c0, .slice A1 l1.length c1] w fun e w' => e = .returned (.bool r) ∧ Below w.heap.size w w' := by
  obtain rfl := Option.some.inj h
  exact same_calls _ A0 c0 l0 A1 c1 l1 w (Nat.lt_succ_self _) hr0 hc0 hr1 hc1
end Go.Proofs.Ythaaajpmiofodaa.P
end
section
set_option linter.unusedVariables false
set_option linter.unusedSimpArgs false
namespace Go.Proofs.Ythaaajpmiofodaa.P
open Go.RowKit Go.Proofs.YthaaajpmiofodaaW.PrintWords Go.Proofs.YthaaajpmiofodaaW.PrintLast Go.Proofs.YthaaajpmiofodaaW.PrintMore
set_option linter.unusedVariables false
set_option linter.unusedSimpArgs false
theorem w64 {x : Int} (h0 : -9223372036854775808 ≤ x) (h1 : x ≤ 9223372036854775807) : wrap64 x = x := by unfold wrap64; omega
theorem Ev.ifp {α : Type} {p : Prop} [Decidable p] {g f : Nat → Option α} {r : α} (hp : p) (k : Ev g r) : Ev (fun n => if p then g n else f n) r := by simpa only [if_pos hp] using k
theorem Ev.ifn {α : Type} {p : Prop} [Decidable p] {g f : Nat → Option α} {r : α} (hp : ¬ p) (k : Ev f r) : Ev (fun n => if p then g n else f n) r := by simpa only [if_neg hp] using k
theorem rd45_drop (l : List S45) (i : Nat) (h : i < l.length) : l.drop i = rd_T45 l (i : Nat) :: l.drop (i + 1) := by
  rw [List.drop_eq_getElem_cons h]
  simp [rd_T45, List.getD_eq_getElem?_getD, h]
theorem tok_ne (a b : S43) : (!(a.f0 == b.f0) || (!(a.f1.toList == b.f1.toList) || (!(a.f2.toList == b.f2.toList) || (!(a.f3 == b.f3) || (!(a.f4 == b.f4)))))) = !tokEq a b := by
  unfold tokEq
  simp only [Bool.not_and]
theorem ev_Same_l0 (l m : List S45) (hlen : l.length = m.length) (hl : l.length ≤ 4611686018427387904)
    (hk : ∀ j, j < l.length → Ev (fun k => gouacheref03_Same.f k (rd_T45 l (j : Nat)).f1 (rd_T45 m (j : Nat)).f1) (sameS (rd_T45 l (j : Nat)).f1 (rd_T45 m (j : Nat)).f1)) :
    ∀ (d i : Nat), i + d = l.length → Ev (fun k => gouacheref03_Same.l0 k l m (l.length : Int) (i : Nat)) (sameS (l.drop i) (m.drop i)) := by
  intro d
  induction d with
  | zero =>
    intro i hi
    refine Ev.step (fun k => by unfold gouacheref03_Same.l0; exact rfl) ?_
    refine Ev.ifn (by omega) ?_
    rw [List.drop_eq_nil_of_le (by omega), List.drop_eq_nil_of_le (by omega)]
    simpa [sameS] using Ev.now true
  | succ d ih =>
    intro i hi
    refine Ev.step (fun k => by unfold gouacheref03_Same.l0; exact rfl) ?_
    refine Ev.ifp (by omega) (Ev.ifp (by omega) (Ev.ifp (by omega) (Ev.ifp (by omega) ?_)))
    rw [rd45_drop l i (by omega), rd45_drop m i (by omega), sameS]
    simp only [tok_ne]
    cases ht : tokEq (rd_T45 l (i : Nat)).f0 (rd_T45 m (i : Nat)).f0 with
    | false => simpa using Ev.now false
    | true =>
      refine Ev.ifn (by simp) ?_
      refine Ev.bind (hk i (by omega)) ?_
      rw [Bool.true_and]
      cases hs : sameS (rd_T45 l (i : Nat)).f1 (rd_T45 m (i : Nat)).f1 with
      | false => simpa using Ev.now false
      | true =>
        refine Ev.ifp rfl ?_
        rw [Bool.true_and, w64 (by omega) (by omega)]
        exact ih (i + 1) (by omega)
def okLens : List S45 → Prop
  | [] => True
  | x :: l => (x :: l).length ≤ 4611686018427387904 ∧ okLens x.f1 ∧ okLens l
termination_by l => SizeOf.sizeOf l
decreasing_by
  · cases x; simp; omega
  · simp; omega
theorem okLens_len : ∀ l : List S45, okLens l → l.length ≤ 4611686018427387904
  | [], _ => by simp
  | x :: l, h => by rw [okLens] at h; exact h.1
theorem okLens_kid : ∀ (l : List S45) (j : Nat), j < l.length → okLens l → okLens (rd_T45 l (j : Nat)).f1
  | x :: l, 0, _, h => by rw [okLens] at h; exact h.2.1
  | x :: l, j + 1, hj, h => by
    rw [okLens] at h
    exact okLens_kid l j (by simpa using hj) h.2.2
theorem ev_Same : ∀ (N : Nat) (l m : List S45), SizeOf.sizeOf l < N → okLens l → Ev (fun k => gouacheref03_Same.f k l m) (sameS l m) := by
  intro N
  induction N with
  | zero => intro l m h; omega
  | succ N ih =>
    intro l m hN hok
    refine Ev.step (fun k => by unfold gouacheref03_Same.f; exact rfl) ?_
    by_cases hlen : l.length = m.length
    · refine Ev.ifp (by omega) ?_
      exact ev_Same_l0 l m hlen (okLens_len l hok) (fun j hj => ih _ _ (by have := z45_size l j hj; omega) (okLens_kid l j hj hok)) l.length 0 (by omega)
    · refine Ev.ifn (by omega) ?_
      rw [sameS_len l m hlen]
      exact Ev.now false
theorem tokEq_refl (a : S43) : tokEq a a = true := by simp [tokEq]
theorem sameS_refl : ∀ l : List S45, sameS l l = true
  | [] => by rw [sameS]
  | x :: l => by rw [sameS, tokEq_refl, sameS_refl x.f1, sameS_refl l]; rfl
termination_by l => SizeOf.sizeOf l
decreasing_by
  · cases x; simp; omega
  · simp; omega
end Go.Proofs.Ythaaajpmiofodaa.P
end
