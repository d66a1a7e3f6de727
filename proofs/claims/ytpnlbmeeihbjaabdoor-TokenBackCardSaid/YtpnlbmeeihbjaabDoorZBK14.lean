/- The law TokenBack (layer 2): the row and its tied card: for every input the law returns true, and the arguments read behind the call as they read before. No condition of ours. -/
import Derived.Test.YtpnlbmeeihbjaabDoorZBK7
import Derived.Test.YtpnlbmeeihbjaabDoorZBK11
import Derived.Test.YtpnlbmeeihbjaabDoorZBK13
section
set_option linter.unusedVariables false
set_option linter.unusedSimpArgs false
namespace Go.Proofs.YtpnlbmeeihbjaabDoor.P
open Go.RowKit Go.Proofs.YtpnlbmeeihbjaabDoorW.PrintWords Go.Proofs.YtpnlbmeeihbjaabDoorW.PrintLast Go.Proofs.YtpnlbmeeihbjaabDoorW.PrintMore
attribute [local go_sem] max2_int min2_int max_two min_two max_three min_three max_four min_four
set_option linter.unusedVariables false
set_option linter.unusedSimpArgs false
attribute [local go_sem high] eqA26
mutual
def gouachelaw02_TokenBack.l0 : Nat → List (S26) → Int → Int → Option (Bool)
  | 0, _, _, _ => none
  | k + 1, x11, x12, x13 => if x13 < x12 then (if 0 ≤ x13 then (if x13 < (x11.length : Int) then (if ((rd_T26 x11 x13).f0) = 6 then (gouachelaw02_TokenBack.j1 k x11 x12 x13 true ((rd_T26 x11 x13).f0) ((rd_T26 x11 x13).f1) ((rd_T26 x11 x13).f2) ((rd_T26 x11 x13).f3) ((rd_T26 x11 x13).f4)) else (if ((rd_T26 x11 x13).f0) = 8 then (gouachelaw02_TokenBack.j1 k x11 x12 x13 true ((rd_T26 x11 x13).f0) ((rd_T26 x11 x13).f1) ((rd_T26 x11 x13).f2) ((rd_T26 x11 x13).f3) ((rd_T26 x11 x13).f4)) else (if ((rd_T26 x11 x13).f0) = 7 then (gouachelaw02_TokenBack.j1 k x11 x12 x13 true ((rd_T26 x11 x13).f0) ((rd_T26 x11 x13).f1) ((rd_T26 x11 x13).f2) ((rd_T26 x11 x13).f3) ((rd_T26 x11 x13).f4)) else (if ((rd_T26 x11 x13).f0) = 9 then (gouachelaw02_TokenBack.j1 k x11 x12 x13 true ((rd_T26 x11 x13).f0) ((rd_T26 x11 x13).f1) ((rd_T26 x11 x13).f2) ((rd_T26 x11 x13).f3) ((rd_T26 x11 x13).f4)) else ((gouachelaw02_clean.f ((rd_T26 x11 x13).f1)).bind fun t108 => (if t108 = true then ((gouachelaw02_clean.f ((rd_T26 x11 x13).f2)).bind fun t109 => (gouachelaw02_TokenBack.j1 k x11 x12 x13 (!t109) ((rd_T26 x11 x13).f0) ((rd_T26 x11 x13).f1) ((rd_T26 x11 x13).f2) ((rd_T26 x11 x13).f3) ((rd_T26 x11 x13).f4))) else (gouachelaw02_TokenBack.j1 k x11 x12 x13 true ((rd_T26 x11 x13).f0) ((rd_T26 x11 x13).f1) ((rd_T26 x11 x13).f2) ((rd_T26 x11 x13).f3) ((rd_T26 x11 x13).f4)))))))) else (none)) else (none)) else ((gouachelaw02_lives.f).bind fun t105 => (some t105))
def gouachelaw02_TokenBack.j1 : Nat → List (S26) → Int → Int → Bool → Int → ByteArray → ByteArray → Bool → Bool → Option (Bool)
  | 0, _, _, _, _, _, _, _, _, _ => none
  | k + 1, x11, x12, x13, x46, x108000, x108001, x108002, x108003, x108004 => if x46 = true then (gouachelaw02_TokenBack.l0 k x11 x12 (wrap64 (x13 + 1))) else (if x108000 = 2 then ((text_Fold.f x108001).bind fun t110 => (gouachelaw02_TokenBack.j2 k x11 x12 x13 (t110.toList == ([117, 114, 108] : List UInt8)) x108000 x108001 x108002 x108003 x108004)) else (gouachelaw02_TokenBack.j2 k x11 x12 x13 false x108000 x108001 x108002 x108003 x108004))
def gouachelaw02_TokenBack.j2 : Nat → List (S26) → Int → Int → Bool → Int → ByteArray → ByteArray → Bool → Bool → Option (Bool)
  | 0, _, _, _, _, _, _, _, _, _ => none
  | k + 1, x11, x12, x13, x55, x108000, x108001, x108002, x108003, x108004 => if x55 = true then (gouachelaw02_TokenBack.l0 k x11 x12 (wrap64 (x13 + 1))) else ((token_Source.f k x108000 x108001 x108002 x108003 x108004).bind fun t111 => ((gouachelaw02_cut.f t111).bind fun t112 => (if (t112.length : Int) = 1 then (if 0 < (t112.length : Int) then (if (!(((rd_T26 t112 0).f0) == x108000) || (!((((rd_T26 t112 0).f1).toList) == x108001.toList) || (!((((rd_T26 t112 0).f2).toList) == x108002.toList) || (!(((rd_T26 t112 0).f3) == x108003) || (!(((rd_T26 t112 0).f4) == x108004)))))) = true then (some false) else (gouachelaw02_TokenBack.l0 k x11 x12 (wrap64 (x13 + 1)))) else (none)) else (some false))))
end
def gouachelaw02_TokenBack.f (k : Nat) (a0 : ByteArray) : Option (Bool) := if (a0.size : Int) > 2000 then ((gouachelaw02_lives.f).bind fun t101 => (some t101)) else ((gouachelaw02_cut.f a0).bind fun t102 => (gouachelaw02_TokenBack.l0 k t102 (t102.length : Int) 0))
set_option maxHeartbeats 8000000 in
set_option maxRecDepth 100000 in
theorem gouachelaw02_TokenBack.calls (k : Nat) (a0 : ByteArray) (r : Bool) (w : World) (h : gouachelaw02_TokenBack.f k a0 = some r) (hT : WT w) :
    Calls Tryd.prog 6 #[.string a0] w fun e w' => e = .returned (.bool r) ∧ Below w.heap.size w w' := by
  have HT := Aside0.mk hT
  clear hT
  have hu26 := Tryd.underlying26
  have HB := Aside0.mk (Below.refl w.heap.size w)
  have H : (if (a0.size : Int) > 2000 then ((gouachelaw02_lives.f).bind fun t101 => (some t101)) else ((gouachelaw02_cut.f a0).bind fun t102 => (gouachelaw02_TokenBack.l0 k t102 (t102.length : Int) 0))) = some r := h
  clear h
  by_cases c2 : (a0.size : Int) > 2000
  · rw [if_pos c2] at H
    have c2b0 : decide (2000 < (a0.size : Int)) = true := decide_eq_true c2
    have c2b1 : decide (2000 < a0.size) = true := decide_eq_true (by omega)
    clear c2
    replace H := Option.bind_eq_some_iff.mp H
    obtain ⟨t101, A30, H⟩ := H
    replace H : (some t101) = some r := H
    have A3 := Aside0.mk A30
    clear A30
    obtain rfl := Option.some.inj H
    go_enter Tryd.func6, Tryd.ntmps6
    go_wp2_with (first | (go_at_call 9; (with_reducible refine (gouachelaw02_lives.calls  t101 _ A3.out (HT.out.below (by repeat (first | (with_reducible first | exact HB.out | apply below_alloc | apply pw_below_drewN | apply below_drew1) | exact HB.out)))).mono ?_); rintro e w4 ⟨rfl, hb⟩; have n0_ := Aside0.mk (below_step (by repeat (first | (with_reducible first | exact HB.out | apply below_alloc | apply pw_below_drewN | apply below_drew1) | exact HB.out)) hb); clear HB; have HB := n0_; clear n0_; (try clear hb); (try clear hb2); (try clear hk); (try clear hi)))
    repeat (go_quiet (first | (go_at_call 9; (with_reducible refine (gouachelaw02_lives.calls  t101 _ A3.out (HT.out.below (by repeat (first | (with_reducible first | exact HB.out | apply below_alloc | apply pw_below_drewN | apply below_drew1) | exact HB.out)))).mono ?_); rintro e w4 ⟨rfl, hb⟩; have n0_ := Aside0.mk (below_step (by repeat (first | (with_reducible first | exact HB.out | apply below_alloc | apply pw_below_drewN | apply below_drew1) | exact HB.out)) hb); clear HB; have HB := n0_; clear n0_; (try clear hb); (try clear hb2); (try clear hk); (try clear hi))); try go_wp2_with (first | (go_at_call 9; (with_reducible refine (gouachelaw02_lives.calls  t101 _ A3.out (HT.out.below (by repeat (first | (with_reducible first | exact HB.out | apply below_alloc | apply pw_below_drewN | apply below_drew1) | exact HB.out)))).mono ?_); rintro e w4 ⟨rfl, hb⟩; have n0_ := Aside0.mk (below_step (by repeat (first | (with_reducible first | exact HB.out | apply below_alloc | apply pw_below_drewN | apply below_drew1) | exact HB.out)) hb); clear HB; have HB := n0_; clear n0_; (try clear hb); (try clear hb2); (try clear hk); (try clear hi))))
    go_ret
    exact ⟨by first | rfl | (simp [errW_none, errW_some] <;> rfl) | (simp [*, errW_none, errW_some] <;> rfl), by repeat (first | (with_reducible first | exact HB.out | apply below_alloc | apply pw_below_drewN | apply below_drew1) | exact HB.out)⟩
  · rw [if_neg c2] at H
    have c2b0 : decide (2000 < (a0.size : Int)) = false := decide_eq_false c2
    have c2b1 : decide (2000 < a0.size) = false := decide_eq_false (by omega)
    clear c2
    replace H := Option.bind_eq_some_iff.mp H
    obtain ⟨t102, A50, H⟩ := H
    replace H : (gouachelaw02_TokenBack.l0 k t102 (t102.length : Int) 0) = some r := H
    have A5 := Aside0.mk A50
    clear A50
    have H' := Aside0.mk H
    clear H
    go_enter Tryd.func6, Tryd.ntmps6
    go_wp2_with (first | (go_at_call 10; (with_reducible refine (gouachelaw02_cut.calls a0 t102 _ A5.out).mono ?_); rintro e w6 ⟨v103, rfl, ho0, hb⟩; have n0_ := Aside0.mk (Kd.R_lower ho0 (below_size (by repeat (first | (with_reducible first | exact HB.out | apply below_alloc | apply pw_below_drewN | apply below_drew1) | exact HB.out)))); have n1_ := Aside0.mk (below_step (by repeat (first | (with_reducible first | exact HB.out | apply below_alloc | apply pw_below_drewN | apply below_drew1) | exact HB.out)) hb); clear HB; have HO104 := n0_; have HB := n1_; clear n0_ n1_; (try clear hb); (try clear hb2); (try clear hk); (try clear hi); (try clear ho0); obtain ⟨Ao7, co7, eo7⟩ := Kd.R_slice HO104.out; subst eo7))
    repeat (go_quiet (first | (go_at_call 10; (with_reducible refine (gouachelaw02_cut.calls a0 t102 _ A5.out).mono ?_); rintro e w6 ⟨v103, rfl, ho0, hb⟩; have n0_ := Aside0.mk (Kd.R_lower ho0 (below_size (by repeat (first | (with_reducible first | exact HB.out | apply below_alloc | apply pw_below_drewN | apply below_drew1) | exact HB.out)))); have n1_ := Aside0.mk (below_step (by repeat (first | (with_reducible first | exact HB.out | apply below_alloc | apply pw_below_drewN | apply below_drew1) | exact HB.out)) hb); clear HB; have HO104 := n0_; have HB := n1_; clear n0_ n1_; (try clear hb); (try clear hb2); (try clear hk); (try clear hi); (try clear ho0); obtain ⟨Ao7, co7, eo7⟩ := Kd.R_slice HO104.out; subst eo7)); try go_wp2_with (first | (go_at_call 10; (with_reducible refine (gouachelaw02_cut.calls a0 t102 _ A5.out).mono ?_); rintro e w6 ⟨v103, rfl, ho0, hb⟩; have n0_ := Aside0.mk (Kd.R_lower ho0 (below_size (by repeat (first | (with_reducible first | exact HB.out | apply below_alloc | apply pw_below_drewN | apply below_drew1) | exact HB.out)))); have n1_ := Aside0.mk (below_step (by repeat (first | (with_reducible first | exact HB.out | apply below_alloc | apply pw_below_drewN | apply below_drew1) | exact HB.out)) hb); clear HB; have HO104 := n0_; have HB := n1_; clear n0_ n1_; (try clear hb); (try clear hb2); (try clear hk); (try clear hi); (try clear ho0); obtain ⟨Ao7, co7, eo7⟩ := Kd.R_slice HO104.out; subst eo7)))
    go_loopg [13] k (fun kq v13 w' => ∃ (x13_1 : Int), v13 = .int .i64 x13_1 ∧ Aside0 (gouachelaw02_TokenBack.l0 kq t102 (t102.length : Int) x13_1 = some r) ∧ Aside0 (kq ≤ k) ∧ Aside0 (Kd.R k26 26 w' w.heap.size (fun _ => True) (.slice Ao7 t102.length co7) t102) ∧ Aside0 (Below w.heap.size w w'))
    case atStart => exact ⟨(0), (by first | rfl | (simp; done) | (simp [*]; done)), H', ⟨Nat.le_refl _⟩, ⟨by (with_reducible repeat (first | apply Kd.R_alloc | apply Kd.R_drewN | apply Kd.R_drew)); exact HO104.out⟩, ⟨by repeat (first | (with_reducible first | exact HB.out | apply below_alloc | apply pw_below_drewN | apply below_drew1) | exact HB.out)⟩⟩
    case round =>
      clear H'
      try clear c2
      try clear c2b0
      try clear c2b1
      try clear p2
      try clear c6
      obtain ⟨x13_1, rfl, HA, HK1, HO_11, HB⟩ := hrel
      cases gk with
      | zero => exact absurd HA.out (by simp [gouachelaw02_TokenBack.l0])
      | succ k1 =>
        have H := HA.out
        clear HA
        simp only [gouachelaw02_TokenBack.l0] at H
        by_cases c8 : x13_1 < (t102.length : Int)
        · rw [if_pos c8] at H
          have c8b0 : decide (x13_1 < (t102.length : Int)) = true := decide_eq_true c8
          clear c8
          by_cases c9 : 0 ≤ x13_1
          · rw [if_pos c9] at H
            have c9b0 : decide (0 ≤ x13_1) = true := decide_eq_true c9
            clear c9
            by_cases c10 : x13_1 < (t102.length : Int)
            · rw [if_pos c10] at H
              have c10b0 : decide (x13_1 < (t102.length : Int)) = true := decide_eq_true c10
              clear c10
              have HC11 := Aside0.mk H
              clear H
              have p106 : 0 ≤ (x13_1 : Int) := of_decide_eq_true (by first | (with_reducible assumption) | assumption)
              have q106 : x13_1 < (t102.length : Int) := of_decide_eq_true (by first | (with_reducible assumption) | assumption)
              obtain ⟨ad106, e106, hx106_0, hx106_1, hx106_2, hx106_3, hx106_4⟩ := at_T26 (Kd.R_reads' HO_11.out).2.2 x13_1 p106 q106
              cases e106
              replace p106 := eq_true p106
              replace q106 := eq_true q106
              go_upto_region 6 with (first | ((with_reducible refine gate_dst (N := 4) rfl ?_); refine box_event ?hg (N := 4) ?hd (cs := #[.int .i64 0, .string (⟨#[]⟩ : ByteArray), .string (⟨#[]⟩ : ByteArray), .bool false, .bool false]) (t := 26) ?hr ?_; (case hd => rfl); (case hg => rfl); (case hr => first | (go_simp; done) | (go_simp; rfl)); intro gb107 hg w12 hbox hb; have n0_ := Aside0.mk (Kd.R_below (Kd.R_elderB (by (with_reducible repeat (first | apply Kd.R_alloc | apply Kd.R_drewN | apply Kd.R_drew)); exact HO_11.out) gb107 (Nat.le_of_eq hg.symm)) hb); have n1_ := Aside0.mk (below_step (by repeat (first | (with_reducible first | exact HB.out | apply below_alloc | apply pw_below_drewN | apply below_drew1) | exact HB.out)) hb); have n2_ := Aside0.mk (hbox); have n3_ := Aside0.mk ((by rw [hg]; exact (below_size (by repeat (first | (with_reducible first | exact HB.out | apply below_alloc | apply pw_below_drewN | apply below_drew1) | exact HB.out))) : w.heap.size ≤ gb107)); have n4_ := Aside0.mk ((by rw [hg]; exact (below_size (by repeat (first | (with_reducible first | exact HB.out | apply below_alloc | apply pw_below_drewN | apply below_drew1) | exact HB.out))) : w.heap.size ≤ gb107)); clear HO_11; clear HB; have HO_11 := n0_; have HB := n1_; have BK107 := n2_; have GW107 := n3_; have GE107 := n4_; clear n0_ n1_ n2_ n3_ n4_; clear hb hbox hg; have hcz13_0 : w12.cell? ⟨gb107, 0, none⟩ = some (.int .i64 0) := (blk_cell BK107.out 0).trans rfl; have hcz13_1 : w12.cell? ⟨gb107, 1, none⟩ = some (.string (⟨#[]⟩ : ByteArray)) := (blk_cell BK107.out 1).trans rfl; have hcz13_2 : w12.cell? ⟨gb107, 2, none⟩ = some (.string (⟨#[]⟩ : ByteArray)) := (blk_cell BK107.out 2).trans rfl; have hcz13_3 : w12.cell? ⟨gb107, 3, none⟩ = some (.bool false) := (blk_cell BK107.out 3).trans rfl; have hcz13_4 : w12.cell? ⟨gb107, 4, none⟩ = some (.bool false) := (blk_cell BK107.out 4).trans rfl; have hfz13_0 := blk_frozen BK107.out 0; have hfz13_1 := blk_frozen BK107.out 1; have hfz13_2 := blk_frozen BK107.out 2; have hfz13_3 := blk_frozen BK107.out 3; have hfz13_4 := blk_frozen BK107.out 4))
              repeat (go_quiet (first | ((with_reducible refine gate_dst (N := 4) rfl ?_); refine box_event ?hg (N := 4) ?hd (cs := #[.int .i64 0, .string (⟨#[]⟩ : ByteArray), .string (⟨#[]⟩ : ByteArray), .bool false, .bool false]) (t := 26) ?hr ?_; (case hd => rfl); (case hg => rfl); (case hr => first | (go_simp; done) | (go_simp; rfl)); intro gb107 hg w12 hbox hb; have n0_ := Aside0.mk (Kd.R_below (Kd.R_elderB (by (with_reducible repeat (first | apply Kd.R_alloc | apply Kd.R_drewN | apply Kd.R_drew)); exact HO_11.out) gb107 (Nat.le_of_eq hg.symm)) hb); have n1_ := Aside0.mk (below_step (by repeat (first | (with_reducible first | exact HB.out | apply below_alloc | apply pw_below_drewN | apply below_drew1) | exact HB.out)) hb); have n2_ := Aside0.mk (hbox); have n3_ := Aside0.mk ((by rw [hg]; exact (below_size (by repeat (first | (with_reducible first | exact HB.out | apply below_alloc | apply pw_below_drewN | apply below_drew1) | exact HB.out))) : w.heap.size ≤ gb107)); have n4_ := Aside0.mk ((by rw [hg]; exact (below_size (by repeat (first | (with_reducible first | exact HB.out | apply below_alloc | apply pw_below_drewN | apply below_drew1) | exact HB.out))) : w.heap.size ≤ gb107)); clear HO_11; clear HB; have HO_11 := n0_; have HB := n1_; have BK107 := n2_; have GW107 := n3_; have GE107 := n4_; clear n0_ n1_ n2_ n3_ n4_; clear hb hbox hg; have hcz13_0 : w12.cell? ⟨gb107, 0, none⟩ = some (.int .i64 0) := (blk_cell BK107.out 0).trans rfl; have hcz13_1 : w12.cell? ⟨gb107, 1, none⟩ = some (.string (⟨#[]⟩ : ByteArray)) := (blk_cell BK107.out 1).trans rfl; have hcz13_2 : w12.cell? ⟨gb107, 2, none⟩ = some (.string (⟨#[]⟩ : ByteArray)) := (blk_cell BK107.out 2).trans rfl; have hcz13_3 : w12.cell? ⟨gb107, 3, none⟩ = some (.bool false) := (blk_cell BK107.out 3).trans rfl; have hcz13_4 : w12.cell? ⟨gb107, 4, none⟩ = some (.bool false) := (blk_cell BK107.out 4).trans rfl; have hfz13_0 := blk_frozen BK107.out 0; have hfz13_1 := blk_frozen BK107.out 1; have hfz13_2 := blk_frozen BK107.out 2; have hfz13_3 := blk_frozen BK107.out 3; have hfz13_4 := blk_frozen BK107.out 4)); go_upto_region 6 with (first | ((with_reducible refine gate_dst (N := 4) rfl ?_); refine box_event ?hg (N := 4) ?hd (cs := #[.int .i64 0, .string (⟨#[]⟩ : ByteArray), .string (⟨#[]⟩ : ByteArray), .bool false, .bool false]) (t := 26) ?hr ?_; (case hd => rfl); (case hg => rfl); (case hr => first | (go_simp; done) | (go_simp; rfl)); intro gb107 hg w12 hbox hb; have n0_ := Aside0.mk (Kd.R_below (Kd.R_elderB (by (with_reducible repeat (first | apply Kd.R_alloc | apply Kd.R_drewN | apply Kd.R_drew)); exact HO_11.out) gb107 (Nat.le_of_eq hg.symm)) hb); have n1_ := Aside0.mk (below_step (by repeat (first | (with_reducible first | exact HB.out | apply below_alloc | apply pw_below_drewN | apply below_drew1) | exact HB.out)) hb); have n2_ := Aside0.mk (hbox); have n3_ := Aside0.mk ((by rw [hg]; exact (below_size (by repeat (first | (with_reducible first | exact HB.out | apply below_alloc | apply pw_below_drewN | apply below_drew1) | exact HB.out))) : w.heap.size ≤ gb107)); have n4_ := Aside0.mk ((by rw [hg]; exact (below_size (by repeat (first | (with_reducible first | exact HB.out | apply below_alloc | apply pw_below_drewN | apply below_drew1) | exact HB.out))) : w.heap.size ≤ gb107)); clear HO_11; clear HB; have HO_11 := n0_; have HB := n1_; have BK107 := n2_; have GW107 := n3_; have GE107 := n4_; clear n0_ n1_ n2_ n3_ n4_; clear hb hbox hg; have hcz13_0 : w12.cell? ⟨gb107, 0, none⟩ = some (.int .i64 0) := (blk_cell BK107.out 0).trans rfl; have hcz13_1 : w12.cell? ⟨gb107, 1, none⟩ = some (.string (⟨#[]⟩ : ByteArray)) := (blk_cell BK107.out 1).trans rfl; have hcz13_2 : w12.cell? ⟨gb107, 2, none⟩ = some (.string (⟨#[]⟩ : ByteArray)) := (blk_cell BK107.out 2).trans rfl; have hcz13_3 : w12.cell? ⟨gb107, 3, none⟩ = some (.bool false) := (blk_cell BK107.out 3).trans rfl; have hcz13_4 : w12.cell? ⟨gb107, 4, none⟩ = some (.bool false) := (blk_cell BK107.out 4).trans rfl; have hfz13_0 := blk_frozen BK107.out 0; have hfz13_1 := blk_frozen BK107.out 1; have hfz13_2 := blk_frozen BK107.out 2; have hfz13_3 := blk_frozen BK107.out 3; have hfz13_4 := blk_frozen BK107.out 4)))
              (try simp only [Act.put, List.setIfInBounds_toArray, List.set_cons_zero, List.set_cons_succ])
              go_cut [46] (fun v46 wc => ∃ (kq : Nat) (x46_10 : Bool), v46 = .bool x46_10 ∧ Aside0 (gouachelaw02_TokenBack.j1 kq t102 (t102.length : Int) x13_1 x46_10 ((rd_T26 t102 x13_1).f0) ((rd_T26 t102 x13_1).f1) ((rd_T26 t102 x13_1).f2) ((rd_T26 t102 x13_1).f3) ((rd_T26 t102 x13_1).f4) = some r) ∧ Aside0 (kq ≤ k1) ∧ Aside0 (Kd.R k26 26 wc w.heap.size (fun k_ => k_ ≠ gb107) (.slice (some ad106) t102.length co7) t102) ∧ Aside0 (wc.heap[gb107]? = some (.cells #[.int .i64 ((rd_T26 t102 x13_1).f0), .string ((rd_T26 t102 x13_1).f1), .string ((rd_T26 t102 x13_1).f2), .bool ((rd_T26 t102 x13_1).f3), .bool ((rd_T26 t102 x13_1).f4)] 26 (0, 0))) ∧ Aside0 (Below w.heap.size w wc))
              case first =>
                have H := HC11.out
                clear HC11
                by_cases c14 : ((rd_T26 t102 x13_1).f0) = 6
                · rw [if_pos c14] at H
                  have c14b0 : (((rd_T26 t102 x13_1).f0) == 6) = true := beq_iff_eq.mpr c14
                  have c14b1 : (((rd_T26 t102 x13_1).f0) != 6) = false := bne_eq_false_iff_eq.mpr c14
                  clear c14
                  (first | rw [c14b0] | (simp only [i64_w, i32_w]; rw [c14b0]) | skip)
                  have H' := Aside0.mk H
                  clear H
                  have hcz15_0 : w12.cell? ⟨gb107, 0, none⟩ = some (.int .i64 0) := (blk_cell BK107.out 0).trans rfl
                  have hcz15_1 : w12.cell? ⟨gb107, 1, none⟩ = some (.string (⟨#[]⟩ : ByteArray)) := (blk_cell BK107.out 1).trans rfl
                  have hcz15_2 : w12.cell? ⟨gb107, 2, none⟩ = some (.string (⟨#[]⟩ : ByteArray)) := (blk_cell BK107.out 2).trans rfl
                  have hcz15_3 : w12.cell? ⟨gb107, 3, none⟩ = some (.bool false) := (blk_cell BK107.out 3).trans rfl
                  have hcz15_4 : w12.cell? ⟨gb107, 4, none⟩ = some (.bool false) := (blk_cell BK107.out 4).trans rfl
                  have hfz15_0 := blk_frozen BK107.out 0
                  have hfz15_1 := blk_frozen BK107.out 1
                  have hfz15_2 := blk_frozen BK107.out 2
                  have hfz15_3 := blk_frozen BK107.out 3
                  have hfz15_4 := blk_frozen BK107.out 4
                  go_wp2
                  repeat (go_quiet (fail); try go_wp2)
                  go_meet
                  case rel => exact ⟨_, (true), (by first | rfl | (simp; done) | (simp [*]; done)), H', ⟨by have := HK1.out; first | omega | exact Nat.le_refl _⟩, ⟨by (with_reducible repeat (first | apply Kd.R_alloc | apply Kd.R_drewN | apply Kd.R_drew)); exact Kd.R_mono (Kd.R_far (p := ⟨gb107, 4, none⟩) (Kd.R_far (p := ⟨gb107, 3, none⟩) (Kd.R_far (p := ⟨gb107, 2, none⟩) (Kd.R_far (p := ⟨gb107, 1, none⟩) (Kd.R_far (p := ⟨gb107, 0, none⟩) (Kd.R_mono HO_11.out (fun k_ hk => (⟨hk, hk.2⟩ : _ ∧ k_ ≠ gb107))) (fun _ hk => hk.2) (.int .i64 ((rd_T26 t102 x13_1).f0))) (fun _ hk => hk.2) (.string ((rd_T26 t102 x13_1).f1))) (fun _ hk => hk.2) (.string ((rd_T26 t102 x13_1).f2))) (fun _ hk => hk.2) (.bool ((rd_T26 t102 x13_1).f3))) (fun _ hk => hk.2) (.bool ((rd_T26 t102 x13_1).f4))) (fun _ hk => hk.1.2)⟩, ⟨by (with_reducible repeat (first | refine blk_drewN ?_ _ | refine blk_drew ?_ | refine blk_alloc ?_ _)); refine blk_put (cs := #[.int .i64 ((rd_T26 t102 x13_1).f0), .string ((rd_T26 t102 x13_1).f1), .string ((rd_T26 t102 x13_1).f2), .bool ((rd_T26 t102 x13_1).f3), .bool false]) ?_ 4 _ rfl; (with_reducible repeat (first | refine blk_drewN ?_ _ | refine blk_drew ?_ | refine blk_alloc ?_ _)); refine blk_put (cs := #[.int .i64 ((rd_T26 t102 x13_1).f0), .string ((rd_T26 t102 x13_1).f1), .string ((rd_T26 t102 x13_1).f2), .bool false, .bool false]) ?_ 3 _ rfl; (with_reducible repeat (first | refine blk_drewN ?_ _ | refine blk_drew ?_ | refine blk_alloc ?_ _)); refine blk_put (cs := #[.int .i64 ((rd_T26 t102 x13_1).f0), .string ((rd_T26 t102 x13_1).f1), .string (⟨#[]⟩ : ByteArray), .bool false, .bool false]) ?_ 2 _ rfl; (with_reducible repeat (first | refine blk_drewN ?_ _ | refine blk_drew ?_ | refine blk_alloc ?_ _)); refine blk_put (cs := #[.int .i64 ((rd_T26 t102 x13_1).f0), .string (⟨#[]⟩ : ByteArray), .string (⟨#[]⟩ : ByteArray), .bool false, .bool false]) ?_ 1 _ rfl; (with_reducible repeat (first | refine blk_drewN ?_ _ | refine blk_drew ?_ | refine blk_alloc ?_ _)); refine blk_put (cs := #[.int .i64 0, .string (⟨#[]⟩ : ByteArray), .string (⟨#[]⟩ : ByteArray), .bool false, .bool false]) ?_ 0 _ rfl; (with_reducible repeat (first | refine blk_drewN ?_ _ | refine blk_drew ?_ | refine blk_alloc ?_ _)); exact BK107.out⟩, ⟨by repeat (first | (with_reducible first | exact HB.out | apply below_alloc | apply pw_below_drewN | apply below_drew1 | refine below_set ?_ GE107.out) | exact HB.out)⟩⟩
                · rw [if_neg c14] at H
                  have c14b0 : (((rd_T26 t102 x13_1).f0) == 6) = false := beq_eq_false_iff_ne.mpr c14
                  have c14b1 : (((rd_T26 t102 x13_1).f0) != 6) = true := bne_iff_ne.mpr c14
                  (first | rw [c14b0] | (simp only [i64_w, i32_w]; rw [c14b0]) | skip)
                  by_cases c16 : ((rd_T26 t102 x13_1).f0) = 8
                  · rw [if_pos c16] at H
                    have c16b0 : (((rd_T26 t102 x13_1).f0) == 8) = true := beq_iff_eq.mpr c16
                    have c16b1 : (((rd_T26 t102 x13_1).f0) != 8) = false := bne_eq_false_iff_eq.mpr c16
                    clear c16
                    have H' := Aside0.mk H
                    clear H
                    have hcz17_0 : w12.cell? ⟨gb107, 0, none⟩ = some (.int .i64 0) := (blk_cell BK107.out 0).trans rfl
                    have hcz17_1 : w12.cell? ⟨gb107, 1, none⟩ = some (.string (⟨#[]⟩ : ByteArray)) := (blk_cell BK107.out 1).trans rfl
                    have hcz17_2 : w12.cell? ⟨gb107, 2, none⟩ = some (.string (⟨#[]⟩ : ByteArray)) := (blk_cell BK107.out 2).trans rfl
                    have hcz17_3 : w12.cell? ⟨gb107, 3, none⟩ = some (.bool false) := (blk_cell BK107.out 3).trans rfl
                    have hcz17_4 : w12.cell? ⟨gb107, 4, none⟩ = some (.bool false) := (blk_cell BK107.out 4).trans rfl
                    have hfz17_0 := blk_frozen BK107.out 0
                    have hfz17_1 := blk_frozen BK107.out 1
                    have hfz17_2 := blk_frozen BK107.out 2
                    have hfz17_3 := blk_frozen BK107.out 3
                    have hfz17_4 := blk_frozen BK107.out 4
                    go_wp2
                    repeat (go_quiet (fail); try go_wp2)
                    go_meet
                    case rel => exact ⟨_, (true), (by first | rfl | (simp; done) | (simp [*]; done)), H', ⟨by have := HK1.out; first | omega | exact Nat.le_refl _⟩, ⟨by (with_reducible repeat (first | apply Kd.R_alloc | apply Kd.R_drewN | apply Kd.R_drew)); exact Kd.R_mono (Kd.R_far (p := ⟨gb107, 4, none⟩) (Kd.R_far (p := ⟨gb107, 3, none⟩) (Kd.R_far (p := ⟨gb107, 2, none⟩) (Kd.R_far (p := ⟨gb107, 1, none⟩) (Kd.R_far (p := ⟨gb107, 0, none⟩) (Kd.R_mono HO_11.out (fun k_ hk => (⟨hk, hk.2⟩ : _ ∧ k_ ≠ gb107))) (fun _ hk => hk.2) (.int .i64 ((rd_T26 t102 x13_1).f0))) (fun _ hk => hk.2) (.string ((rd_T26 t102 x13_1).f1))) (fun _ hk => hk.2) (.string ((rd_T26 t102 x13_1).f2))) (fun _ hk => hk.2) (.bool ((rd_T26 t102 x13_1).f3))) (fun _ hk => hk.2) (.bool ((rd_T26 t102 x13_1).f4))) (fun _ hk => hk.1.2)⟩, ⟨by (with_reducible repeat (first | refine blk_drewN ?_ _ | refine blk_drew ?_ | refine blk_alloc ?_ _)); refine blk_put (cs := #[.int .i64 ((rd_T26 t102 x13_1).f0), .string ((rd_T26 t102 x13_1).f1), .string ((rd_T26 t102 x13_1).f2), .bool ((rd_T26 t102 x13_1).f3), .bool false]) ?_ 4 _ rfl; (with_reducible repeat (first | refine blk_drewN ?_ _ | refine blk_drew ?_ | refine blk_alloc ?_ _)); refine blk_put (cs := #[.int .i64 ((rd_T26 t102 x13_1).f0), .string ((rd_T26 t102 x13_1).f1), .string ((rd_T26 t102 x13_1).f2), .bool false, .bool false]) ?_ 3 _ rfl; (with_reducible repeat (first | refine blk_drewN ?_ _ | refine blk_drew ?_ | refine blk_alloc ?_ _)); refine blk_put (cs := #[.int .i64 ((rd_T26 t102 x13_1).f0), .string ((rd_T26 t102 x13_1).f1), .string (⟨#[]⟩ : ByteArray), .bool false, .bool false]) ?_ 2 _ rfl; (with_reducible repeat (first | refine blk_drewN ?_ _ | refine blk_drew ?_ | refine blk_alloc ?_ _)); refine blk_put (cs := #[.int .i64 ((rd_T26 t102 x13_1).f0), .string (⟨#[]⟩ : ByteArray), .string (⟨#[]⟩ : ByteArray), .bool false, .bool false]) ?_ 1 _ rfl; (with_reducible repeat (first | refine blk_drewN ?_ _ | refine blk_drew ?_ | refine blk_alloc ?_ _)); refine blk_put (cs := #[.int .i64 0, .string (⟨#[]⟩ : ByteArray), .string (⟨#[]⟩ : ByteArray), .bool false, .bool false]) ?_ 0 _ rfl; (with_reducible repeat (first | refine blk_drewN ?_ _ | refine blk_drew ?_ | refine blk_alloc ?_ _)); exact BK107.out⟩, ⟨by repeat (first | (with_reducible first | exact HB.out | apply below_alloc | apply pw_below_drewN | apply below_drew1 | refine below_set ?_ GE107.out) | exact HB.out)⟩⟩
                  · rw [if_neg c16] at H
                    have c16b0 : (((rd_T26 t102 x13_1).f0) == 8) = false := beq_eq_false_iff_ne.mpr c16
                    have c16b1 : (((rd_T26 t102 x13_1).f0) != 8) = true := bne_iff_ne.mpr c16
                    by_cases c18 : ((rd_T26 t102 x13_1).f0) = 7
                    · rw [if_pos c18] at H
                      have c18b0 : (((rd_T26 t102 x13_1).f0) == 7) = true := beq_iff_eq.mpr c18
                      have c18b1 : (((rd_T26 t102 x13_1).f0) != 7) = false := bne_eq_false_iff_eq.mpr c18
                      clear c18
                      have H' := Aside0.mk H
                      clear H
                      have hcz19_0 : w12.cell? ⟨gb107, 0, none⟩ = some (.int .i64 0) := (blk_cell BK107.out 0).trans rfl
                      have hcz19_1 : w12.cell? ⟨gb107, 1, none⟩ = some (.string (⟨#[]⟩ : ByteArray)) := (blk_cell BK107.out 1).trans rfl
                      have hcz19_2 : w12.cell? ⟨gb107, 2, none⟩ = some (.string (⟨#[]⟩ : ByteArray)) := (blk_cell BK107.out 2).trans rfl
                      have hcz19_3 : w12.cell? ⟨gb107, 3, none⟩ = some (.bool false) := (blk_cell BK107.out 3).trans rfl
                      have hcz19_4 : w12.cell? ⟨gb107, 4, none⟩ = some (.bool false) := (blk_cell BK107.out 4).trans rfl
                      have hfz19_0 := blk_frozen BK107.out 0
                      have hfz19_1 := blk_frozen BK107.out 1
                      have hfz19_2 := blk_frozen BK107.out 2
                      have hfz19_3 := blk_frozen BK107.out 3
                      have hfz19_4 := blk_frozen BK107.out 4
                      go_wp2
                      repeat (go_quiet (fail); try go_wp2)
                      go_meet
                      case rel => exact ⟨_, (true), (by first | rfl | (simp; done) | (simp [*]; done)), H', ⟨by have := HK1.out; first | omega | exact Nat.le_refl _⟩, ⟨by (with_reducible repeat (first | apply Kd.R_alloc | apply Kd.R_drewN | apply Kd.R_drew)); exact Kd.R_mono (Kd.R_far (p := ⟨gb107, 4, none⟩) (Kd.R_far (p := ⟨gb107, 3, none⟩) (Kd.R_far (p := ⟨gb107, 2, none⟩) (Kd.R_far (p := ⟨gb107, 1, none⟩) (Kd.R_far (p := ⟨gb107, 0, none⟩) (Kd.R_mono HO_11.out (fun k_ hk => (⟨hk, hk.2⟩ : _ ∧ k_ ≠ gb107))) (fun _ hk => hk.2) (.int .i64 ((rd_T26 t102 x13_1).f0))) (fun _ hk => hk.2) (.string ((rd_T26 t102 x13_1).f1))) (fun _ hk => hk.2) (.string ((rd_T26 t102 x13_1).f2))) (fun _ hk => hk.2) (.bool ((rd_T26 t102 x13_1).f3))) (fun _ hk => hk.2) (.bool ((rd_T26 t102 x13_1).f4))) (fun _ hk => hk.1.2)⟩, ⟨by (with_reducible repeat (first | refine blk_drewN ?_ _ | refine blk_drew ?_ | refine blk_alloc ?_ _)); refine blk_put (cs := #[.int .i64 ((rd_T26 t102 x13_1).f0), .string ((rd_T26 t102 x13_1).f1), .string ((rd_T26 t102 x13_1).f2), .bool ((rd_T26 t102 x13_1).f3), .bool false]) ?_ 4 _ rfl; (with_reducible repeat (first | refine blk_drewN ?_ _ | refine blk_drew ?_ | refine blk_alloc ?_ _)); refine blk_put (cs := #[.int .i64 ((rd_T26 t102 x13_1).f0), .string ((rd_T26 t102 x13_1).f1), .string ((rd_T26 t102 x13_1).f2), .bool false, .bool false]) ?_ 3 _ rfl; (with_reducible repeat (first | refine blk_drewN ?_ _ | refine blk_drew ?_ | refine blk_alloc ?_ _)); refine blk_put (cs := #[.int .i64 ((rd_T26 t102 x13_1).f0), .string ((rd_T26 t102 x13_1).f1), .string (⟨#[]⟩ : ByteArray), .bool false, .bool false]) ?_ 2 _ rfl; (with_reducible repeat (first | refine blk_drewN ?_ _ | refine blk_drew ?_ | refine blk_alloc ?_ _)); refine blk_put (cs := #[.int .i64 ((rd_T26 t102 x13_1).f0), .string (⟨#[]⟩ : ByteArray), .string (⟨#[]⟩ : ByteArray), .bool false, .bool false]) ?_ 1 _ rfl; (with_reducible repeat (first | refine blk_drewN ?_ _ | refine blk_drew ?_ | refine blk_alloc ?_ _)); refine blk_put (cs := #[.int .i64 0, .string (⟨#[]⟩ : ByteArray), .string (⟨#[]⟩ : ByteArray), .bool false, .bool false]) ?_ 0 _ rfl; (with_reducible repeat (first | refine blk_drewN ?_ _ | refine blk_drew ?_ | refine blk_alloc ?_ _)); exact BK107.out⟩, ⟨by repeat (first | (with_reducible first | exact HB.out | apply below_alloc | apply pw_below_drewN | apply below_drew1 | refine below_set ?_ GE107.out) | exact HB.out)⟩⟩
                    · rw [if_neg c18] at H
                      have c18b0 : (((rd_T26 t102 x13_1).f0) == 7) = false := beq_eq_false_iff_ne.mpr c18
                      have c18b1 : (((rd_T26 t102 x13_1).f0) != 7) = true := bne_iff_ne.mpr c18
                      by_cases c20 : ((rd_T26 t102 x13_1).f0) = 9
                      · rw [if_pos c20] at H
                        have c20b0 : (((rd_T26 t102 x13_1).f0) == 9) = true := beq_iff_eq.mpr c20
                        have c20b1 : (((rd_T26 t102 x13_1).f0) != 9) = false := bne_eq_false_iff_eq.mpr c20
                        clear c20
                        have H' := Aside0.mk H
                        clear H
                        have hcz21_0 : w12.cell? ⟨gb107, 0, none⟩ = some (.int .i64 0) := (blk_cell BK107.out 0).trans rfl
                        have hcz21_1 : w12.cell? ⟨gb107, 1, none⟩ = some (.string (⟨#[]⟩ : ByteArray)) := (blk_cell BK107.out 1).trans rfl
                        have hcz21_2 : w12.cell? ⟨gb107, 2, none⟩ = some (.string (⟨#[]⟩ : ByteArray)) := (blk_cell BK107.out 2).trans rfl
                        have hcz21_3 : w12.cell? ⟨gb107, 3, none⟩ = some (.bool false) := (blk_cell BK107.out 3).trans rfl
                        have hcz21_4 : w12.cell? ⟨gb107, 4, none⟩ = some (.bool false) := (blk_cell BK107.out 4).trans rfl
                        have hfz21_0 := blk_frozen BK107.out 0
                        have hfz21_1 := blk_frozen BK107.out 1
                        have hfz21_2 := blk_frozen BK107.out 2
                        have hfz21_3 := blk_frozen BK107.out 3
                        have hfz21_4 := blk_frozen BK107.out 4
                        go_wp2
                        repeat (go_quiet (fail); try go_wp2)
                        go_meet
                        case rel => exact ⟨_, (true), (by first | rfl | (simp; done) | (simp [*]; done)), H', ⟨by have := HK1.out; first | omega | exact Nat.le_refl _⟩, ⟨by (with_reducible repeat (first | apply Kd.R_alloc | apply Kd.R_drewN | apply Kd.R_drew)); exact Kd.R_mono (Kd.R_far (p := ⟨gb107, 4, none⟩) (Kd.R_far (p := ⟨gb107, 3, none⟩) (Kd.R_far (p := ⟨gb107, 2, none⟩) (Kd.R_far (p := ⟨gb107, 1, none⟩) (Kd.R_far (p := ⟨gb107, 0, none⟩) (Kd.R_mono HO_11.out (fun k_ hk => (⟨hk, hk.2⟩ : _ ∧ k_ ≠ gb107))) (fun _ hk => hk.2) (.int .i64 ((rd_T26 t102 x13_1).f0))) (fun _ hk => hk.2) (.string ((rd_T26 t102 x13_1).f1))) (fun _ hk => hk.2) (.string ((rd_T26 t102 x13_1).f2))) (fun _ hk => hk.2) (.bool ((rd_T26 t102 x13_1).f3))) (fun _ hk => hk.2) (.bool ((rd_T26 t102 x13_1).f4))) (fun _ hk => hk.1.2)⟩, ⟨by (with_reducible repeat (first | refine blk_drewN ?_ _ | refine blk_drew ?_ | refine blk_alloc ?_ _)); refine blk_put (cs := #[.int .i64 ((rd_T26 t102 x13_1).f0), .string ((rd_T26 t102 x13_1).f1), .string ((rd_T26 t102 x13_1).f2), .bool ((rd_T26 t102 x13_1).f3), .bool false]) ?_ 4 _ rfl; (with_reducible repeat (first | refine blk_drewN ?_ _ | refine blk_drew ?_ | refine blk_alloc ?_ _)); refine blk_put (cs := #[.int .i64 ((rd_T26 t102 x13_1).f0), .string ((rd_T26 t102 x13_1).f1), .string ((rd_T26 t102 x13_1).f2), .bool false, .bool false]) ?_ 3 _ rfl; (with_reducible repeat (first | refine blk_drewN ?_ _ | refine blk_drew ?_ | refine blk_alloc ?_ _)); refine blk_put (cs := #[.int .i64 ((rd_T26 t102 x13_1).f0), .string ((rd_T26 t102 x13_1).f1), .string (⟨#[]⟩ : ByteArray), .bool false, .bool false]) ?_ 2 _ rfl; (with_reducible repeat (first | refine blk_drewN ?_ _ | refine blk_drew ?_ | refine blk_alloc ?_ _)); refine blk_put (cs := #[.int .i64 ((rd_T26 t102 x13_1).f0), .string (⟨#[]⟩ : ByteArray), .string (⟨#[]⟩ : ByteArray), .bool false, .bool false]) ?_ 1 _ rfl; (with_reducible repeat (first | refine blk_drewN ?_ _ | refine blk_drew ?_ | refine blk_alloc ?_ _)); refine blk_put (cs := #[.int .i64 0, .string (⟨#[]⟩ : ByteArray), .string (⟨#[]⟩ : ByteArray), .bool false, .bool false]) ?_ 0 _ rfl; (with_reducible repeat (first | refine blk_drewN ?_ _ | refine blk_drew ?_ | refine blk_alloc ?_ _)); exact BK107.out⟩, ⟨by repeat (first | (with_reducible first | exact HB.out | apply below_alloc | apply pw_below_drewN | apply below_drew1 | refine below_set ?_ GE107.out) | exact HB.out)⟩⟩
                      · rw [if_neg c20] at H
                        have c20b0 : (((rd_T26 t102 x13_1).f0) == 9) = false := beq_eq_false_iff_ne.mpr c20
                        have c20b1 : (((rd_T26 t102 x13_1).f0) != 9) = true := bne_iff_ne.mpr c20
                        replace H := Option.bind_eq_some_iff.mp H
                        obtain ⟨t108, A220, H⟩ := H
                        replace H : (if t108 = true then ((gouachelaw02_clean.f ((rd_T26 t102 x13_1).f2)).bind fun t109 => (gouachelaw02_TokenBack.j1 k1 t102 (t102.length : Int) x13_1 (!t109) ((rd_T26 t102 x13_1).f0) ((rd_T26 t102 x13_1).f1) ((rd_T26 t102 x13_1).f2) ((rd_T26 t102 x13_1).f3) ((rd_T26 t102 x13_1).f4))) else (gouachelaw02_TokenBack.j1 k1 t102 (t102.length : Int) x13_1 true ((rd_T26 t102 x13_1).f0) ((rd_T26 t102 x13_1).f1) ((rd_T26 t102 x13_1).f2) ((rd_T26 t102 x13_1).f3) ((rd_T26 t102 x13_1).f4))) = some r := H
                        have A22 := Aside0.mk A220
                        clear A220
                        by_cases c23 : t108 = true
                        · subst c23
                          have H1 : ((gouachelaw02_clean.f ((rd_T26 t102 x13_1).f2)).bind fun t109 => (gouachelaw02_TokenBack.j1 k1 t102 (t102.length : Int) x13_1 (!t109) ((rd_T26 t102 x13_1).f0) ((rd_T26 t102 x13_1).f1) ((rd_T26 t102 x13_1).f2) ((rd_T26 t102 x13_1).f3) ((rd_T26 t102 x13_1).f4))) = some r := by rw [if_pos rfl] at H; exact H
                          clear H
                          have H := H1
                          clear H1
                          replace H := Option.bind_eq_some_iff.mp H
                          obtain ⟨t109, A240, H⟩ := H
                          replace H : (gouachelaw02_TokenBack.j1 k1 t102 (t102.length : Int) x13_1 (!t109) ((rd_T26 t102 x13_1).f0) ((rd_T26 t102 x13_1).f1) ((rd_T26 t102 x13_1).f2) ((rd_T26 t102 x13_1).f3) ((rd_T26 t102 x13_1).f4)) = some r := H
                          have A24 := Aside0.mk A240
                          clear A240
                          have H' := Aside0.mk H
                          clear H
                          have hcz25_0 : w12.cell? ⟨gb107, 0, none⟩ = some (.int .i64 0) := (blk_cell BK107.out 0).trans rfl
                          have hcz25_1 : w12.cell? ⟨gb107, 1, none⟩ = some (.string (⟨#[]⟩ : ByteArray)) := (blk_cell BK107.out 1).trans rfl
                          have hcz25_2 : w12.cell? ⟨gb107, 2, none⟩ = some (.string (⟨#[]⟩ : ByteArray)) := (blk_cell BK107.out 2).trans rfl
                          have hcz25_3 : w12.cell? ⟨gb107, 3, none⟩ = some (.bool false) := (blk_cell BK107.out 3).trans rfl
                          have hcz25_4 : w12.cell? ⟨gb107, 4, none⟩ = some (.bool false) := (blk_cell BK107.out 4).trans rfl
                          have hfz25_0 := blk_frozen BK107.out 0
                          have hfz25_1 := blk_frozen BK107.out 1
                          have hfz25_2 := blk_frozen BK107.out 2
                          have hfz25_3 := blk_frozen BK107.out 3
                          have hfz25_4 := blk_frozen BK107.out 4
                          go_wp2_with (first | (go_at_call 12; (with_reducible refine (gouachelaw02_clean.calls ((rd_T26 t102 x13_1).f1) true _ A22.out).mono ?_); rintro e w26 ⟨rfl, hb⟩; have n0_ := Aside0.mk (Kd.R_below (by (with_reducible repeat (first | apply Kd.R_alloc | apply Kd.R_drewN | apply Kd.R_drew)); exact (Kd.R_mono (Kd.R_far (p := ⟨gb107, 4, none⟩) (Kd.R_far (p := ⟨gb107, 3, none⟩) (Kd.R_far (p := ⟨gb107, 2, none⟩) (Kd.R_far (p := ⟨gb107, 1, none⟩) (Kd.R_far (p := ⟨gb107, 0, none⟩) (Kd.R_mono HO_11.out (fun k_ hk => (⟨hk, hk.2⟩ : _ ∧ k_ ≠ gb107))) (fun _ hk => hk.2) (.int .i64 ((rd_T26 t102 x13_1).f0))) (fun _ hk => hk.2) (.string ((rd_T26 t102 x13_1).f1))) (fun _ hk => hk.2) (.string ((rd_T26 t102 x13_1).f2))) (fun _ hk => hk.2) (.bool ((rd_T26 t102 x13_1).f3))) (fun _ hk => hk.2) (.bool ((rd_T26 t102 x13_1).f4))) (fun _ h_ => h_.1))) hb); have n1_ := Aside0.mk (blk_below (g := gb107) (o := .cells #[.int .i64 ((rd_T26 t102 x13_1).f0), .string ((rd_T26 t102 x13_1).f1), .string ((rd_T26 t102 x13_1).f2), .bool ((rd_T26 t102 x13_1).f3), .bool ((rd_T26 t102 x13_1).f4)] 26 (0, 0)) (by (with_reducible repeat (first | refine blk_drewN ?_ _ | refine blk_drew ?_ | refine blk_alloc ?_ _)); refine blk_put (cs := #[.int .i64 ((rd_T26 t102 x13_1).f0), .string ((rd_T26 t102 x13_1).f1), .string ((rd_T26 t102 x13_1).f2), .bool ((rd_T26 t102 x13_1).f3), .bool false]) ?_ 4 _ rfl; (with_reducible repeat (first | refine blk_drewN ?_ _ | refine blk_drew ?_ | refine blk_alloc ?_ _)); refine blk_put (cs := #[.int .i64 ((rd_T26 t102 x13_1).f0), .string ((rd_T26 t102 x13_1).f1), .string ((rd_T26 t102 x13_1).f2), .bool false, .bool false]) ?_ 3 _ rfl; (with_reducible repeat (first | refine blk_drewN ?_ _ | refine blk_drew ?_ | refine blk_alloc ?_ _)); refine blk_put (cs := #[.int .i64 ((rd_T26 t102 x13_1).f0), .string ((rd_T26 t102 x13_1).f1), .string (⟨#[]⟩ : ByteArray), .bool false, .bool false]) ?_ 2 _ rfl; (with_reducible repeat (first | refine blk_drewN ?_ _ | refine blk_drew ?_ | refine blk_alloc ?_ _)); refine blk_put (cs := #[.int .i64 ((rd_T26 t102 x13_1).f0), .string (⟨#[]⟩ : ByteArray), .string (⟨#[]⟩ : ByteArray), .bool false, .bool false]) ?_ 1 _ rfl; (with_reducible repeat (first | refine blk_drewN ?_ _ | refine blk_drew ?_ | refine blk_alloc ?_ _)); refine blk_put (cs := #[.int .i64 0, .string (⟨#[]⟩ : ByteArray), .string (⟨#[]⟩ : ByteArray), .bool false, .bool false]) ?_ 0 _ rfl; (with_reducible repeat (first | refine blk_drewN ?_ _ | refine blk_drew ?_ | refine blk_alloc ?_ _)); exact BK107.out) hb); have n2_ := Aside0.mk (below_step (by repeat (first | (with_reducible first | exact HB.out | apply below_alloc | apply pw_below_drewN | apply below_drew1 | refine below_set ?_ GE107.out) | exact HB.out)) hb); clear HO_11; clear BK107; clear HB; have HO_11 := n0_; have BK107 := n1_; have HB := n2_; clear n0_ n1_ n2_; (try clear hb); (try clear hb2); (try clear hk); (try clear hi); have hcz27_0 : w26.cell? ⟨gb107, 0, none⟩ = some (.int .i64 ((rd_T26 t102 x13_1).f0)) := (blk_cell BK107.out 0).trans rfl; have hcz27_1 : w26.cell? ⟨gb107, 1, none⟩ = some (.string ((rd_T26 t102 x13_1).f1)) := (blk_cell BK107.out 1).trans rfl; have hcz27_2 : w26.cell? ⟨gb107, 2, none⟩ = some (.string ((rd_T26 t102 x13_1).f2)) := (blk_cell BK107.out 2).trans rfl; have hcz27_3 : w26.cell? ⟨gb107, 3, none⟩ = some (.bool ((rd_T26 t102 x13_1).f3)) := (blk_cell BK107.out 3).trans rfl; have hcz27_4 : w26.cell? ⟨gb107, 4, none⟩ = some (.bool ((rd_T26 t102 x13_1).f4)) := (blk_cell BK107.out 4).trans rfl; have hfz27_0 := blk_frozen BK107.out 0; have hfz27_1 := blk_frozen BK107.out 1; have hfz27_2 := blk_frozen BK107.out 2; have hfz27_3 := blk_frozen BK107.out 3; have hfz27_4 := blk_frozen BK107.out 4) | (go_at_call 12; (with_reducible refine (gouachelaw02_clean.calls ((rd_T26 t102 x13_1).f2) t109 _ A24.out).mono ?_); rintro e w28 ⟨rfl, hb⟩; have n0_ := Aside0.mk (Kd.R_below (by (with_reducible repeat (first | apply Kd.R_alloc | apply Kd.R_drewN | apply Kd.R_drew)); exact HO_11.out) hb); have n1_ := Aside0.mk (blk_below (g := gb107) (o := .cells #[.int .i64 ((rd_T26 t102 x13_1).f0), .string ((rd_T26 t102 x13_1).f1), .string ((rd_T26 t102 x13_1).f2), .bool ((rd_T26 t102 x13_1).f3), .bool ((rd_T26 t102 x13_1).f4)] 26 (0, 0)) (by (with_reducible repeat (first | refine blk_drewN ?_ _ | refine blk_drew ?_ | refine blk_alloc ?_ _)); exact BK107.out) hb); have n2_ := Aside0.mk (below_step (by repeat (first | (with_reducible first | exact HB.out | apply below_alloc | apply pw_below_drewN | apply below_drew1 | refine below_set ?_ GE107.out) | exact HB.out)) hb); clear HO_11; clear BK107; clear HB; have HO_11 := n0_; have BK107 := n1_; have HB := n2_; clear n0_ n1_ n2_; (try clear hb); (try clear hb2); (try clear hk); (try clear hi)))
                          repeat (go_quiet (first | (go_at_call 12; (with_reducible refine (gouachelaw02_clean.calls ((rd_T26 t102 x13_1).f1) true _ A22.out).mono ?_); rintro e w26 ⟨rfl, hb⟩; have n0_ := Aside0.mk (Kd.R_below (by (with_reducible repeat (first | apply Kd.R_alloc | apply Kd.R_drewN | apply Kd.R_drew)); exact (Kd.R_mono (Kd.R_far (p := ⟨gb107, 4, none⟩) (Kd.R_far (p := ⟨gb107, 3, none⟩) (Kd.R_far (p := ⟨gb107, 2, none⟩) (Kd.R_far (p := ⟨gb107, 1, none⟩) (Kd.R_far (p := ⟨gb107, 0, none⟩) (Kd.R_mono HO_11.out (fun k_ hk => (⟨hk, hk.2⟩ : _ ∧ k_ ≠ gb107))) (fun _ hk => hk.2) (.int .i64 ((rd_T26 t102 x13_1).f0))) (fun _ hk => hk.2) (.string ((rd_T26 t102 x13_1).f1))) (fun _ hk => hk.2) (.string ((rd_T26 t102 x13_1).f2))) (fun _ hk => hk.2) (.bool ((rd_T26 t102 x13_1).f3))) (fun _ hk => hk.2) (.bool ((rd_T26 t102 x13_1).f4))) (fun _ h_ => h_.1))) hb); have n1_ := Aside0.mk (blk_below (g := gb107) (o := .cells #[.int .i64 ((rd_T26 t102 x13_1).f0), .string ((rd_T26 t102 x13_1).f1), .string ((rd_T26 t102 x13_1).f2), .bool ((rd_T26 t102 x13_1).f3), .bool ((rd_T26 t102 x13_1).f4)] 26 (0, 0)) (by (with_reducible repeat (first | refine blk_drewN ?_ _ | refine blk_drew ?_ | refine blk_alloc ?_ _)); refine blk_put (cs := #[.int .i64 ((rd_T26 t102 x13_1).f0), .string ((rd_T26 t102 x13_1).f1), .string ((rd_T26 t102 x13_1).f2), .bool ((rd_T26 t102 x13_1).f3), .bool false]) ?_ 4 _ rfl; (with_reducible repeat (first | refine blk_drewN ?_ _ | refine blk_drew ?_ | refine blk_alloc ?_ _)); refine blk_put (cs := #[.int .i64 ((rd_T26 t102 x13_1).f0), .string ((rd_T26 t102 x13_1).f1), .string ((rd_T26 t102 x13_1).f2), .bool false, .bool false]) ?_ 3 _ rfl; (with_reducible repeat (first | refine blk_drewN ?_ _ | refine blk_drew ?_ | refine blk_alloc ?_ _)); refine blk_put (cs := #[.int .i64 ((rd_T26 t102 x13_1).f0), .string ((rd_T26 t102 x13_1).f1), .string (⟨#[]⟩ : ByteArray), .bool false, .bool false]) ?_ 2 _ rfl; (with_reducible repeat (first | refine blk_drewN ?_ _ | refine blk_drew ?_ | refine blk_alloc ?_ _)); refine blk_put (cs := #[.int .i64 ((rd_T26 t102 x13_1).f0), .string (⟨#[]⟩ : ByteArray), .string (⟨#[]⟩ : ByteArray), .bool false, .bool false]) ?_ 1 _ rfl; (with_reducible repeat (first | refine blk_drewN ?_ _ | refine blk_drew ?_ | refine blk_alloc ?_ _)); refine blk_put (cs := #[.int .i64 0, .string (⟨#[]⟩ : ByteArray), .string (⟨#[]⟩ : ByteArray), .bool false, .bool false]) ?_ 0 _ rfl; (with_reducible repeat (first | refine blk_drewN ?_ _ | refine blk_drew ?_ | refine blk_alloc ?_ _)); exact BK107.out) hb); have n2_ := Aside0.mk (below_step (by repeat (first | (with_reducible first | exact HB.out | apply below_alloc | apply pw_below_drewN | apply below_drew1 | refine below_set ?_ GE107.out) | exact HB.out)) hb); clear HO_11; clear BK107; clear HB; have HO_11 := n0_; have BK107 := n1_; have HB := n2_; clear n0_ n1_ n2_; (try clear hb); (try clear hb2); (try clear hk); (try clear hi); have hcz27_0 : w26.cell? ⟨gb107, 0, none⟩ = some (.int .i64 ((rd_T26 t102 x13_1).f0)) := (blk_cell BK107.out 0).trans rfl; have hcz27_1 : w26.cell? ⟨gb107, 1, none⟩ = some (.string ((rd_T26 t102 x13_1).f1)) := (blk_cell BK107.out 1).trans rfl; have hcz27_2 : w26.cell? ⟨gb107, 2, none⟩ = some (.string ((rd_T26 t102 x13_1).f2)) := (blk_cell BK107.out 2).trans rfl; have hcz27_3 : w26.cell? ⟨gb107, 3, none⟩ = some (.bool ((rd_T26 t102 x13_1).f3)) := (blk_cell BK107.out 3).trans rfl; have hcz27_4 : w26.cell? ⟨gb107, 4, none⟩ = some (.bool ((rd_T26 t102 x13_1).f4)) := (blk_cell BK107.out 4).trans rfl; have hfz27_0 := blk_frozen BK107.out 0; have hfz27_1 := blk_frozen BK107.out 1; have hfz27_2 := blk_frozen BK107.out 2; have hfz27_3 := blk_frozen BK107.out 3; have hfz27_4 := blk_frozen BK107.out 4) | (go_at_call 12; (with_reducible refine (gouachelaw02_clean.calls ((rd_T26 t102 x13_1).f2) t109 _ A24.out).mono ?_); rintro e w28 ⟨rfl, hb⟩; have n0_ := Aside0.mk (Kd.R_below (by (with_reducible repeat (first | apply Kd.R_alloc | apply Kd.R_drewN | apply Kd.R_drew)); exact HO_11.out) hb); have n1_ := Aside0.mk (blk_below (g := gb107) (o := .cells #[.int .i64 ((rd_T26 t102 x13_1).f0), .string ((rd_T26 t102 x13_1).f1), .string ((rd_T26 t102 x13_1).f2), .bool ((rd_T26 t102 x13_1).f3), .bool ((rd_T26 t102 x13_1).f4)] 26 (0, 0)) (by (with_reducible repeat (first | refine blk_drewN ?_ _ | refine blk_drew ?_ | refine blk_alloc ?_ _)); exact BK107.out) hb); have n2_ := Aside0.mk (below_step (by repeat (first | (with_reducible first | exact HB.out | apply below_alloc | apply pw_below_drewN | apply below_drew1 | refine below_set ?_ GE107.out) | exact HB.out)) hb); clear HO_11; clear BK107; clear HB; have HO_11 := n0_; have BK107 := n1_; have HB := n2_; clear n0_ n1_ n2_; (try clear hb); (try clear hb2); (try clear hk); (try clear hi))); try go_wp2_with (first | (go_at_call 12; (with_reducible refine (gouachelaw02_clean.calls ((rd_T26 t102 x13_1).f1) true _ A22.out).mono ?_); rintro e w26 ⟨rfl, hb⟩; have n0_ := Aside0.mk (Kd.R_below (by (with_reducible repeat (first | apply Kd.R_alloc | apply Kd.R_drewN | apply Kd.R_drew)); exact (Kd.R_mono (Kd.R_far (p := ⟨gb107, 4, none⟩) (Kd.R_far (p := ⟨gb107, 3, none⟩) (Kd.R_far (p := ⟨gb107, 2, none⟩) (Kd.R_far (p := ⟨gb107, 1, none⟩) (Kd.R_far (p := ⟨gb107, 0, none⟩) (Kd.R_mono HO_11.out (fun k_ hk => (⟨hk, hk.2⟩ : _ ∧ k_ ≠ gb107))) (fun _ hk => hk.2) (.int .i64 ((rd_T26 t102 x13_1).f0))) (fun _ hk => hk.2) (.string ((rd_T26 t102 x13_1).f1))) (fun _ hk => hk.2) (.string ((rd_T26 t102 x13_1).f2))) (fun _ hk => hk.2) (.bool ((rd_T26 t102 x13_1).f3))) (fun _ hk => hk.2) (.bool ((rd_T26 t102 x13_1).f4))) (fun _ h_ => h_.1))) hb); have n1_ := Aside0.mk (blk_below (g := gb107) (o := .cells #[.int .i64 ((rd_T26 t102 x13_1).f0), .string ((rd_T26 t102 x13_1).f1), .string ((rd_T26 t102 x13_1).f2), .bool ((rd_T26 t102 x13_1).f3), .bool ((rd_T26 t102 x13_1).f4)] 26 (0, 0)) (by (with_reducible repeat (first | refine blk_drewN ?_ _ | refine blk_drew ?_ | refine blk_alloc ?_ _)); refine blk_put (cs := #[.int .i64 ((rd_T26 t102 x13_1).f0), .string ((rd_T26 t102 x13_1).f1), .string ((rd_T26 t102 x13_1).f2), .bool ((rd_T26 t102 x13_1).f3), .bool false]) ?_ 4 _ rfl; (with_reducible repeat (first | refine blk_drewN ?_ _ | refine blk_drew ?_ | refine blk_alloc ?_ _)); refine blk_put (cs := #[.int .i64 ((rd_T26 t102 x13_1).f0), .string ((rd_T26 t102 x13_1).f1), .string ((rd_T26 t102 x13_1).f2), .bool false, .bool false]) ?_ 3 _ rfl; (with_reducible repeat (first | refine blk_drewN ?_ _ | refine blk_drew ?_ | refine blk_alloc ?_ _)); refine blk_put (cs := #[.int .i64 ((rd_T26 t102 x13_1).f0), .string ((rd_T26 t102 x13_1).f1), .string (⟨#[]⟩ : ByteArray), .bool false, .bool false]) ?_ 2 _ rfl; (with_reducible repeat (first | refine blk_drewN ?_ _ | refine blk_drew ?_ | refine blk_alloc ?_ _)); refine blk_put (cs := #[.int .i64 ((rd_T26 t102 x13_1).f0), .string (⟨#[]⟩ : ByteArray), .string (⟨#[]⟩ : ByteArray), .bool false, .bool false]) ?_ 1 _ rfl; (with_reducible repeat (first | refine blk_drewN ?_ _ | refine blk_drew ?_ | refine blk_alloc ?_ _)); refine blk_put (cs := #[.int .i64 0, .string (⟨#[]⟩ : ByteArray), .string (⟨#[]⟩ : ByteArray), .bool false, .bool false]) ?_ 0 _ rfl; (with_reducible repeat (first | refine blk_drewN ?_ _ | refine blk_drew ?_ | refine blk_alloc ?_ _)); exact BK107.out) hb); have n2_ := Aside0.mk (below_step (by repeat (first | (with_reducible first | exact HB.out | apply below_alloc | apply pw_below_drewN | apply below_drew1 | refine below_set ?_ GE107.out) | exact HB.out)) hb); clear HO_11; clear BK107; clear HB; have HO_11 := n0_; have BK107 := n1_; have HB := n2_; clear n0_ n1_ n2_; (try clear hb); (try clear hb2); (try clear hk); (try clear hi); have hcz27_0 : w26.cell? ⟨gb107, 0, none⟩ = some (.int .i64 ((rd_T26 t102 x13_1).f0)) := (blk_cell BK107.out 0).trans rfl; have hcz27_1 : w26.cell? ⟨gb107, 1, none⟩ = some (.string ((rd_T26 t102 x13_1).f1)) := (blk_cell BK107.out 1).trans rfl; have hcz27_2 : w26.cell? ⟨gb107, 2, none⟩ = some (.string ((rd_T26 t102 x13_1).f2)) := (blk_cell BK107.out 2).trans rfl; have hcz27_3 : w26.cell? ⟨gb107, 3, none⟩ = some (.bool ((rd_T26 t102 x13_1).f3)) := (blk_cell BK107.out 3).trans rfl; have hcz27_4 : w26.cell? ⟨gb107, 4, none⟩ = some (.bool ((rd_T26 t102 x13_1).f4)) := (blk_cell BK107.out 4).trans rfl; have hfz27_0 := blk_frozen BK107.out 0; have hfz27_1 := blk_frozen BK107.out 1; have hfz27_2 := blk_frozen BK107.out 2; have hfz27_3 := blk_frozen BK107.out 3; have hfz27_4 := blk_frozen BK107.out 4) | (go_at_call 12; (with_reducible refine (gouachelaw02_clean.calls ((rd_T26 t102 x13_1).f2) t109 _ A24.out).mono ?_); rintro e w28 ⟨rfl, hb⟩; have n0_ := Aside0.mk (Kd.R_below (by (with_reducible repeat (first | apply Kd.R_alloc | apply Kd.R_drewN | apply Kd.R_drew)); exact HO_11.out) hb); have n1_ := Aside0.mk (blk_below (g := gb107) (o := .cells #[.int .i64 ((rd_T26 t102 x13_1).f0), .string ((rd_T26 t102 x13_1).f1), .string ((rd_T26 t102 x13_1).f2), .bool ((rd_T26 t102 x13_1).f3), .bool ((rd_T26 t102 x13_1).f4)] 26 (0, 0)) (by (with_reducible repeat (first | refine blk_drewN ?_ _ | refine blk_drew ?_ | refine blk_alloc ?_ _)); exact BK107.out) hb); have n2_ := Aside0.mk (below_step (by repeat (first | (with_reducible first | exact HB.out | apply below_alloc | apply pw_below_drewN | apply below_drew1 | refine below_set ?_ GE107.out) | exact HB.out)) hb); clear HO_11; clear BK107; clear HB; have HO_11 := n0_; have BK107 := n1_; have HB := n2_; clear n0_ n1_ n2_; (try clear hb); (try clear hb2); (try clear hk); (try clear hi))))
                          go_meet
                          case rel => exact ⟨_, (!t109), (by first | rfl | (simp; done) | (simp [*]; done)), H', ⟨by have := HK1.out; first | omega | exact Nat.le_refl _⟩, ⟨by (with_reducible repeat (first | apply Kd.R_alloc | apply Kd.R_drewN | apply Kd.R_drew)); exact Kd.R_mono HO_11.out (fun _ hk => hk.2)⟩, ⟨by (with_reducible repeat (first | refine blk_drewN ?_ _ | refine blk_drew ?_ | refine blk_alloc ?_ _)); exact BK107.out⟩, ⟨by repeat (first | (with_reducible first | exact HB.out | apply below_alloc | apply pw_below_drewN | apply below_drew1 | refine below_set ?_ GE107.out) | exact HB.out)⟩⟩
                        · replace c23 := Bool.eq_false_iff.mpr c23
                          subst c23
                          have H1 : (gouachelaw02_TokenBack.j1 k1 t102 (t102.length : Int) x13_1 true ((rd_T26 t102 x13_1).f0) ((rd_T26 t102 x13_1).f1) ((rd_T26 t102 x13_1).f2) ((rd_T26 t102 x13_1).f3) ((rd_T26 t102 x13_1).f4)) = some r := by rw [if_neg (show ¬ (false = true) by decide)] at H; exact H
                          clear H
                          have H := H1
                          clear H1
                          have H' := Aside0.mk H
                          clear H
                          have hcz29_0 : w12.cell? ⟨gb107, 0, none⟩ = some (.int .i64 0) := (blk_cell BK107.out 0).trans rfl
                          have hcz29_1 : w12.cell? ⟨gb107, 1, none⟩ = some (.string (⟨#[]⟩ : ByteArray)) := (blk_cell BK107.out 1).trans rfl
                          have hcz29_2 : w12.cell? ⟨gb107, 2, none⟩ = some (.string (⟨#[]⟩ : ByteArray)) := (blk_cell BK107.out 2).trans rfl
                          have hcz29_3 : w12.cell? ⟨gb107, 3, none⟩ = some (.bool false) := (blk_cell BK107.out 3).trans rfl
                          have hcz29_4 : w12.cell? ⟨gb107, 4, none⟩ = some (.bool false) := (blk_cell BK107.out 4).trans rfl
                          have hfz29_0 := blk_frozen BK107.out 0
                          have hfz29_1 := blk_frozen BK107.out 1
                          have hfz29_2 := blk_frozen BK107.out 2
                          have hfz29_3 := blk_frozen BK107.out 3
                          have hfz29_4 := blk_frozen BK107.out 4
                          go_wp2_with (first | (go_at_call 12; (with_reducible refine (gouachelaw02_clean.calls ((rd_T26 t102 x13_1).f1) false _ A22.out).mono ?_); rintro e w30 ⟨rfl, hb⟩; have n0_ := Aside0.mk (Kd.R_below (by (with_reducible repeat (first | apply Kd.R_alloc | apply Kd.R_drewN | apply Kd.R_drew)); exact (Kd.R_mono (Kd.R_far (p := ⟨gb107, 4, none⟩) (Kd.R_far (p := ⟨gb107, 3, none⟩) (Kd.R_far (p := ⟨gb107, 2, none⟩) (Kd.R_far (p := ⟨gb107, 1, none⟩) (Kd.R_far (p := ⟨gb107, 0, none⟩) (Kd.R_mono HO_11.out (fun k_ hk => (⟨hk, hk.2⟩ : _ ∧ k_ ≠ gb107))) (fun _ hk => hk.2) (.int .i64 ((rd_T26 t102 x13_1).f0))) (fun _ hk => hk.2) (.string ((rd_T26 t102 x13_1).f1))) (fun _ hk => hk.2) (.string ((rd_T26 t102 x13_1).f2))) (fun _ hk => hk.2) (.bool ((rd_T26 t102 x13_1).f3))) (fun _ hk => hk.2) (.bool ((rd_T26 t102 x13_1).f4))) (fun _ h_ => h_.1))) hb); have n1_ := Aside0.mk (blk_below (g := gb107) (o := .cells #[.int .i64 ((rd_T26 t102 x13_1).f0), .string ((rd_T26 t102 x13_1).f1), .string ((rd_T26 t102 x13_1).f2), .bool ((rd_T26 t102 x13_1).f3), .bool ((rd_T26 t102 x13_1).f4)] 26 (0, 0)) (by (with_reducible repeat (first | refine blk_drewN ?_ _ | refine blk_drew ?_ | refine blk_alloc ?_ _)); refine blk_put (cs := #[.int .i64 ((rd_T26 t102 x13_1).f0), .string ((rd_T26 t102 x13_1).f1), .string ((rd_T26 t102 x13_1).f2), .bool ((rd_T26 t102 x13_1).f3), .bool false]) ?_ 4 _ rfl; (with_reducible repeat (first | refine blk_drewN ?_ _ | refine blk_drew ?_ | refine blk_alloc ?_ _)); refine blk_put (cs := #[.int .i64 ((rd_T26 t102 x13_1).f0), .string ((rd_T26 t102 x13_1).f1), .string ((rd_T26 t102 x13_1).f2), .bool false, .bool false]) ?_ 3 _ rfl; (with_reducible repeat (first | refine blk_drewN ?_ _ | refine blk_drew ?_ | refine blk_alloc ?_ _)); refine blk_put (cs := #[.int .i64 ((rd_T26 t102 x13_1).f0), .string ((rd_T26 t102 x13_1).f1), .string (⟨#[]⟩ : ByteArray), .bool false, .bool false]) ?_ 2 _ rfl; (with_reducible repeat (first | refine blk_drewN ?_ _ | refine blk_drew ?_ | refine blk_alloc ?_ _)); refine blk_put (cs := #[.int .i64 ((rd_T26 t102 x13_1).f0), .string (⟨#[]⟩ : ByteArray), .string (⟨#[]⟩ : ByteArray), .bool false, .bool false]) ?_ 1 _ rfl; (with_reducible repeat (first | refine blk_drewN ?_ _ | refine blk_drew ?_ | refine blk_alloc ?_ _)); refine blk_put (cs := #[.int .i64 0, .string (⟨#[]⟩ : ByteArray), .string (⟨#[]⟩ : ByteArray), .bool false, .bool false]) ?_ 0 _ rfl; (with_reducible repeat (first | refine blk_drewN ?_ _ | refine blk_drew ?_ | refine blk_alloc ?_ _)); exact BK107.out) hb); have n2_ := Aside0.mk (below_step (by repeat (first | (with_reducible first | exact HB.out | apply below_alloc | apply pw_below_drewN | apply below_drew1 | refine below_set ?_ GE107.out) | exact HB.out)) hb); clear HO_11; clear BK107; clear HB; have HO_11 := n0_; have BK107 := n1_; have HB := n2_; clear n0_ n1_ n2_; (try clear hb); (try clear hb2); (try clear hk); (try clear hi)))
                          repeat (go_quiet (first | (go_at_call 12; (with_reducible refine (gouachelaw02_clean.calls ((rd_T26 t102 x13_1).f1) false _ A22.out).mono ?_); rintro e w30 ⟨rfl, hb⟩; have n0_ := Aside0.mk (Kd.R_below (by (with_reducible repeat (first | apply Kd.R_alloc | apply Kd.R_drewN | apply Kd.R_drew)); exact (Kd.R_mono (Kd.R_far (p := ⟨gb107, 4, none⟩) (Kd.R_far (p := ⟨gb107, 3, none⟩) (Kd.R_far (p := ⟨gb107, 2, none⟩) (Kd.R_far (p := ⟨gb107, 1, none⟩) (Kd.R_far (p := ⟨gb107, 0, none⟩) (Kd.R_mono HO_11.out (fun k_ hk => (⟨hk, hk.2⟩ : _ ∧ k_ ≠ gb107))) (fun _ hk => hk.2) (.int .i64 ((rd_T26 t102 x13_1).f0))) (fun _ hk => hk.2) (.string ((rd_T26 t102 x13_1).f1))) (fun _ hk => hk.2) (.string ((rd_T26 t102 x13_1).f2))) (fun _ hk => hk.2) (.bool ((rd_T26 t102 x13_1).f3))) (fun _ hk => hk.2) (.bool ((rd_T26 t102 x13_1).f4))) (fun _ h_ => h_.1))) hb); have n1_ := Aside0.mk (blk_below (g := gb107) (o := .cells #[.int .i64 ((rd_T26 t102 x13_1).f0), .string ((rd_T26 t102 x13_1).f1), .string ((rd_T26 t102 x13_1).f2), .bool ((rd_T26 t102 x13_1).f3), .bool ((rd_T26 t102 x13_1).f4)] 26 (0, 0)) (by (with_reducible repeat (first | refine blk_drewN ?_ _ | refine blk_drew ?_ | refine blk_alloc ?_ _)); refine blk_put (cs := #[.int .i64 ((rd_T26 t102 x13_1).f0), .string ((rd_T26 t102 x13_1).f1), .string ((rd_T26 t102 x13_1).f2), .bool ((rd_T26 t102 x13_1).f3), .bool false]) ?_ 4 _ rfl; (with_reducible repeat (first | refine blk_drewN ?_ _ | refine blk_drew ?_ | refine blk_alloc ?_ _)); refine blk_put (cs := #[.int .i64 ((rd_T26 t102 x13_1).f0), .string ((rd_T26 t102 x13_1).f1), .string ((rd_T26 t102 x13_1).f2), .bool false, .bool false]) ?_ 3 _ rfl; (with_reducible repeat (first | refine blk_drewN ?_ _ | refine blk_drew ?_ | refine blk_alloc ?_ _)); refine blk_put (cs := #[.int .i64 ((rd_T26 t102 x13_1).f0), .string ((rd_T26 t102 x13_1).f1), .string (⟨#[]⟩ : ByteArray), .bool false, .bool false]) ?_ 2 _ rfl; (with_reducible repeat (first | refine blk_drewN ?_ _ | refine blk_drew ?_ | refine blk_alloc ?_ _)); refine blk_put (cs := #[.int .i64 ((rd_T26 t102 x13_1).f0), .string (⟨#[]⟩ : ByteArray), .string (⟨#[]⟩ : ByteArray), .bool false, .bool false]) ?_ 1 _ rfl; (with_reducible repeat (first | refine blk_drewN ?_ _ | refine blk_drew ?_ | refine blk_alloc ?_ _)); refine blk_put (cs := #[.int .i64 0, .string (⟨#[]⟩ : ByteArray), .string (⟨#[]⟩ : ByteArray), .bool false, .bool false]) ?_ 0 _ rfl; (with_reducible repeat (first | refine blk_drewN ?_ _ | refine blk_drew ?_ | refine blk_alloc ?_ _)); exact BK107.out) hb); have n2_ := Aside0.mk (below_step (by repeat (first | (with_reducible first | exact HB.out | apply below_alloc | apply pw_below_drewN | apply below_drew1 | refine below_set ?_ GE107.out) | exact HB.out)) hb); clear HO_11; clear BK107; clear HB; have HO_11 := n0_; have BK107 := n1_; have HB := n2_; clear n0_ n1_ n2_; (try clear hb); (try clear hb2); (try clear hk); (try clear hi))); try go_wp2_with (first | (go_at_call 12; (with_reducible refine (gouachelaw02_clean.calls ((rd_T26 t102 x13_1).f1) false _ A22.out).mono ?_); rintro e w30 ⟨rfl, hb⟩; have n0_ := Aside0.mk (Kd.R_below (by (with_reducible repeat (first | apply Kd.R_alloc | apply Kd.R_drewN | apply Kd.R_drew)); exact (Kd.R_mono (Kd.R_far (p := ⟨gb107, 4, none⟩) (Kd.R_far (p := ⟨gb107, 3, none⟩) (Kd.R_far (p := ⟨gb107, 2, none⟩) (Kd.R_far (p := ⟨gb107, 1, none⟩) (Kd.R_far (p := ⟨gb107, 0, none⟩) (Kd.R_mono HO_11.out (fun k_ hk => (⟨hk, hk.2⟩ : _ ∧ k_ ≠ gb107))) (fun _ hk => hk.2) (.int .i64 ((rd_T26 t102 x13_1).f0))) (fun _ hk => hk.2) (.string ((rd_T26 t102 x13_1).f1))) (fun _ hk => hk.2) (.string ((rd_T26 t102 x13_1).f2))) (fun _ hk => hk.2) (.bool ((rd_T26 t102 x13_1).f3))) (fun _ hk => hk.2) (.bool ((rd_T26 t102 x13_1).f4))) (fun _ h_ => h_.1))) hb); have n1_ := Aside0.mk (blk_below (g := gb107) (o := .cells #[.int .i64 ((rd_T26 t102 x13_1).f0), .string ((rd_T26 t102 x13_1).f1), .string ((rd_T26 t102 x13_1).f2), .bool ((rd_T26 t102 x13_1).f3), .bool ((rd_T26 t102 x13_1).f4)] 26 (0, 0)) (by (with_reducible repeat (first | refine blk_drewN ?_ _ | refine blk_drew ?_ | refine blk_alloc ?_ _)); refine blk_put (cs := #[.int .i64 ((rd_T26 t102 x13_1).f0), .string ((rd_T26 t102 x13_1).f1), .string ((rd_T26 t102 x13_1).f2), .bool ((rd_T26 t102 x13_1).f3), .bool false]) ?_ 4 _ rfl; (with_reducible repeat (first | refine blk_drewN ?_ _ | refine blk_drew ?_ | refine blk_alloc ?_ _)); refine blk_put (cs := #[.int .i64 ((rd_T26 t102 x13_1).f0), .string ((rd_T26 t102 x13_1).f1), .string ((rd_T26 t102 x13_1).f2), .bool false, .bool false]) ?_ 3 _ rfl; (with_reducible repeat (first | refine blk_drewN ?_ _ | refine blk_drew ?_ | refine blk_alloc ?_ _)); refine blk_put (cs := #[.int .i64 ((rd_T26 t102 x13_1).f0), .string ((rd_T26 t102 x13_1).f1), .string (⟨#[]⟩ : ByteArray), .bool false, .bool false]) ?_ 2 _ rfl; (with_reducible repeat (first | refine blk_drewN ?_ _ | refine blk_drew ?_ | refine blk_alloc ?_ _)); refine blk_put (cs := #[.int .i64 ((rd_T26 t102 x13_1).f0), .string (⟨#[]⟩ : ByteArray), .string (⟨#[]⟩ : ByteArray), .bool false, .bool false]) ?_ 1 _ rfl; (with_reducible repeat (first | refine blk_drewN ?_ _ | refine blk_drew ?_ | refine blk_alloc ?_ _)); refine blk_put (cs := #[.int .i64 0, .string (⟨#[]⟩ : ByteArray), .string (⟨#[]⟩ : ByteArray), .bool false, .bool false]) ?_ 0 _ rfl; (with_reducible repeat (first | refine blk_drewN ?_ _ | refine blk_drew ?_ | refine blk_alloc ?_ _)); exact BK107.out) hb); have n2_ := Aside0.mk (below_step (by repeat (first | (with_reducible first | exact HB.out | apply below_alloc | apply pw_below_drewN | apply below_drew1 | refine below_set ?_ GE107.out) | exact HB.out)) hb); clear HO_11; clear BK107; clear HB; have HO_11 := n0_; have BK107 := n1_; have HB := n2_; clear n0_ n1_ n2_; (try clear hb); (try clear hb2); (try clear hk); (try clear hi))))
                          go_meet
                          case rel => exact ⟨_, (true), (by first | rfl | (simp; done) | (simp [*]; done)), H', ⟨by have := HK1.out; first | omega | exact Nat.le_refl _⟩, ⟨by (with_reducible repeat (first | apply Kd.R_alloc | apply Kd.R_drewN | apply Kd.R_drew)); exact Kd.R_mono HO_11.out (fun _ hk => hk.2)⟩, ⟨by (with_reducible repeat (first | refine blk_drewN ?_ _ | refine blk_drew ?_ | refine blk_alloc ?_ _)); exact BK107.out⟩, ⟨by repeat (first | (with_reducible first | exact HB.out | apply below_alloc | apply pw_below_drewN | apply below_drew1 | refine below_set ?_ GE107.out) | exact HB.out)⟩⟩
              case rest =>
                clear HC11
                try clear c1
                try clear p1
                try clear q1
                try clear hx1
                try clear c2
                try clear c2b0
                try clear c2b1
                try clear p2
                try clear c6
                try clear c8
                try clear c8b0
                try clear c9
                try clear c9b0
                try clear c10
                try clear c10b0
                try clear p10
                try clear q10
                try clear hx10
                try clear c14
                try clear c14b0
                try clear c14b1
                try clear c16
                try clear c16b0
                try clear c16b1
                try clear c18
                try clear c18b0
                try clear c18b1
                try clear c20
                try clear c20b0
                try clear c20b1
                try clear c23
                try clear hcz13_0
                try clear hcz13_1
                try clear hcz13_2
                try clear hcz13_3
                try clear hcz13_4
                try clear hcz15_0
                try clear hcz15_1
                try clear hcz15_2
                try clear hcz15_3
                try clear hcz15_4
                try clear hcz17_0
                try clear hcz17_1
                try clear hcz17_2
                try clear hcz17_3
                try clear hcz17_4
                try clear hcz19_0
                try clear hcz19_1
                try clear hcz19_2
                try clear hcz19_3
                try clear hcz19_4
                try clear hcz21_0
                try clear hcz21_1
                try clear hcz21_2
                try clear hcz21_3
                try clear hcz21_4
                try clear hcz25_0
                try clear hcz25_1
                try clear hcz25_2
                try clear hcz25_3
                try clear hcz25_4
                try clear hcz27_0
                try clear hcz27_1
                try clear hcz27_2
                try clear hcz27_3
                try clear hcz27_4
                try clear hcz29_0
                try clear hcz29_1
                try clear hcz29_2
                try clear hcz29_3
                try clear hcz29_4
                try clear hfz13_0
                try clear hfz13_1
                try clear hfz13_2
                try clear hfz13_3
                try clear hfz13_4
                try clear hfz15_0
                try clear hfz15_1
                try clear hfz15_2
                try clear hfz15_3
                try clear hfz15_4
                try clear hfz17_0
                try clear hfz17_1
                try clear hfz17_2
                try clear hfz17_3
                try clear hfz17_4
                try clear hfz19_0
                try clear hfz19_1
                try clear hfz19_2
                try clear hfz19_3
                try clear hfz19_4
                try clear hfz21_0
                try clear hfz21_1
                try clear hfz21_2
                try clear hfz21_3
                try clear hfz21_4
                try clear hfz25_0
                try clear hfz25_1
                try clear hfz25_2
                try clear hfz25_3
                try clear hfz25_4
                try clear hfz27_0
                try clear hfz27_1
                try clear hfz27_2
                try clear hfz27_3
                try clear hfz27_4
                try clear hfz29_0
                try clear hfz29_1
                try clear hfz29_2
                try clear hfz29_3
                try clear hfz29_4
                try clear hx106_0
                try clear hx106_1
                try clear hx106_2
                try clear hx106_3
                try clear hx106_4
                try clear p106
                try clear p2
                try clear q106
                obtain ⟨kq, x46_10, rfl, HA, HJ10, HO_11, BK107, HB⟩ := hcut
                cases kq with
                | zero => exact absurd HA.out (by simp [gouachelaw02_TokenBack.j1])
                | succ kj10 =>
                  have H := HA.out
                  clear HA
                  simp only [gouachelaw02_TokenBack.j1] at H
                  by_cases c31 : x46_10 = true
                  · subst c31
                    have H1 : (gouachelaw02_TokenBack.l0 kj10 t102 (t102.length : Int) (wrap64 (x13_1 + 1))) = some r := by rw [if_pos rfl] at H; exact H
                    clear H
                    have H := H1
                    clear H1
                    have H' := Aside0.mk H
                    clear H
                    go_wp2
                    repeat (go_quiet (fail); try go_wp2)
                    go_roundg kj10
                    case measure => have := HK1.out; have := HJ10.out; omega
                    case rel => exact ⟨(wrap64 (x13_1 + 1)), (by first | rfl | (simp; done) | (simp [*]; done)), H', ⟨by have := HK1.out; have := HJ10.out; omega⟩, ⟨by (with_reducible repeat (first | apply Kd.R_alloc | apply Kd.R_drewN | apply Kd.R_drew)); exact Kd.R_mono HO_11.out (fun _ hk => trivial)⟩, ⟨by repeat (first | (with_reducible first | exact HB.out | apply below_alloc | apply pw_below_drewN | apply below_drew1 | refine below_set ?_ GE107.out) | exact HB.out)⟩⟩
                  · replace c31 := Bool.eq_false_iff.mpr c31
                    subst c31
                    have H1 : (if ((rd_T26 t102 x13_1).f0) = 2 then ((text_Fold.f ((rd_T26 t102 x13_1).f1)).bind fun t110 => (gouachelaw02_TokenBack.j2 kj10 t102 (t102.length : Int) x13_1 (t110.toList == ([117, 114, 108] : List UInt8)) ((rd_T26 t102 x13_1).f0) ((rd_T26 t102 x13_1).f1) ((rd_T26 t102 x13_1).f2) ((rd_T26 t102 x13_1).f3) ((rd_T26 t102 x13_1).f4))) else (gouachelaw02_TokenBack.j2 kj10 t102 (t102.length : Int) x13_1 false ((rd_T26 t102 x13_1).f0) ((rd_T26 t102 x13_1).f1) ((rd_T26 t102 x13_1).f2) ((rd_T26 t102 x13_1).f3) ((rd_T26 t102 x13_1).f4))) = some r := by rw [if_neg (show ¬ (false = true) by decide)] at H; exact H
                    clear H
                    have H := H1
                    clear H1
                    have HC32 := Aside0.mk H
                    clear H
                    go_upto_region 7 with (fail)
                    repeat (go_quiet (fail); go_upto_region 7 with (fail))
                    go_cut [55] (fun v55 wc => ∃ (kq : Nat) (x55_31 : Bool), v55 = .bool x55_31 ∧ Aside0 (gouachelaw02_TokenBack.j2 kq t102 (t102.length : Int) x13_1 x55_31 ((rd_T26 t102 x13_1).f0) ((rd_T26 t102 x13_1).f1) ((rd_T26 t102 x13_1).f2) ((rd_T26 t102 x13_1).f3) ((rd_T26 t102 x13_1).f4) = some r) ∧ Aside0 (kq ≤ kj10) ∧ Aside0 (Kd.R k26 26 wc w.heap.size (fun k_ => k_ ≠ gb107) (.slice (some ad106) t102.length co7) t102) ∧ Aside0 (wc.heap[gb107]? = some (.cells #[.int .i64 ((rd_T26 t102 x13_1).f0), .string ((rd_T26 t102 x13_1).f1), .string ((rd_T26 t102 x13_1).f2), .bool ((rd_T26 t102 x13_1).f3), .bool ((rd_T26 t102 x13_1).f4)] 26 (0, 0))) ∧ Aside0 (Below w.heap.size w wc))
                    case first =>
                      have H := HC32.out
                      clear HC32
                      by_cases c33 : ((rd_T26 t102 x13_1).f0) = 2
                      · rw [if_pos c33] at H
                        have c33b0 : (((rd_T26 t102 x13_1).f0) == 2) = true := beq_iff_eq.mpr c33
                        have c33b1 : (((rd_T26 t102 x13_1).f0) != 2) = false := bne_eq_false_iff_eq.mpr c33
                        clear c33
                        (first | rw [c33b0] | (simp only [i64_w, i32_w]; rw [c33b0]) | skip)
                        replace H := Option.bind_eq_some_iff.mp H
                        obtain ⟨t110, A340, H⟩ := H
                        replace H : (gouachelaw02_TokenBack.j2 kj10 t102 (t102.length : Int) x13_1 (t110.toList == ([117, 114, 108] : List UInt8)) ((rd_T26 t102 x13_1).f0) ((rd_T26 t102 x13_1).f1) ((rd_T26 t102 x13_1).f2) ((rd_T26 t102 x13_1).f3) ((rd_T26 t102 x13_1).f4)) = some r := H
                        have A34 := Aside0.mk A340
                        clear A340
                        have H' := Aside0.mk H
                        clear H
                        have hcz35_0 : wc.cell? ⟨gb107, 0, none⟩ = some (.int .i64 ((rd_T26 t102 x13_1).f0)) := (blk_cell BK107.out 0).trans rfl
                        have hcz35_1 : wc.cell? ⟨gb107, 1, none⟩ = some (.string ((rd_T26 t102 x13_1).f1)) := (blk_cell BK107.out 1).trans rfl
                        have hcz35_2 : wc.cell? ⟨gb107, 2, none⟩ = some (.string ((rd_T26 t102 x13_1).f2)) := (blk_cell BK107.out 2).trans rfl
                        have hcz35_3 : wc.cell? ⟨gb107, 3, none⟩ = some (.bool ((rd_T26 t102 x13_1).f3)) := (blk_cell BK107.out 3).trans rfl
                        have hcz35_4 : wc.cell? ⟨gb107, 4, none⟩ = some (.bool ((rd_T26 t102 x13_1).f4)) := (blk_cell BK107.out 4).trans rfl
                        have hfz35_0 := blk_frozen BK107.out 0
                        have hfz35_1 := blk_frozen BK107.out 1
                        have hfz35_2 := blk_frozen BK107.out 2
                        have hfz35_3 := blk_frozen BK107.out 3
                        have hfz35_4 := blk_frozen BK107.out 4
                        go_wp2_with (first | (go_at_call 15; (with_reducible refine (text_Fold.calls ((rd_T26 t102 x13_1).f1) t110 _ A34.out).mono ?_); rintro e w36 ⟨rfl, hb⟩; have n0_ := Aside0.mk (Kd.R_below (by (with_reducible repeat (first | apply Kd.R_alloc | apply Kd.R_drewN | apply Kd.R_drew)); exact HO_11.out) hb); have n1_ := Aside0.mk (blk_below (g := gb107) (o := .cells #[.int .i64 ((rd_T26 t102 x13_1).f0), .string ((rd_T26 t102 x13_1).f1), .string ((rd_T26 t102 x13_1).f2), .bool ((rd_T26 t102 x13_1).f3), .bool ((rd_T26 t102 x13_1).f4)] 26 (0, 0)) (by (with_reducible repeat (first | refine blk_drewN ?_ _ | refine blk_drew ?_ | refine blk_alloc ?_ _)); exact BK107.out) hb); have n2_ := Aside0.mk (below_step (by repeat (first | (with_reducible first | exact HB.out | apply below_alloc | apply pw_below_drewN | apply below_drew1 | refine below_set ?_ GE107.out) | exact HB.out)) hb); clear HO_11; clear BK107; clear HB; have HO_11 := n0_; have BK107 := n1_; have HB := n2_; clear n0_ n1_ n2_; (try clear hb); (try clear hb2); (try clear hk); (try clear hi)))
                        repeat (go_quiet (first | (go_at_call 15; (with_reducible refine (text_Fold.calls ((rd_T26 t102 x13_1).f1) t110 _ A34.out).mono ?_); rintro e w36 ⟨rfl, hb⟩; have n0_ := Aside0.mk (Kd.R_below (by (with_reducible repeat (first | apply Kd.R_alloc | apply Kd.R_drewN | apply Kd.R_drew)); exact HO_11.out) hb); have n1_ := Aside0.mk (blk_below (g := gb107) (o := .cells #[.int .i64 ((rd_T26 t102 x13_1).f0), .string ((rd_T26 t102 x13_1).f1), .string ((rd_T26 t102 x13_1).f2), .bool ((rd_T26 t102 x13_1).f3), .bool ((rd_T26 t102 x13_1).f4)] 26 (0, 0)) (by (with_reducible repeat (first | refine blk_drewN ?_ _ | refine blk_drew ?_ | refine blk_alloc ?_ _)); exact BK107.out) hb); have n2_ := Aside0.mk (below_step (by repeat (first | (with_reducible first | exact HB.out | apply below_alloc | apply pw_below_drewN | apply below_drew1 | refine below_set ?_ GE107.out) | exact HB.out)) hb); clear HO_11; clear BK107; clear HB; have HO_11 := n0_; have BK107 := n1_; have HB := n2_; clear n0_ n1_ n2_; (try clear hb); (try clear hb2); (try clear hk); (try clear hi))); try go_wp2_with (first | (go_at_call 15; (with_reducible refine (text_Fold.calls ((rd_T26 t102 x13_1).f1) t110 _ A34.out).mono ?_); rintro e w36 ⟨rfl, hb⟩; have n0_ := Aside0.mk (Kd.R_below (by (with_reducible repeat (first | apply Kd.R_alloc | apply Kd.R_drewN | apply Kd.R_drew)); exact HO_11.out) hb); have n1_ := Aside0.mk (blk_below (g := gb107) (o := .cells #[.int .i64 ((rd_T26 t102 x13_1).f0), .string ((rd_T26 t102 x13_1).f1), .string ((rd_T26 t102 x13_1).f2), .bool ((rd_T26 t102 x13_1).f3), .bool ((rd_T26 t102 x13_1).f4)] 26 (0, 0)) (by (with_reducible repeat (first | refine blk_drewN ?_ _ | refine blk_drew ?_ | refine blk_alloc ?_ _)); exact BK107.out) hb); have n2_ := Aside0.mk (below_step (by repeat (first | (with_reducible first | exact HB.out | apply below_alloc | apply pw_below_drewN | apply below_drew1 | refine below_set ?_ GE107.out) | exact HB.out)) hb); clear HO_11; clear BK107; clear HB; have HO_11 := n0_; have BK107 := n1_; have HB := n2_; clear n0_ n1_ n2_; (try clear hb); (try clear hb2); (try clear hk); (try clear hi))))
                        go_meet
                        case rel => exact ⟨_, ((t110.toList == ([117, 114, 108] : List UInt8))), (by first | rfl | (simp; done) | (simp [*]; done)), H', ⟨by have := HK1.out; have := HJ10.out; first | omega | exact Nat.le_refl _⟩, ⟨by (with_reducible repeat (first | apply Kd.R_alloc | apply Kd.R_drewN | apply Kd.R_drew)); exact HO_11.out⟩, ⟨by (with_reducible repeat (first | refine blk_drewN ?_ _ | refine blk_drew ?_ | refine blk_alloc ?_ _)); exact BK107.out⟩, ⟨by repeat (first | (with_reducible first | exact HB.out | apply below_alloc | apply pw_below_drewN | apply below_drew1 | refine below_set ?_ GE107.out) | exact HB.out)⟩⟩
                      · rw [if_neg c33] at H
                        have c33b0 : (((rd_T26 t102 x13_1).f0) == 2) = false := beq_eq_false_iff_ne.mpr c33
                        have c33b1 : (((rd_T26 t102 x13_1).f0) != 2) = true := bne_iff_ne.mpr c33
                        (first | rw [c33b0] | (simp only [i64_w, i32_w]; rw [c33b0]) | skip)
                        have H' := Aside0.mk H
                        clear H
                        have hcz37_0 : wc.cell? ⟨gb107, 0, none⟩ = some (.int .i64 ((rd_T26 t102 x13_1).f0)) := (blk_cell BK107.out 0).trans rfl
                        have hcz37_1 : wc.cell? ⟨gb107, 1, none⟩ = some (.string ((rd_T26 t102 x13_1).f1)) := (blk_cell BK107.out 1).trans rfl
                        have hcz37_2 : wc.cell? ⟨gb107, 2, none⟩ = some (.string ((rd_T26 t102 x13_1).f2)) := (blk_cell BK107.out 2).trans rfl
                        have hcz37_3 : wc.cell? ⟨gb107, 3, none⟩ = some (.bool ((rd_T26 t102 x13_1).f3)) := (blk_cell BK107.out 3).trans rfl
                        have hcz37_4 : wc.cell? ⟨gb107, 4, none⟩ = some (.bool ((rd_T26 t102 x13_1).f4)) := (blk_cell BK107.out 4).trans rfl
                        have hfz37_0 := blk_frozen BK107.out 0
                        have hfz37_1 := blk_frozen BK107.out 1
                        have hfz37_2 := blk_frozen BK107.out 2
                        have hfz37_3 := blk_frozen BK107.out 3
                        have hfz37_4 := blk_frozen BK107.out 4
                        go_wp2
                        repeat (go_quiet (fail); try go_wp2)
                        go_meet
                        case rel => exact ⟨_, (false), (by first | rfl | (simp; done) | (simp [*]; done)), H', ⟨by have := HK1.out; have := HJ10.out; first | omega | exact Nat.le_refl _⟩, ⟨by (with_reducible repeat (first | apply Kd.R_alloc | apply Kd.R_drewN | apply Kd.R_drew)); exact HO_11.out⟩, ⟨by (with_reducible repeat (first | refine blk_drewN ?_ _ | refine blk_drew ?_ | refine blk_alloc ?_ _)); exact BK107.out⟩, ⟨by repeat (first | (with_reducible first | exact HB.out | apply below_alloc | apply pw_below_drewN | apply below_drew1 | refine below_set ?_ GE107.out) | exact HB.out)⟩⟩
                    case rest =>
                      clear HC32
                      try clear c1
                      try clear p1
                      try clear q1
                      try clear hx1
                      try clear c2
                      try clear c2b0
                      try clear c2b1
                      try clear p2
                      try clear c3
                      try clear c6
                      try clear p6
                      try clear c8
                      try clear c8b0
                      try clear c9
                      try clear c9b0
                      try clear c10
                      try clear c10b0
                      try clear p10
                      try clear q10
                      try clear hx10
                      try clear c14
                      try clear c14b0
                      try clear c14b1
                      try clear c16
                      try clear c16b0
                      try clear c16b1
                      try clear c18
                      try clear c18b0
                      try clear c18b1
                      try clear c20
                      try clear c20b0
                      try clear c20b1
                      try clear c23
                      try clear c31
                      try clear c33
                      try clear c33b0
                      try clear c33b1
                      try clear hcz13_0
                      try clear hcz13_1
                      try clear hcz13_2
                      try clear hcz13_3
                      try clear hcz13_4
                      try clear hcz15_0
                      try clear hcz15_1
                      try clear hcz15_2
                      try clear hcz15_3
                      try clear hcz15_4
                      try clear hcz17_0
                      try clear hcz17_1
                      try clear hcz17_2
                      try clear hcz17_3
                      try clear hcz17_4
                      try clear hcz19_0
                      try clear hcz19_1
                      try clear hcz19_2
                      try clear hcz19_3
                      try clear hcz19_4
                      try clear hcz21_0
                      try clear hcz21_1
                      try clear hcz21_2
                      try clear hcz21_3
                      try clear hcz21_4
                      try clear hcz25_0
                      try clear hcz25_1
                      try clear hcz25_2
                      try clear hcz25_3
                      try clear hcz25_4
                      try clear hcz27_0
                      try clear hcz27_1
                      try clear hcz27_2
                      try clear hcz27_3
                      try clear hcz27_4
                      try clear hcz29_0
                      try clear hcz29_1
                      try clear hcz29_2
                      try clear hcz29_3
                      try clear hcz29_4
                      try clear hcz35_0
                      try clear hcz35_1
                      try clear hcz35_2
                      try clear hcz35_3
                      try clear hcz35_4
                      try clear hcz37_0
                      try clear hcz37_1
                      try clear hcz37_2
                      try clear hcz37_3
                      try clear hcz37_4
                      try clear hfz13_0
                      try clear hfz13_1
                      try clear hfz13_2
                      try clear hfz13_3
                      try clear hfz13_4
                      try clear hfz15_0
                      try clear hfz15_1
                      try clear hfz15_2
                      try clear hfz15_3
                      try clear hfz15_4
                      try clear hfz17_0
                      try clear hfz17_1
                      try clear hfz17_2
                      try clear hfz17_3
                      try clear hfz17_4
                      try clear hfz19_0
                      try clear hfz19_1
                      try clear hfz19_2
                      try clear hfz19_3
                      try clear hfz19_4
                      try clear hfz21_0
                      try clear hfz21_1
                      try clear hfz21_2
                      try clear hfz21_3
                      try clear hfz21_4
                      try clear hfz25_0
                      try clear hfz25_1
                      try clear hfz25_2
                      try clear hfz25_3
                      try clear hfz25_4
                      try clear hfz27_0
                      try clear hfz27_1
                      try clear hfz27_2
                      try clear hfz27_3
                      try clear hfz27_4
                      try clear hfz29_0
                      try clear hfz29_1
                      try clear hfz29_2
                      try clear hfz29_3
                      try clear hfz29_4
                      try clear hfz35_0
                      try clear hfz35_1
                      try clear hfz35_2
                      try clear hfz35_3
                      try clear hfz35_4
                      try clear hfz37_0
                      try clear hfz37_1
                      try clear hfz37_2
                      try clear hfz37_3
                      try clear hfz37_4
                      try clear hx106_0
                      try clear hx106_1
                      try clear hx106_2
                      try clear hx106_3
                      try clear hx106_4
                      try clear p1
                      try clear p10
                      try clear p106
                      try clear p2
                      try clear q1
                      try clear q10
                      try clear q106
                      obtain ⟨kq, x55_31, rfl, HA, HJ31, HO_11, BK107, HB⟩ := hcut
                      cases kq with
                      | zero => exact absurd HA.out (by simp [gouachelaw02_TokenBack.j2])
                      | succ kj31 =>
                        have H := HA.out
                        clear HA
                        simp only [gouachelaw02_TokenBack.j2] at H
                        by_cases c38 : x55_31 = true
                        · subst c38
                          have H1 : (gouachelaw02_TokenBack.l0 kj31 t102 (t102.length : Int) (wrap64 (x13_1 + 1))) = some r := by rw [if_pos rfl] at H; exact H
                          clear H
                          have H := H1
                          clear H1
                          have H' := Aside0.mk H
                          clear H
                          go_wp2
                          repeat (go_quiet (fail); try go_wp2)
                          go_roundg kj31
                          case measure => have := HK1.out; have := HJ10.out; have := HJ31.out; omega
                          case rel => exact ⟨(wrap64 (x13_1 + 1)), (by first | rfl | (simp; done) | (simp [*]; done)), H', ⟨by have := HK1.out; have := HJ10.out; have := HJ31.out; omega⟩, ⟨by (with_reducible repeat (first | apply Kd.R_alloc | apply Kd.R_drewN | apply Kd.R_drew)); exact Kd.R_mono HO_11.out (fun _ hk => trivial)⟩, ⟨by repeat (first | (with_reducible first | exact HB.out | apply below_alloc | apply pw_below_drewN | apply below_drew1 | refine below_set ?_ GE107.out) | exact HB.out)⟩⟩
                        · replace c38 := Bool.eq_false_iff.mpr c38
                          subst c38
                          have H1 : ((token_Source.f kj31 ((rd_T26 t102 x13_1).f0) ((rd_T26 t102 x13_1).f1) ((rd_T26 t102 x13_1).f2) ((rd_T26 t102 x13_1).f3) ((rd_T26 t102 x13_1).f4)).bind fun t111 => ((gouachelaw02_cut.f t111).bind fun t112 => (if (t112.length : Int) = 1 then (if 0 < (t112.length : Int) then (if (!(((rd_T26 t112 0).f0) == ((rd_T26 t102 x13_1).f0)) || (!((((rd_T26 t112 0).f1).toList) == ((rd_T26 t102 x13_1).f1).toList) || (!((((rd_T26 t112 0).f2).toList) == ((rd_T26 t102 x13_1).f2).toList) || (!(((rd_T26 t112 0).f3) == ((rd_T26 t102 x13_1).f3)) || (!(((rd_T26 t112 0).f4) == ((rd_T26 t102 x13_1).f4))))))) = true then (some false) else (gouachelaw02_TokenBack.l0 kj31 t102 (t102.length : Int) (wrap64 (x13_1 + 1)))) else (none)) else (some false)))) = some r := by rw [if_neg (show ¬ (false = true) by decide)] at H; exact H
                          clear H
                          have H := H1
                          clear H1
                          replace H := Option.bind_eq_some_iff.mp H
                          obtain ⟨t111, A390, H⟩ := H
                          replace H : ((gouachelaw02_cut.f t111).bind fun t112 => (if (t112.length : Int) = 1 then (if 0 < (t112.length : Int) then (if (!(((rd_T26 t112 0).f0) == ((rd_T26 t102 x13_1).f0)) || (!((((rd_T26 t112 0).f1).toList) == ((rd_T26 t102 x13_1).f1).toList) || (!((((rd_T26 t112 0).f2).toList) == ((rd_T26 t102 x13_1).f2).toList) || (!(((rd_T26 t112 0).f3) == ((rd_T26 t102 x13_1).f3)) || (!(((rd_T26 t112 0).f4) == ((rd_T26 t102 x13_1).f4))))))) = true then (some false) else (gouachelaw02_TokenBack.l0 kj31 t102 (t102.length : Int) (wrap64 (x13_1 + 1)))) else (none)) else (some false))) = some r := H
                          have A39 := Aside0.mk A390
                          clear A390
                          replace H := Option.bind_eq_some_iff.mp H
                          obtain ⟨t112, A400, H⟩ := H
                          replace H : (if (t112.length : Int) = 1 then (if 0 < (t112.length : Int) then (if (!(((rd_T26 t112 0).f0) == ((rd_T26 t102 x13_1).f0)) || (!((((rd_T26 t112 0).f1).toList) == ((rd_T26 t102 x13_1).f1).toList) || (!((((rd_T26 t112 0).f2).toList) == ((rd_T26 t102 x13_1).f2).toList) || (!(((rd_T26 t112 0).f3) == ((rd_T26 t102 x13_1).f3)) || (!(((rd_T26 t112 0).f4) == ((rd_T26 t102 x13_1).f4))))))) = true then (some false) else (gouachelaw02_TokenBack.l0 kj31 t102 (t102.length : Int) (wrap64 (x13_1 + 1)))) else (none)) else (some false)) = some r := H
                          have A40 := Aside0.mk A400
                          clear A400
                          by_cases c41 : (t112.length : Int) = 1
                          · rw [if_pos c41] at H
                            have c41b0 : ((t112.length : Int) == 1) = true := beq_iff_eq.mpr c41
                            have c41b1 : ((t112.length : Int) != 1) = false := bne_eq_false_iff_eq.mpr c41
                            clear c41
                            by_cases c42 : 0 < (t112.length : Int)
                            · rw [if_pos c42] at H
                              have c42b0 : decide (0 < (t112.length : Int)) = true := decide_eq_true c42
                              have c42b1 : decide (0 < t112.length) = true := decide_eq_true (by omega)
                              clear c42
                              by_cases c43 : (!(((rd_T26 t112 0).f0) == ((rd_T26 t102 x13_1).f0)) || (!((((rd_T26 t112 0).f1).toList) == ((rd_T26 t102 x13_1).f1).toList) || (!((((rd_T26 t112 0).f2).toList) == ((rd_T26 t102 x13_1).f2).toList) || (!(((rd_T26 t112 0).f3) == ((rd_T26 t102 x13_1).f3)) || (!(((rd_T26 t112 0).f4) == ((rd_T26 t102 x13_1).f4))))))) = true
                              · rw [if_pos c43] at H
                                have c43b0 : (!(((rd_T26 t112 0).f0) == ((rd_T26 t102 x13_1).f0)) || (!((((rd_T26 t112 0).f1).toList) == ((rd_T26 t102 x13_1).f1).toList) || (!((((rd_T26 t112 0).f2).toList) == ((rd_T26 t102 x13_1).f2).toList) || (!(((rd_T26 t112 0).f3) == ((rd_T26 t102 x13_1).f3)) || (!(((rd_T26 t112 0).f4) == ((rd_T26 t102 x13_1).f4))))))) = true := c43
                                clear c43
                                obtain rfl := Option.some.inj H
                                have hcz44_0 : wc.cell? ⟨gb107, 0, none⟩ = some (.int .i64 ((rd_T26 t102 x13_1).f0)) := (blk_cell BK107.out 0).trans rfl
                                have hcz44_1 : wc.cell? ⟨gb107, 1, none⟩ = some (.string ((rd_T26 t102 x13_1).f1)) := (blk_cell BK107.out 1).trans rfl
                                have hcz44_2 : wc.cell? ⟨gb107, 2, none⟩ = some (.string ((rd_T26 t102 x13_1).f2)) := (blk_cell BK107.out 2).trans rfl
                                have hcz44_3 : wc.cell? ⟨gb107, 3, none⟩ = some (.bool ((rd_T26 t102 x13_1).f3)) := (blk_cell BK107.out 3).trans rfl
                                have hcz44_4 : wc.cell? ⟨gb107, 4, none⟩ = some (.bool ((rd_T26 t102 x13_1).f4)) := (blk_cell BK107.out 4).trans rfl
                                have hfz44_0 := blk_frozen BK107.out 0
                                have hfz44_1 := blk_frozen BK107.out 1
                                have hfz44_2 := blk_frozen BK107.out 2
                                have hfz44_3 := blk_frozen BK107.out 3
                                have hfz44_4 := blk_frozen BK107.out 4
                                go_wp2_with (first | (go_at_call 16; (with_reducible refine (token_Source.calls kj31 ((rd_T26 t102 x13_1).f0) ((rd_T26 t102 x13_1).f1) ((rd_T26 t102 x13_1).f2) ((rd_T26 t102 x13_1).f3) ((rd_T26 t102 x13_1).f4) t111 _ A39.out (HT.out.below (by repeat (first | (with_reducible first | exact HB.out | apply below_alloc | apply pw_below_drewN | apply below_drew1) | exact HB.out)))).mono ?_); rintro e w45 ⟨rfl, hb⟩; have n0_ := Aside0.mk (Kd.R_below (by (with_reducible repeat (first | apply Kd.R_alloc | apply Kd.R_drewN | apply Kd.R_drew)); exact HO_11.out) hb); have n1_ := Aside0.mk (blk_below (g := gb107) (o := .cells #[.int .i64 ((rd_T26 t102 x13_1).f0), .string ((rd_T26 t102 x13_1).f1), .string ((rd_T26 t102 x13_1).f2), .bool ((rd_T26 t102 x13_1).f3), .bool ((rd_T26 t102 x13_1).f4)] 26 (0, 0)) (by (with_reducible repeat (first | refine blk_drewN ?_ _ | refine blk_drew ?_ | refine blk_alloc ?_ _)); exact BK107.out) hb); have n2_ := Aside0.mk (below_step (by repeat (first | (with_reducible first | exact HB.out | apply below_alloc | apply pw_below_drewN | apply below_drew1 | refine below_set ?_ GE107.out) | exact HB.out)) hb); clear HO_11; clear BK107; clear HB; have HO_11 := n0_; have BK107 := n1_; have HB := n2_; clear n0_ n1_ n2_; (try clear hb); (try clear hb2); (try clear hk); (try clear hi)) | (go_at_call 10; (with_reducible refine (gouachelaw02_cut.calls t111 t112 _ A40.out).mono ?_); rintro e w46 ⟨v113, rfl, ho0, hb⟩; have n0_ := Aside0.mk (Kd.R_elder' (by (with_reducible repeat (first | apply Kd.R_alloc | apply Kd.R_drewN | apply Kd.R_drew)); exact HO_11.out) (Kd.R_base ho0) hb); have n1_ := Aside0.mk (Kd.R_lower (Kd.R_newB (Kd.R_new' ho0 (Kd.R_lt (by (with_reducible repeat (first | apply Kd.R_alloc | apply Kd.R_drewN | apply Kd.R_drew)); exact HO_11.out))) (g := gb107) (o := .cells #[.int .i64 ((rd_T26 t102 x13_1).f0), .string ((rd_T26 t102 x13_1).f1), .string ((rd_T26 t102 x13_1).f2), .bool ((rd_T26 t102 x13_1).f3), .bool ((rd_T26 t102 x13_1).f4)] 26 (0, 0)) (by (with_reducible repeat (first | refine blk_drewN ?_ _ | refine blk_drew ?_ | refine blk_alloc ?_ _)); exact BK107.out)) (below_size (by repeat (first | (with_reducible first | exact HB.out | apply below_alloc | apply pw_below_drewN | apply below_drew1 | refine below_set ?_ GE107.out) | exact HB.out)))); have n2_ := Aside0.mk (blk_below (g := gb107) (o := .cells #[.int .i64 ((rd_T26 t102 x13_1).f0), .string ((rd_T26 t102 x13_1).f1), .string ((rd_T26 t102 x13_1).f2), .bool ((rd_T26 t102 x13_1).f3), .bool ((rd_T26 t102 x13_1).f4)] 26 (0, 0)) (by (with_reducible repeat (first | refine blk_drewN ?_ _ | refine blk_drew ?_ | refine blk_alloc ?_ _)); exact BK107.out) hb); have n3_ := Aside0.mk (below_step (by repeat (first | (with_reducible first | exact HB.out | apply below_alloc | apply pw_below_drewN | apply below_drew1 | refine below_set ?_ GE107.out) | exact HB.out)) hb); clear HO_11; clear BK107; clear HB; have HO_11 := n0_; have HO114 := n1_; have BK107 := n2_; have HB := n3_; clear n0_ n1_ n2_ n3_; (try clear hb); (try clear hb2); (try clear hk); (try clear hi); (try clear ho0); obtain ⟨Ao47, co47, eo47⟩ := Kd.R_slice HO114.out; subst eo47; have p115 : 0 ≤ (0 : Int) := (by omega); have q115 : 0 < (t112.length : Int) := of_decide_eq_true (by first | (with_reducible assumption) | assumption); obtain ⟨ad115, e115, hx115_0, hx115_1, hx115_2, hx115_3, hx115_4⟩ := at_T26 (Kd.R_reads' HO114.out).2.2 0 p115 q115; cases e115; have qi115 : (0 < t112.length) = True := eq_true (by omega); (try rw [show ((0 : Int)).toNat = 0 from rfl] at hx115_0); (try rw [show 0 * 5 = 0 from rfl] at hx115_0); (try rw [Addr.add_zero'] at hx115_0); (try rw [show ((0 : Int)).toNat = 0 from rfl] at hx115_1); (try rw [show 0 * 5 = 0 from rfl] at hx115_1); (try rw [Addr.add_zero'] at hx115_1); (try rw [show ((0 : Int)).toNat = 0 from rfl] at hx115_2); (try rw [show 0 * 5 = 0 from rfl] at hx115_2); (try rw [Addr.add_zero'] at hx115_2); (try rw [show ((0 : Int)).toNat = 0 from rfl] at hx115_3); (try rw [show 0 * 5 = 0 from rfl] at hx115_3); (try rw [Addr.add_zero'] at hx115_3); (try rw [show ((0 : Int)).toNat = 0 from rfl] at hx115_4); (try rw [show 0 * 5 = 0 from rfl] at hx115_4); (try rw [Addr.add_zero'] at hx115_4); replace p115 := eq_true p115; replace q115 := eq_true q115; have hcz48_0 : w46.cell? ⟨gb107, 0, none⟩ = some (.int .i64 ((rd_T26 t102 x13_1).f0)) := (blk_cell BK107.out 0).trans rfl; have hcz48_1 : w46.cell? ⟨gb107, 1, none⟩ = some (.string ((rd_T26 t102 x13_1).f1)) := (blk_cell BK107.out 1).trans rfl; have hcz48_2 : w46.cell? ⟨gb107, 2, none⟩ = some (.string ((rd_T26 t102 x13_1).f2)) := (blk_cell BK107.out 2).trans rfl; have hcz48_3 : w46.cell? ⟨gb107, 3, none⟩ = some (.bool ((rd_T26 t102 x13_1).f3)) := (blk_cell BK107.out 3).trans rfl; have hcz48_4 : w46.cell? ⟨gb107, 4, none⟩ = some (.bool ((rd_T26 t102 x13_1).f4)) := (blk_cell BK107.out 4).trans rfl; have hfz48_0 := blk_frozen BK107.out 0; have hfz48_1 := blk_frozen BK107.out 1; have hfz48_2 := blk_frozen BK107.out 2; have hfz48_3 := blk_frozen BK107.out 3; have hfz48_4 := blk_frozen BK107.out 4))
                                repeat (go_quiet (first | (go_at_call 16; (with_reducible refine (token_Source.calls kj31 ((rd_T26 t102 x13_1).f0) ((rd_T26 t102 x13_1).f1) ((rd_T26 t102 x13_1).f2) ((rd_T26 t102 x13_1).f3) ((rd_T26 t102 x13_1).f4) t111 _ A39.out (HT.out.below (by repeat (first | (with_reducible first | exact HB.out | apply below_alloc | apply pw_below_drewN | apply below_drew1) | exact HB.out)))).mono ?_); rintro e w45 ⟨rfl, hb⟩; have n0_ := Aside0.mk (Kd.R_below (by (with_reducible repeat (first | apply Kd.R_alloc | apply Kd.R_drewN | apply Kd.R_drew)); exact HO_11.out) hb); have n1_ := Aside0.mk (blk_below (g := gb107) (o := .cells #[.int .i64 ((rd_T26 t102 x13_1).f0), .string ((rd_T26 t102 x13_1).f1), .string ((rd_T26 t102 x13_1).f2), .bool ((rd_T26 t102 x13_1).f3), .bool ((rd_T26 t102 x13_1).f4)] 26 (0, 0)) (by (with_reducible repeat (first | refine blk_drewN ?_ _ | refine blk_drew ?_ | refine blk_alloc ?_ _)); exact BK107.out) hb); have n2_ := Aside0.mk (below_step (by repeat (first | (with_reducible first | exact HB.out | apply below_alloc | apply pw_below_drewN | apply below_drew1 | refine below_set ?_ GE107.out) | exact HB.out)) hb); clear HO_11; clear BK107; clear HB; have HO_11 := n0_; have BK107 := n1_; have HB := n2_; clear n0_ n1_ n2_; (try clear hb); (try clear hb2); (try clear hk); (try clear hi)) | (go_at_call 10; (with_reducible refine (gouachelaw02_cut.calls t111 t112 _ A40.out).mono ?_); rintro e w46 ⟨v113, rfl, ho0, hb⟩; have n0_ := Aside0.mk (Kd.R_elder' (by (with_reducible repeat (first | apply Kd.R_alloc | apply Kd.R_drewN | apply Kd.R_drew)); exact HO_11.out) (Kd.R_base ho0) hb); have n1_ := Aside0.mk (Kd.R_lower (Kd.R_newB (Kd.R_new' ho0 (Kd.R_lt (by (with_reducible repeat (first | apply Kd.R_alloc | apply Kd.R_drewN | apply Kd.R_drew)); exact HO_11.out))) (g := gb107) (o := .cells #[.int .i64 ((rd_T26 t102 x13_1).f0), .string ((rd_T26 t102 x13_1).f1), .string ((rd_T26 t102 x13_1).f2), .bool ((rd_T26 t102 x13_1).f3), .bool ((rd_T26 t102 x13_1).f4)] 26 (0, 0)) (by (with_reducible repeat (first | refine blk_drewN ?_ _ | refine blk_drew ?_ | refine blk_alloc ?_ _)); exact BK107.out)) (below_size (by repeat (first | (with_reducible first | exact HB.out | apply below_alloc | apply pw_below_drewN | apply below_drew1 | refine below_set ?_ GE107.out) | exact HB.out)))); have n2_ := Aside0.mk (blk_below (g := gb107) (o := .cells #[.int .i64 ((rd_T26 t102 x13_1).f0), .string ((rd_T26 t102 x13_1).f1), .string ((rd_T26 t102 x13_1).f2), .bool ((rd_T26 t102 x13_1).f3), .bool ((rd_T26 t102 x13_1).f4)] 26 (0, 0)) (by (with_reducible repeat (first | refine blk_drewN ?_ _ | refine blk_drew ?_ | refine blk_alloc ?_ _)); exact BK107.out) hb); have n3_ := Aside0.mk (below_step (by repeat (first | (with_reducible first | exact HB.out | apply below_alloc | apply pw_below_drewN | apply below_drew1 | refine below_set ?_ GE107.out) | exact HB.out)) hb); clear HO_11; clear BK107; clear HB; have HO_11 := n0_; have HO114 := n1_; have BK107 := n2_; have HB := n3_; clear n0_ n1_ n2_ n3_; (try clear hb); (try clear hb2); (try clear hk); (try clear hi); (try clear ho0); obtain ⟨Ao47, co47, eo47⟩ := Kd.R_slice HO114.out; subst eo47; have p115 : 0 ≤ (0 : Int) := (by omega); have q115 : 0 < (t112.length : Int) := of_decide_eq_true (by first | (with_reducible assumption) | assumption); obtain ⟨ad115, e115, hx115_0, hx115_1, hx115_2, hx115_3, hx115_4⟩ := at_T26 (Kd.R_reads' HO114.out).2.2 0 p115 q115; cases e115; have qi115 : (0 < t112.length) = True := eq_true (by omega); (try rw [show ((0 : Int)).toNat = 0 from rfl] at hx115_0); (try rw [show 0 * 5 = 0 from rfl] at hx115_0); (try rw [Addr.add_zero'] at hx115_0); (try rw [show ((0 : Int)).toNat = 0 from rfl] at hx115_1); (try rw [show 0 * 5 = 0 from rfl] at hx115_1); (try rw [Addr.add_zero'] at hx115_1); (try rw [show ((0 : Int)).toNat = 0 from rfl] at hx115_2); (try rw [show 0 * 5 = 0 from rfl] at hx115_2); (try rw [Addr.add_zero'] at hx115_2); (try rw [show ((0 : Int)).toNat = 0 from rfl] at hx115_3); (try rw [show 0 * 5 = 0 from rfl] at hx115_3); (try rw [Addr.add_zero'] at hx115_3); (try rw [show ((0 : Int)).toNat = 0 from rfl] at hx115_4); (try rw [show 0 * 5 = 0 from rfl] at hx115_4); (try rw [Addr.add_zero'] at hx115_4); replace p115 := eq_true p115; replace q115 := eq_true q115; have hcz48_0 : w46.cell? ⟨gb107, 0, none⟩ = some (.int .i64 ((rd_T26 t102 x13_1).f0)) := (blk_cell BK107.out 0).trans rfl; have hcz48_1 : w46.cell? ⟨gb107, 1, none⟩ = some (.string ((rd_T26 t102 x13_1).f1)) := (blk_cell BK107.out 1).trans rfl; have hcz48_2 : w46.cell? ⟨gb107, 2, none⟩ = some (.string ((rd_T26 t102 x13_1).f2)) := (blk_cell BK107.out 2).trans rfl; have hcz48_3 : w46.cell? ⟨gb107, 3, none⟩ = some (.bool ((rd_T26 t102 x13_1).f3)) := (blk_cell BK107.out 3).trans rfl; have hcz48_4 : w46.cell? ⟨gb107, 4, none⟩ = some (.bool ((rd_T26 t102 x13_1).f4)) := (blk_cell BK107.out 4).trans rfl; have hfz48_0 := blk_frozen BK107.out 0; have hfz48_1 := blk_frozen BK107.out 1; have hfz48_2 := blk_frozen BK107.out 2; have hfz48_3 := blk_frozen BK107.out 3; have hfz48_4 := blk_frozen BK107.out 4)); try go_wp2_with (first | (go_at_call 16; (with_reducible refine (token_Source.calls kj31 ((rd_T26 t102 x13_1).f0) ((rd_T26 t102 x13_1).f1) ((rd_T26 t102 x13_1).f2) ((rd_T26 t102 x13_1).f3) ((rd_T26 t102 x13_1).f4) t111 _ A39.out (HT.out.below (by repeat (first | (with_reducible first | exact HB.out | apply below_alloc | apply pw_below_drewN | apply below_drew1) | exact HB.out)))).mono ?_); rintro e w45 ⟨rfl, hb⟩; have n0_ := Aside0.mk (Kd.R_below (by (with_reducible repeat (first | apply Kd.R_alloc | apply Kd.R_drewN | apply Kd.R_drew)); exact HO_11.out) hb); have n1_ := Aside0.mk (blk_below (g := gb107) (o := .cells #[.int .i64 ((rd_T26 t102 x13_1).f0), .string ((rd_T26 t102 x13_1).f1), .string ((rd_T26 t102 x13_1).f2), .bool ((rd_T26 t102 x13_1).f3), .bool ((rd_T26 t102 x13_1).f4)] 26 (0, 0)) (by (with_reducible repeat (first | refine blk_drewN ?_ _ | refine blk_drew ?_ | refine blk_alloc ?_ _)); exact BK107.out) hb); have n2_ := Aside0.mk (below_step (by repeat (first | (with_reducible first | exact HB.out | apply below_alloc | apply pw_below_drewN | apply below_drew1 | refine below_set ?_ GE107.out) | exact HB.out)) hb); clear HO_11; clear BK107; clear HB; have HO_11 := n0_; have BK107 := n1_; have HB := n2_; clear n0_ n1_ n2_; (try clear hb); (try clear hb2); (try clear hk); (try clear hi)) | (go_at_call 10; (with_reducible refine (gouachelaw02_cut.calls t111 t112 _ A40.out).mono ?_); rintro e w46 ⟨v113, rfl, ho0, hb⟩; have n0_ := Aside0.mk (Kd.R_elder' (by (with_reducible repeat (first | apply Kd.R_alloc | apply Kd.R_drewN | apply Kd.R_drew)); exact HO_11.out) (Kd.R_base ho0) hb); have n1_ := Aside0.mk (Kd.R_lower (Kd.R_newB (Kd.R_new' ho0 (Kd.R_lt (by (with_reducible repeat (first | apply Kd.R_alloc | apply Kd.R_drewN | apply Kd.R_drew)); exact HO_11.out))) (g := gb107) (o := .cells #[.int .i64 ((rd_T26 t102 x13_1).f0), .string ((rd_T26 t102 x13_1).f1), .string ((rd_T26 t102 x13_1).f2), .bool ((rd_T26 t102 x13_1).f3), .bool ((rd_T26 t102 x13_1).f4)] 26 (0, 0)) (by (with_reducible repeat (first | refine blk_drewN ?_ _ | refine blk_drew ?_ | refine blk_alloc ?_ _)); exact BK107.out)) (below_size (by repeat (first | (with_reducible first | exact HB.out | apply below_alloc | apply pw_below_drewN | apply below_drew1 | refine below_set ?_ GE107.out) | exact HB.out)))); have n2_ := Aside0.mk (blk_below (g := gb107) (o := .cells #[.int .i64 ((rd_T26 t102 x13_1).f0), .string ((rd_T26 t102 x13_1).f1), .string ((rd_T26 t102 x13_1).f2), .bool ((rd_T26 t102 x13_1).f3), .bool ((rd_T26 t102 x13_1).f4)] 26 (0, 0)) (by (with_reducible repeat (first | refine blk_drewN ?_ _ | refine blk_drew ?_ | refine blk_alloc ?_ _)); exact BK107.out) hb); have n3_ := Aside0.mk (below_step (by repeat (first | (with_reducible first | exact HB.out | apply below_alloc | apply pw_below_drewN | apply below_drew1 | refine below_set ?_ GE107.out) | exact HB.out)) hb); clear HO_11; clear BK107; clear HB; have HO_11 := n0_; have HO114 := n1_; have BK107 := n2_; have HB := n3_; clear n0_ n1_ n2_ n3_; (try clear hb); (try clear hb2); (try clear hk); (try clear hi); (try clear ho0); obtain ⟨Ao47, co47, eo47⟩ := Kd.R_slice HO114.out; subst eo47; have p115 : 0 ≤ (0 : Int) := (by omega); have q115 : 0 < (t112.length : Int) := of_decide_eq_true (by first | (with_reducible assumption) | assumption); obtain ⟨ad115, e115, hx115_0, hx115_1, hx115_2, hx115_3, hx115_4⟩ := at_T26 (Kd.R_reads' HO114.out).2.2 0 p115 q115; cases e115; have qi115 : (0 < t112.length) = True := eq_true (by omega); (try rw [show ((0 : Int)).toNat = 0 from rfl] at hx115_0); (try rw [show 0 * 5 = 0 from rfl] at hx115_0); (try rw [Addr.add_zero'] at hx115_0); (try rw [show ((0 : Int)).toNat = 0 from rfl] at hx115_1); (try rw [show 0 * 5 = 0 from rfl] at hx115_1); (try rw [Addr.add_zero'] at hx115_1); (try rw [show ((0 : Int)).toNat = 0 from rfl] at hx115_2); (try rw [show 0 * 5 = 0 from rfl] at hx115_2); (try rw [Addr.add_zero'] at hx115_2); (try rw [show ((0 : Int)).toNat = 0 from rfl] at hx115_3); (try rw [show 0 * 5 = 0 from rfl] at hx115_3); (try rw [Addr.add_zero'] at hx115_3); (try rw [show ((0 : Int)).toNat = 0 from rfl] at hx115_4); (try rw [show 0 * 5 = 0 from rfl] at hx115_4); (try rw [Addr.add_zero'] at hx115_4); replace p115 := eq_true p115; replace q115 := eq_true q115; have hcz48_0 : w46.cell? ⟨gb107, 0, none⟩ = some (.int .i64 ((rd_T26 t102 x13_1).f0)) := (blk_cell BK107.out 0).trans rfl; have hcz48_1 : w46.cell? ⟨gb107, 1, none⟩ = some (.string ((rd_T26 t102 x13_1).f1)) := (blk_cell BK107.out 1).trans rfl; have hcz48_2 : w46.cell? ⟨gb107, 2, none⟩ = some (.string ((rd_T26 t102 x13_1).f2)) := (blk_cell BK107.out 2).trans rfl; have hcz48_3 : w46.cell? ⟨gb107, 3, none⟩ = some (.bool ((rd_T26 t102 x13_1).f3)) := (blk_cell BK107.out 3).trans rfl; have hcz48_4 : w46.cell? ⟨gb107, 4, none⟩ = some (.bool ((rd_T26 t102 x13_1).f4)) := (blk_cell BK107.out 4).trans rfl; have hfz48_0 := blk_frozen BK107.out 0; have hfz48_1 := blk_frozen BK107.out 1; have hfz48_2 := blk_frozen BK107.out 2; have hfz48_3 := blk_frozen BK107.out 3; have hfz48_4 := blk_frozen BK107.out 4)))
                                go_ret
                                exact ⟨by first | rfl | (simp [errW_none, errW_some] <;> rfl) | (simp [*, errW_none, errW_some] <;> rfl), by repeat (first | (with_reducible first | exact HB.out | apply below_alloc | apply pw_below_drewN | apply below_drew1 | refine below_set ?_ GE107.out) | exact HB.out)⟩
                              · rw [if_neg c43] at H
                                have c43b0 : (!(((rd_T26 t112 0).f0) == ((rd_T26 t102 x13_1).f0)) || (!((((rd_T26 t112 0).f1).toList) == ((rd_T26 t102 x13_1).f1).toList) || (!((((rd_T26 t112 0).f2).toList) == ((rd_T26 t102 x13_1).f2).toList) || (!(((rd_T26 t112 0).f3) == ((rd_T26 t102 x13_1).f3)) || (!(((rd_T26 t112 0).f4) == ((rd_T26 t102 x13_1).f4))))))) = false := by simpa using c43
                                clear c43
                                have H' := Aside0.mk H
                                clear H
                                have hcz49_0 : wc.cell? ⟨gb107, 0, none⟩ = some (.int .i64 ((rd_T26 t102 x13_1).f0)) := (blk_cell BK107.out 0).trans rfl
                                have hcz49_1 : wc.cell? ⟨gb107, 1, none⟩ = some (.string ((rd_T26 t102 x13_1).f1)) := (blk_cell BK107.out 1).trans rfl
                                have hcz49_2 : wc.cell? ⟨gb107, 2, none⟩ = some (.string ((rd_T26 t102 x13_1).f2)) := (blk_cell BK107.out 2).trans rfl
                                have hcz49_3 : wc.cell? ⟨gb107, 3, none⟩ = some (.bool ((rd_T26 t102 x13_1).f3)) := (blk_cell BK107.out 3).trans rfl
                                have hcz49_4 : wc.cell? ⟨gb107, 4, none⟩ = some (.bool ((rd_T26 t102 x13_1).f4)) := (blk_cell BK107.out 4).trans rfl
                                have hfz49_0 := blk_frozen BK107.out 0
                                have hfz49_1 := blk_frozen BK107.out 1
                                have hfz49_2 := blk_frozen BK107.out 2
                                have hfz49_3 := blk_frozen BK107.out 3
                                have hfz49_4 := blk_frozen BK107.out 4
                                go_wp2_with (first | (go_at_call 16; (with_reducible refine (token_Source.calls kj31 ((rd_T26 t102 x13_1).f0) ((rd_T26 t102 x13_1).f1) ((rd_T26 t102 x13_1).f2) ((rd_T26 t102 x13_1).f3) ((rd_T26 t102 x13_1).f4) t111 _ A39.out (HT.out.below (by repeat (first | (with_reducible first | exact HB.out | apply below_alloc | apply pw_below_drewN | apply below_drew1) | exact HB.out)))).mono ?_); rintro e w50 ⟨rfl, hb⟩; have n0_ := Aside0.mk (Kd.R_below (by (with_reducible repeat (first | apply Kd.R_alloc | apply Kd.R_drewN | apply Kd.R_drew)); exact HO_11.out) hb); have n1_ := Aside0.mk (blk_below (g := gb107) (o := .cells #[.int .i64 ((rd_T26 t102 x13_1).f0), .string ((rd_T26 t102 x13_1).f1), .string ((rd_T26 t102 x13_1).f2), .bool ((rd_T26 t102 x13_1).f3), .bool ((rd_T26 t102 x13_1).f4)] 26 (0, 0)) (by (with_reducible repeat (first | refine blk_drewN ?_ _ | refine blk_drew ?_ | refine blk_alloc ?_ _)); exact BK107.out) hb); have n2_ := Aside0.mk (below_step (by repeat (first | (with_reducible first | exact HB.out | apply below_alloc | apply pw_below_drewN | apply below_drew1 | refine below_set ?_ GE107.out) | exact HB.out)) hb); clear HO_11; clear BK107; clear HB; have HO_11 := n0_; have BK107 := n1_; have HB := n2_; clear n0_ n1_ n2_; (try clear hb); (try clear hb2); (try clear hk); (try clear hi)) | (go_at_call 10; (with_reducible refine (gouachelaw02_cut.calls t111 t112 _ A40.out).mono ?_); rintro e w51 ⟨v113, rfl, ho0, hb⟩; have n0_ := Aside0.mk (Kd.R_elder' (by (with_reducible repeat (first | apply Kd.R_alloc | apply Kd.R_drewN | apply Kd.R_drew)); exact HO_11.out) (Kd.R_base ho0) hb); have n1_ := Aside0.mk (Kd.R_lower (Kd.R_newB (Kd.R_new' ho0 (Kd.R_lt (by (with_reducible repeat (first | apply Kd.R_alloc | apply Kd.R_drewN | apply Kd.R_drew)); exact HO_11.out))) (g := gb107) (o := .cells #[.int .i64 ((rd_T26 t102 x13_1).f0), .string ((rd_T26 t102 x13_1).f1), .string ((rd_T26 t102 x13_1).f2), .bool ((rd_T26 t102 x13_1).f3), .bool ((rd_T26 t102 x13_1).f4)] 26 (0, 0)) (by (with_reducible repeat (first | refine blk_drewN ?_ _ | refine blk_drew ?_ | refine blk_alloc ?_ _)); exact BK107.out)) (below_size (by repeat (first | (with_reducible first | exact HB.out | apply below_alloc | apply pw_below_drewN | apply below_drew1 | refine below_set ?_ GE107.out) | exact HB.out)))); have n2_ := Aside0.mk (blk_below (g := gb107) (o := .cells #[.int .i64 ((rd_T26 t102 x13_1).f0), .string ((rd_T26 t102 x13_1).f1), .string ((rd_T26 t102 x13_1).f2), .bool ((rd_T26 t102 x13_1).f3), .bool ((rd_T26 t102 x13_1).f4)] 26 (0, 0)) (by (with_reducible repeat (first | refine blk_drewN ?_ _ | refine blk_drew ?_ | refine blk_alloc ?_ _)); exact BK107.out) hb); have n3_ := Aside0.mk (below_step (by repeat (first | (with_reducible first | exact HB.out | apply below_alloc | apply pw_below_drewN | apply below_drew1 | refine below_set ?_ GE107.out) | exact HB.out)) hb); clear HO_11; clear BK107; clear HB; have HO_11 := n0_; have HO114 := n1_; have BK107 := n2_; have HB := n3_; clear n0_ n1_ n2_ n3_; (try clear hb); (try clear hb2); (try clear hk); (try clear hi); (try clear ho0); obtain ⟨Ao52, co52, eo52⟩ := Kd.R_slice HO114.out; subst eo52; have p115 : 0 ≤ (0 : Int) := (by omega); have q115 : 0 < (t112.length : Int) := of_decide_eq_true (by first | (with_reducible assumption) | assumption); obtain ⟨ad115, e115, hx115_0, hx115_1, hx115_2, hx115_3, hx115_4⟩ := at_T26 (Kd.R_reads' HO114.out).2.2 0 p115 q115; cases e115; have qi115 : (0 < t112.length) = True := eq_true (by omega); (try rw [show ((0 : Int)).toNat = 0 from rfl] at hx115_0); (try rw [show 0 * 5 = 0 from rfl] at hx115_0); (try rw [Addr.add_zero'] at hx115_0); (try rw [show ((0 : Int)).toNat = 0 from rfl] at hx115_1); (try rw [show 0 * 5 = 0 from rfl] at hx115_1); (try rw [Addr.add_zero'] at hx115_1); (try rw [show ((0 : Int)).toNat = 0 from rfl] at hx115_2); (try rw [show 0 * 5 = 0 from rfl] at hx115_2); (try rw [Addr.add_zero'] at hx115_2); (try rw [show ((0 : Int)).toNat = 0 from rfl] at hx115_3); (try rw [show 0 * 5 = 0 from rfl] at hx115_3); (try rw [Addr.add_zero'] at hx115_3); (try rw [show ((0 : Int)).toNat = 0 from rfl] at hx115_4); (try rw [show 0 * 5 = 0 from rfl] at hx115_4); (try rw [Addr.add_zero'] at hx115_4); replace p115 := eq_true p115; replace q115 := eq_true q115; have hcz53_0 : w51.cell? ⟨gb107, 0, none⟩ = some (.int .i64 ((rd_T26 t102 x13_1).f0)) := (blk_cell BK107.out 0).trans rfl; have hcz53_1 : w51.cell? ⟨gb107, 1, none⟩ = some (.string ((rd_T26 t102 x13_1).f1)) := (blk_cell BK107.out 1).trans rfl; have hcz53_2 : w51.cell? ⟨gb107, 2, none⟩ = some (.string ((rd_T26 t102 x13_1).f2)) := (blk_cell BK107.out 2).trans rfl; have hcz53_3 : w51.cell? ⟨gb107, 3, none⟩ = some (.bool ((rd_T26 t102 x13_1).f3)) := (blk_cell BK107.out 3).trans rfl; have hcz53_4 : w51.cell? ⟨gb107, 4, none⟩ = some (.bool ((rd_T26 t102 x13_1).f4)) := (blk_cell BK107.out 4).trans rfl; have hfz53_0 := blk_frozen BK107.out 0; have hfz53_1 := blk_frozen BK107.out 1; have hfz53_2 := blk_frozen BK107.out 2; have hfz53_3 := blk_frozen BK107.out 3; have hfz53_4 := blk_frozen BK107.out 4))
                                repeat (go_quiet (first | (go_at_call 16; (with_reducible refine (token_Source.calls kj31 ((rd_T26 t102 x13_1).f0) ((rd_T26 t102 x13_1).f1) ((rd_T26 t102 x13_1).f2) ((rd_T26 t102 x13_1).f3) ((rd_T26 t102 x13_1).f4) t111 _ A39.out (HT.out.below (by repeat (first | (with_reducible first | exact HB.out | apply below_alloc | apply pw_below_drewN | apply below_drew1) | exact HB.out)))).mono ?_); rintro e w50 ⟨rfl, hb⟩; have n0_ := Aside0.mk (Kd.R_below (by (with_reducible repeat (first | apply Kd.R_alloc | apply Kd.R_drewN | apply Kd.R_drew)); exact HO_11.out) hb); have n1_ := Aside0.mk (blk_below (g := gb107) (o := .cells #[.int .i64 ((rd_T26 t102 x13_1).f0), .string ((rd_T26 t102 x13_1).f1), .string ((rd_T26 t102 x13_1).f2), .bool ((rd_T26 t102 x13_1).f3), .bool ((rd_T26 t102 x13_1).f4)] 26 (0, 0)) (by (with_reducible repeat (first | refine blk_drewN ?_ _ | refine blk_drew ?_ | refine blk_alloc ?_ _)); exact BK107.out) hb); have n2_ := Aside0.mk (below_step (by repeat (first | (with_reducible first | exact HB.out | apply below_alloc | apply pw_below_drewN | apply below_drew1 | refine below_set ?_ GE107.out) | exact HB.out)) hb); clear HO_11; clear BK107; clear HB; have HO_11 := n0_; have BK107 := n1_; have HB := n2_; clear n0_ n1_ n2_; (try clear hb); (try clear hb2); (try clear hk); (try clear hi)) | (go_at_call 10; (with_reducible refine (gouachelaw02_cut.calls t111 t112 _ A40.out).mono ?_); rintro e w51 ⟨v113, rfl, ho0, hb⟩; have n0_ := Aside0.mk (Kd.R_elder' (by (with_reducible repeat (first | apply Kd.R_alloc | apply Kd.R_drewN | apply Kd.R_drew)); exact HO_11.out) (Kd.R_base ho0) hb); have n1_ := Aside0.mk (Kd.R_lower (Kd.R_newB (Kd.R_new' ho0 (Kd.R_lt (by (with_reducible repeat (first | apply Kd.R_alloc | apply Kd.R_drewN | apply Kd.R_drew)); exact HO_11.out))) (g := gb107) (o := .cells #[.int .i64 ((rd_T26 t102 x13_1).f0), .string ((rd_T26 t102 x13_1).f1), .string ((rd_T26 t102 x13_1).f2), .bool ((rd_T26 t102 x13_1).f3), .bool ((rd_T26 t102 x13_1).f4)] 26 (0, 0)) (by (with_reducible repeat (first | refine blk_drewN ?_ _ | refine blk_drew ?_ | refine blk_alloc ?_ _)); exact BK107.out)) (below_size (by repeat (first | (with_reducible first | exact HB.out | apply below_alloc | apply pw_below_drewN | apply below_drew1 | refine below_set ?_ GE107.out) | exact HB.out)))); have n2_ := Aside0.mk (blk_below (g := gb107) (o := .cells #[.int .i64 ((rd_T26 t102 x13_1).f0), .string ((rd_T26 t102 x13_1).f1), .string ((rd_T26 t102 x13_1).f2), .bool ((rd_T26 t102 x13_1).f3), .bool ((rd_T26 t102 x13_1).f4)] 26 (0, 0)) (by (with_reducible repeat (first | refine blk_drewN ?_ _ | refine blk_drew ?_ | refine blk_alloc ?_ _)); exact BK107.out) hb); have n3_ := Aside0.mk (below_step (by repeat (first | (with_reducible first | exact HB.out | apply below_alloc | apply pw_below_drewN | apply below_drew1 | refine below_set ?_ GE107.out) | exact HB.out)) hb); clear HO_11; clear BK107; clear HB; have HO_11 := n0_; have HO114 := n1_; have BK107 := n2_; have HB := n3_; clear n0_ n1_ n2_ n3_; (try clear hb); (try clear hb2); (try clear hk); (try clear hi); (try clear ho0); obtain ⟨Ao52, co52, eo52⟩ := Kd.R_slice HO114.out; subst eo52; have p115 : 0 ≤ (0 : Int) := (by omega); have q115 : 0 < (t112.length : Int) := of_decide_eq_true (by first | (with_reducible assumption) | assumption); obtain ⟨ad115, e115, hx115_0, hx115_1, hx115_2, hx115_3, hx115_4⟩ := at_T26 (Kd.R_reads' HO114.out).2.2 0 p115 q115; cases e115; have qi115 : (0 < t112.length) = True := eq_true (by omega); (try rw [show ((0 : Int)).toNat = 0 from rfl] at hx115_0); (try rw [show 0 * 5 = 0 from rfl] at hx115_0); (try rw [Addr.add_zero'] at hx115_0); (try rw [show ((0 : Int)).toNat = 0 from rfl] at hx115_1); (try rw [show 0 * 5 = 0 from rfl] at hx115_1); (try rw [Addr.add_zero'] at hx115_1); (try rw [show ((0 : Int)).toNat = 0 from rfl] at hx115_2); (try rw [show 0 * 5 = 0 from rfl] at hx115_2); (try rw [Addr.add_zero'] at hx115_2); (try rw [show ((0 : Int)).toNat = 0 from rfl] at hx115_3); (try rw [show 0 * 5 = 0 from rfl] at hx115_3); (try rw [Addr.add_zero'] at hx115_3); (try rw [show ((0 : Int)).toNat = 0 from rfl] at hx115_4); (try rw [show 0 * 5 = 0 from rfl] at hx115_4); (try rw [Addr.add_zero'] at hx115_4); replace p115 := eq_true p115; replace q115 := eq_true q115; have hcz53_0 : w51.cell? ⟨gb107, 0, none⟩ = some (.int .i64 ((rd_T26 t102 x13_1).f0)) := (blk_cell BK107.out 0).trans rfl; have hcz53_1 : w51.cell? ⟨gb107, 1, none⟩ = some (.string ((rd_T26 t102 x13_1).f1)) := (blk_cell BK107.out 1).trans rfl; have hcz53_2 : w51.cell? ⟨gb107, 2, none⟩ = some (.string ((rd_T26 t102 x13_1).f2)) := (blk_cell BK107.out 2).trans rfl; have hcz53_3 : w51.cell? ⟨gb107, 3, none⟩ = some (.bool ((rd_T26 t102 x13_1).f3)) := (blk_cell BK107.out 3).trans rfl; have hcz53_4 : w51.cell? ⟨gb107, 4, none⟩ = some (.bool ((rd_T26 t102 x13_1).f4)) := (blk_cell BK107.out 4).trans rfl; have hfz53_0 := blk_frozen BK107.out 0; have hfz53_1 := blk_frozen BK107.out 1; have hfz53_2 := blk_frozen BK107.out 2; have hfz53_3 := blk_frozen BK107.out 3; have hfz53_4 := blk_frozen BK107.out 4)); try go_wp2_with (first | (go_at_call 16; (with_reducible refine (token_Source.calls kj31 ((rd_T26 t102 x13_1).f0) ((rd_T26 t102 x13_1).f1) ((rd_T26 t102 x13_1).f2) ((rd_T26 t102 x13_1).f3) ((rd_T26 t102 x13_1).f4) t111 _ A39.out (HT.out.below (by repeat (first | (with_reducible first | exact HB.out | apply below_alloc | apply pw_below_drewN | apply below_drew1) | exact HB.out)))).mono ?_); rintro e w50 ⟨rfl, hb⟩; have n0_ := Aside0.mk (Kd.R_below (by (with_reducible repeat (first | apply Kd.R_alloc | apply Kd.R_drewN | apply Kd.R_drew)); exact HO_11.out) hb); have n1_ := Aside0.mk (blk_below (g := gb107) (o := .cells #[.int .i64 ((rd_T26 t102 x13_1).f0), .string ((rd_T26 t102 x13_1).f1), .string ((rd_T26 t102 x13_1).f2), .bool ((rd_T26 t102 x13_1).f3), .bool ((rd_T26 t102 x13_1).f4)] 26 (0, 0)) (by (with_reducible repeat (first | refine blk_drewN ?_ _ | refine blk_drew ?_ | refine blk_alloc ?_ _)); exact BK107.out) hb); have n2_ := Aside0.mk (below_step (by repeat (first | (with_reducible first | exact HB.out | apply below_alloc | apply pw_below_drewN | apply below_drew1 | refine below_set ?_ GE107.out) | exact HB.out)) hb); clear HO_11; clear BK107; clear HB; have HO_11 := n0_; have BK107 := n1_; have HB := n2_; clear n0_ n1_ n2_; (try clear hb); (try clear hb2); (try clear hk); (try clear hi)) | (go_at_call 10; (with_reducible refine (gouachelaw02_cut.calls t111 t112 _ A40.out).mono ?_); rintro e w51 ⟨v113, rfl, ho0, hb⟩; have n0_ := Aside0.mk (Kd.R_elder' (by (with_reducible repeat (first | apply Kd.R_alloc | apply Kd.R_drewN | apply Kd.R_drew)); exact HO_11.out) (Kd.R_base ho0) hb); have n1_ := Aside0.mk (Kd.R_lower (Kd.R_newB (Kd.R_new' ho0 (Kd.R_lt (by (with_reducible repeat (first | apply Kd.R_alloc | apply Kd.R_drewN | apply Kd.R_drew)); exact HO_11.out))) (g := gb107) (o := .cells #[.int .i64 ((rd_T26 t102 x13_1).f0), .string ((rd_T26 t102 x13_1).f1), .string ((rd_T26 t102 x13_1).f2), .bool ((rd_T26 t102 x13_1).f3), .bool ((rd_T26 t102 x13_1).f4)] 26 (0, 0)) (by (with_reducible repeat (first | refine blk_drewN ?_ _ | refine blk_drew ?_ | refine blk_alloc ?_ _)); exact BK107.out)) (below_size (by repeat (first | (with_reducible first | exact HB.out | apply below_alloc | apply pw_below_drewN | apply below_drew1 | refine below_set ?_ GE107.out) | exact HB.out)))); have n2_ := Aside0.mk (blk_below (g := gb107) (o := .cells #[.int .i64 ((rd_T26 t102 x13_1).f0), .string ((rd_T26 t102 x13_1).f1), .string ((rd_T26 t102 x13_1).f2), .bool ((rd_T26 t102 x13_1).f3), .bool ((rd_T26 t102 x13_1).f4)] 26 (0, 0)) (by (with_reducible repeat (first | refine blk_drewN ?_ _ | refine blk_drew ?_ | refine blk_alloc ?_ _)); exact BK107.out) hb); have n3_ := Aside0.mk (below_step (by repeat (first | (with_reducible first | exact HB.out | apply below_alloc | apply pw_below_drewN | apply below_drew1 | refine below_set ?_ GE107.out) | exact HB.out)) hb); clear HO_11; clear BK107; clear HB; have HO_11 := n0_; have HO114 := n1_; have BK107 := n2_; have HB := n3_; clear n0_ n1_ n2_ n3_; (try clear hb); (try clear hb2); (try clear hk); (try clear hi); (try clear ho0); obtain ⟨Ao52, co52, eo52⟩ := Kd.R_slice HO114.out; subst eo52; have p115 : 0 ≤ (0 : Int) := (by omega); have q115 : 0 < (t112.length : Int) := of_decide_eq_true (by first | (with_reducible assumption) | assumption); obtain ⟨ad115, e115, hx115_0, hx115_1, hx115_2, hx115_3, hx115_4⟩ := at_T26 (Kd.R_reads' HO114.out).2.2 0 p115 q115; cases e115; have qi115 : (0 < t112.length) = True := eq_true (by omega); (try rw [show ((0 : Int)).toNat = 0 from rfl] at hx115_0); (try rw [show 0 * 5 = 0 from rfl] at hx115_0); (try rw [Addr.add_zero'] at hx115_0); (try rw [show ((0 : Int)).toNat = 0 from rfl] at hx115_1); (try rw [show 0 * 5 = 0 from rfl] at hx115_1); (try rw [Addr.add_zero'] at hx115_1); (try rw [show ((0 : Int)).toNat = 0 from rfl] at hx115_2); (try rw [show 0 * 5 = 0 from rfl] at hx115_2); (try rw [Addr.add_zero'] at hx115_2); (try rw [show ((0 : Int)).toNat = 0 from rfl] at hx115_3); (try rw [show 0 * 5 = 0 from rfl] at hx115_3); (try rw [Addr.add_zero'] at hx115_3); (try rw [show ((0 : Int)).toNat = 0 from rfl] at hx115_4); (try rw [show 0 * 5 = 0 from rfl] at hx115_4); (try rw [Addr.add_zero'] at hx115_4); replace p115 := eq_true p115; replace q115 := eq_true q115; have hcz53_0 : w51.cell? ⟨gb107, 0, none⟩ = some (.int .i64 ((rd_T26 t102 x13_1).f0)) := (blk_cell BK107.out 0).trans rfl; have hcz53_1 : w51.cell? ⟨gb107, 1, none⟩ = some (.string ((rd_T26 t102 x13_1).f1)) := (blk_cell BK107.out 1).trans rfl; have hcz53_2 : w51.cell? ⟨gb107, 2, none⟩ = some (.string ((rd_T26 t102 x13_1).f2)) := (blk_cell BK107.out 2).trans rfl; have hcz53_3 : w51.cell? ⟨gb107, 3, none⟩ = some (.bool ((rd_T26 t102 x13_1).f3)) := (blk_cell BK107.out 3).trans rfl; have hcz53_4 : w51.cell? ⟨gb107, 4, none⟩ = some (.bool ((rd_T26 t102 x13_1).f4)) := (blk_cell BK107.out 4).trans rfl; have hfz53_0 := blk_frozen BK107.out 0; have hfz53_1 := blk_frozen BK107.out 1; have hfz53_2 := blk_frozen BK107.out 2; have hfz53_3 := blk_frozen BK107.out 3; have hfz53_4 := blk_frozen BK107.out 4)))
                                go_roundg kj31
                                case measure => have := HK1.out; have := HJ10.out; have := HJ31.out; omega
                                case rel => exact ⟨(wrap64 (x13_1 + 1)), (by first | rfl | (simp; done) | (simp [*]; done)), H', ⟨by have := HK1.out; have := HJ10.out; have := HJ31.out; omega⟩, ⟨by (with_reducible repeat (first | apply Kd.R_alloc | apply Kd.R_drewN | apply Kd.R_drew)); exact Kd.R_mono HO_11.out (fun _ hk => trivial)⟩, ⟨by repeat (first | (with_reducible first | exact HB.out | apply below_alloc | apply pw_below_drewN | apply below_drew1 | refine below_set ?_ GE107.out) | exact HB.out)⟩⟩
                            · rw [if_neg c42] at H
                              exact absurd H (by simp)
                          · rw [if_neg c41] at H
                            have c41b0 : ((t112.length : Int) == 1) = false := beq_eq_false_iff_ne.mpr c41
                            have c41b1 : ((t112.length : Int) != 1) = true := bne_iff_ne.mpr c41
                            obtain rfl := Option.some.inj H
                            have hcz54_0 : wc.cell? ⟨gb107, 0, none⟩ = some (.int .i64 ((rd_T26 t102 x13_1).f0)) := (blk_cell BK107.out 0).trans rfl
                            have hcz54_1 : wc.cell? ⟨gb107, 1, none⟩ = some (.string ((rd_T26 t102 x13_1).f1)) := (blk_cell BK107.out 1).trans rfl
                            have hcz54_2 : wc.cell? ⟨gb107, 2, none⟩ = some (.string ((rd_T26 t102 x13_1).f2)) := (blk_cell BK107.out 2).trans rfl
                            have hcz54_3 : wc.cell? ⟨gb107, 3, none⟩ = some (.bool ((rd_T26 t102 x13_1).f3)) := (blk_cell BK107.out 3).trans rfl
                            have hcz54_4 : wc.cell? ⟨gb107, 4, none⟩ = some (.bool ((rd_T26 t102 x13_1).f4)) := (blk_cell BK107.out 4).trans rfl
                            have hfz54_0 := blk_frozen BK107.out 0
                            have hfz54_1 := blk_frozen BK107.out 1
                            have hfz54_2 := blk_frozen BK107.out 2
                            have hfz54_3 := blk_frozen BK107.out 3
                            have hfz54_4 := blk_frozen BK107.out 4
                            go_wp2_with (first | (go_at_call 16; (with_reducible refine (token_Source.calls kj31 ((rd_T26 t102 x13_1).f0) ((rd_T26 t102 x13_1).f1) ((rd_T26 t102 x13_1).f2) ((rd_T26 t102 x13_1).f3) ((rd_T26 t102 x13_1).f4) t111 _ A39.out (HT.out.below (by repeat (first | (with_reducible first | exact HB.out | apply below_alloc | apply pw_below_drewN | apply below_drew1) | exact HB.out)))).mono ?_); rintro e w55 ⟨rfl, hb⟩; have n0_ := Aside0.mk (Kd.R_below (by (with_reducible repeat (first | apply Kd.R_alloc | apply Kd.R_drewN | apply Kd.R_drew)); exact HO_11.out) hb); have n1_ := Aside0.mk (blk_below (g := gb107) (o := .cells #[.int .i64 ((rd_T26 t102 x13_1).f0), .string ((rd_T26 t102 x13_1).f1), .string ((rd_T26 t102 x13_1).f2), .bool ((rd_T26 t102 x13_1).f3), .bool ((rd_T26 t102 x13_1).f4)] 26 (0, 0)) (by (with_reducible repeat (first | refine blk_drewN ?_ _ | refine blk_drew ?_ | refine blk_alloc ?_ _)); exact BK107.out) hb); have n2_ := Aside0.mk (below_step (by repeat (first | (with_reducible first | exact HB.out | apply below_alloc | apply pw_below_drewN | apply below_drew1 | refine below_set ?_ GE107.out) | exact HB.out)) hb); clear HO_11; clear BK107; clear HB; have HO_11 := n0_; have BK107 := n1_; have HB := n2_; clear n0_ n1_ n2_; (try clear hb); (try clear hb2); (try clear hk); (try clear hi)) | (go_at_call 10; (with_reducible refine (gouachelaw02_cut.calls t111 t112 _ A40.out).mono ?_); rintro e w56 ⟨v113, rfl, ho0, hb⟩; have n0_ := Aside0.mk (Kd.R_elder' (by (with_reducible repeat (first | apply Kd.R_alloc | apply Kd.R_drewN | apply Kd.R_drew)); exact HO_11.out) (Kd.R_base ho0) hb); have n1_ := Aside0.mk (Kd.R_lower (Kd.R_newB (Kd.R_new' ho0 (Kd.R_lt (by (with_reducible repeat (first | apply Kd.R_alloc | apply Kd.R_drewN | apply Kd.R_drew)); exact HO_11.out))) (g := gb107) (o := .cells #[.int .i64 ((rd_T26 t102 x13_1).f0), .string ((rd_T26 t102 x13_1).f1), .string ((rd_T26 t102 x13_1).f2), .bool ((rd_T26 t102 x13_1).f3), .bool ((rd_T26 t102 x13_1).f4)] 26 (0, 0)) (by (with_reducible repeat (first | refine blk_drewN ?_ _ | refine blk_drew ?_ | refine blk_alloc ?_ _)); exact BK107.out)) (below_size (by repeat (first | (with_reducible first | exact HB.out | apply below_alloc | apply pw_below_drewN | apply below_drew1 | refine below_set ?_ GE107.out) | exact HB.out)))); have n2_ := Aside0.mk (blk_below (g := gb107) (o := .cells #[.int .i64 ((rd_T26 t102 x13_1).f0), .string ((rd_T26 t102 x13_1).f1), .string ((rd_T26 t102 x13_1).f2), .bool ((rd_T26 t102 x13_1).f3), .bool ((rd_T26 t102 x13_1).f4)] 26 (0, 0)) (by (with_reducible repeat (first | refine blk_drewN ?_ _ | refine blk_drew ?_ | refine blk_alloc ?_ _)); exact BK107.out) hb); have n3_ := Aside0.mk (below_step (by repeat (first | (with_reducible first | exact HB.out | apply below_alloc | apply pw_below_drewN | apply below_drew1 | refine below_set ?_ GE107.out) | exact HB.out)) hb); clear HO_11; clear BK107; clear HB; have HO_11 := n0_; have HO114 := n1_; have BK107 := n2_; have HB := n3_; clear n0_ n1_ n2_ n3_; (try clear hb); (try clear hb2); (try clear hk); (try clear hi); (try clear ho0); obtain ⟨Ao57, co57, eo57⟩ := Kd.R_slice HO114.out; subst eo57))
                            repeat (go_quiet (first | (go_at_call 16; (with_reducible refine (token_Source.calls kj31 ((rd_T26 t102 x13_1).f0) ((rd_T26 t102 x13_1).f1) ((rd_T26 t102 x13_1).f2) ((rd_T26 t102 x13_1).f3) ((rd_T26 t102 x13_1).f4) t111 _ A39.out (HT.out.below (by repeat (first | (with_reducible first | exact HB.out | apply below_alloc | apply pw_below_drewN | apply below_drew1) | exact HB.out)))).mono ?_); rintro e w55 ⟨rfl, hb⟩; have n0_ := Aside0.mk (Kd.R_below (by (with_reducible repeat (first | apply Kd.R_alloc | apply Kd.R_drewN | apply Kd.R_drew)); exact HO_11.out) hb); have n1_ := Aside0.mk (blk_below (g := gb107) (o := .cells #[.int .i64 ((rd_T26 t102 x13_1).f0), .string ((rd_T26 t102 x13_1).f1), .string ((rd_T26 t102 x13_1).f2), .bool ((rd_T26 t102 x13_1).f3), .bool ((rd_T26 t102 x13_1).f4)] 26 (0, 0)) (by (with_reducible repeat (first | refine blk_drewN ?_ _ | refine blk_drew ?_ | refine blk_alloc ?_ _)); exact BK107.out) hb); have n2_ := Aside0.mk (below_step (by repeat (first | (with_reducible first | exact HB.out | apply below_alloc | apply pw_below_drewN | apply below_drew1 | refine below_set ?_ GE107.out) | exact HB.out)) hb); clear HO_11; clear BK107; clear HB; have HO_11 := n0_; have BK107 := n1_; have HB := n2_; clear n0_ n1_ n2_; (try clear hb); (try clear hb2); (try clear hk); (try clear hi)) | (go_at_call 10; (with_reducible refine (gouachelaw02_cut.calls t111 t112 _ A40.out).mono ?_); rintro e w56 ⟨v113, rfl, ho0, hb⟩; have n0_ := Aside0.mk (Kd.R_elder' (by (with_reducible repeat (first | apply Kd.R_alloc | apply Kd.R_drewN | apply Kd.R_drew)); exact HO_11.out) (Kd.R_base ho0) hb); have n1_ := Aside0.mk (Kd.R_lower (Kd.R_newB (Kd.R_new' ho0 (Kd.R_lt (by (with_reducible repeat (first | apply Kd.R_alloc | apply Kd.R_drewN | apply Kd.R_drew)); exact HO_11.out))) (g := gb107) (o := .cells #[.int .i64 ((rd_T26 t102 x13_1).f0), .string ((rd_T26 t102 x13_1).f1), .string ((rd_T26 t102 x13_1).f2), .bool ((rd_T26 t102 x13_1).f3), .bool ((rd_T26 t102 x13_1).f4)] 26 (0, 0)) (by (with_reducible repeat (first | refine blk_drewN ?_ _ | refine blk_drew ?_ | refine blk_alloc ?_ _)); exact BK107.out)) (below_size (by repeat (first | (with_reducible first | exact HB.out | apply below_alloc | apply pw_below_drewN | apply below_drew1 | refine below_set ?_ GE107.out) | exact HB.out)))); have n2_ := Aside0.mk (blk_below (g := gb107) (o := .cells #[.int .i64 ((rd_T26 t102 x13_1).f0), .string ((rd_T26 t102 x13_1).f1), .string ((rd_T26 t102 x13_1).f2), .bool ((rd_T26 t102 x13_1).f3), .bool ((rd_T26 t102 x13_1).f4)] 26 (0, 0)) (by (with_reducible repeat (first | refine blk_drewN ?_ _ | refine blk_drew ?_ | refine blk_alloc ?_ _)); exact BK107.out) hb); have n3_ := Aside0.mk (below_step (by repeat (first | (with_reducible first | exact HB.out | apply below_alloc | apply pw_below_drewN | apply below_drew1 | refine below_set ?_ GE107.out) | exact HB.out)) hb); clear HO_11; clear BK107; clear HB; have HO_11 := n0_; have HO114 := n1_; have BK107 := n2_; have HB := n3_; clear n0_ n1_ n2_ n3_; (try clear hb); (try clear hb2); (try clear hk); (try clear hi); (try clear ho0); obtain ⟨Ao57, co57, eo57⟩ := Kd.R_slice HO114.out; subst eo57)); try go_wp2_with (first | (go_at_call 16; (with_reducible refine (token_Source.calls kj31 ((rd_T26 t102 x13_1).f0) ((rd_T26 t102 x13_1).f1) ((rd_T26 t102 x13_1).f2) ((rd_T26 t102 x13_1).f3) ((rd_T26 t102 x13_1).f4) t111 _ A39.out (HT.out.below (by repeat (first | (with_reducible first | exact HB.out | apply below_alloc | apply pw_below_drewN | apply below_drew1) | exact HB.out)))).mono ?_); rintro e w55 ⟨rfl, hb⟩; have n0_ := Aside0.mk (Kd.R_below (by (with_reducible repeat (first | apply Kd.R_alloc | apply Kd.R_drewN | apply Kd.R_drew)); exact HO_11.out) hb); have n1_ := Aside0.mk (blk_below (g := gb107) (o := .cells #[.int .i64 ((rd_T26 t102 x13_1).f0), .string ((rd_T26 t102 x13_1).f1), .string ((rd_T26 t102 x13_1).f2), .bool ((rd_T26 t102 x13_1).f3), .bool ((rd_T26 t102 x13_1).f4)] 26 (0, 0)) (by (with_reducible repeat (first | refine blk_drewN ?_ _ | refine blk_drew ?_ | refine blk_alloc ?_ _)); exact BK107.out) hb); have n2_ := Aside0.mk (below_step (by repeat (first | (with_reducible first | exact HB.out | apply below_alloc | apply pw_below_drewN | apply below_drew1 | refine below_set ?_ GE107.out) | exact HB.out)) hb); clear HO_11; clear BK107; clear HB; have HO_11 := n0_; have BK107 := n1_; have HB := n2_; clear n0_ n1_ n2_; (try clear hb); (try clear hb2); (try clear hk); (try clear hi)) | (go_at_call 10; (with_reducible refine (gouachelaw02_cut.calls t111 t112 _ A40.out).mono ?_); rintro e w56 ⟨v113, rfl, ho0, hb⟩; have n0_ := Aside0.mk (Kd.R_elder' (by (with_reducible repeat (first | apply Kd.R_alloc | apply Kd.R_drewN | apply Kd.R_drew)); exact HO_11.out) (Kd.R_base ho0) hb); have n1_ := Aside0.mk (Kd.R_lower (Kd.R_newB (Kd.R_new' ho0 (Kd.R_lt (by (with_reducible repeat (first | apply Kd.R_alloc | apply Kd.R_drewN | apply Kd.R_drew)); exact HO_11.out))) (g := gb107) (o := .cells #[.int .i64 ((rd_T26 t102 x13_1).f0), .string ((rd_T26 t102 x13_1).f1), .string ((rd_T26 t102 x13_1).f2), .bool ((rd_T26 t102 x13_1).f3), .bool ((rd_T26 t102 x13_1).f4)] 26 (0, 0)) (by (with_reducible repeat (first | refine blk_drewN ?_ _ | refine blk_drew ?_ | refine blk_alloc ?_ _)); exact BK107.out)) (below_size (by repeat (first | (with_reducible first | exact HB.out | apply below_alloc | apply pw_below_drewN | apply below_drew1 | refine below_set ?_ GE107.out) | exact HB.out)))); have n2_ := Aside0.mk (blk_below (g := gb107) (o := .cells #[.int .i64 ((rd_T26 t102 x13_1).f0), .string ((rd_T26 t102 x13_1).f1), .string ((rd_T26 t102 x13_1).f2), .bool ((rd_T26 t102 x13_1).f3), .bool ((rd_T26 t102 x13_1).f4)] 26 (0, 0)) (by (with_reducible repeat (first | refine blk_drewN ?_ _ | refine blk_drew ?_ | refine blk_alloc ?_ _)); exact BK107.out) hb); have n3_ := Aside0.mk (below_step (by repeat (first | (with_reducible first | exact HB.out | apply below_alloc | apply pw_below_drewN | apply below_drew1 | refine below_set ?_ GE107.out) | exact HB.out)) hb); clear HO_11; clear BK107; clear HB; have HO_11 := n0_; have HO114 := n1_; have BK107 := n2_; have HB := n3_; clear n0_ n1_ n2_ n3_; (try clear hb); (try clear hb2); (try clear hk); (try clear hi); (try clear ho0); obtain ⟨Ao57, co57, eo57⟩ := Kd.R_slice HO114.out; subst eo57)))
                            go_ret
                            exact ⟨by first | rfl | (simp [errW_none, errW_some] <;> rfl) | (simp [*, errW_none, errW_some] <;> rfl), by repeat (first | (with_reducible first | exact HB.out | apply below_alloc | apply pw_below_drewN | apply below_drew1 | refine below_set ?_ GE107.out) | exact HB.out)⟩
            · rw [if_neg c10] at H
              exact absurd H (by simp)
          · rw [if_neg c9] at H
            exact absurd H (by simp)
        · rw [if_neg c8] at H
          have c8b0 : decide (x13_1 < (t102.length : Int)) = false := decide_eq_false c8
          clear c8
          replace H := Option.bind_eq_some_iff.mp H
          obtain ⟨t105, A580, H⟩ := H
          replace H : (some t105) = some r := H
          have A58 := Aside0.mk A580
          clear A580
          obtain rfl := Option.some.inj H
          go_wp2_with (first | (go_at_call 9; (with_reducible refine (gouachelaw02_lives.calls  t105 _ A58.out (HT.out.below (by repeat (first | (with_reducible first | exact HB.out | apply below_alloc | apply pw_below_drewN | apply below_drew1) | exact HB.out)))).mono ?_); rintro e w59 ⟨rfl, hb⟩; have n0_ := Aside0.mk (Kd.R_below (by (with_reducible repeat (first | apply Kd.R_alloc | apply Kd.R_drewN | apply Kd.R_drew)); exact HO_11.out) hb); have n1_ := Aside0.mk (below_step (by repeat (first | (with_reducible first | exact HB.out | apply below_alloc | apply pw_below_drewN | apply below_drew1) | exact HB.out)) hb); clear HO_11; clear HB; have HO_11 := n0_; have HB := n1_; clear n0_ n1_; (try clear hb); (try clear hb2); (try clear hk); (try clear hi)))
          repeat (go_quiet (first | (go_at_call 9; (with_reducible refine (gouachelaw02_lives.calls  t105 _ A58.out (HT.out.below (by repeat (first | (with_reducible first | exact HB.out | apply below_alloc | apply pw_below_drewN | apply below_drew1) | exact HB.out)))).mono ?_); rintro e w59 ⟨rfl, hb⟩; have n0_ := Aside0.mk (Kd.R_below (by (with_reducible repeat (first | apply Kd.R_alloc | apply Kd.R_drewN | apply Kd.R_drew)); exact HO_11.out) hb); have n1_ := Aside0.mk (below_step (by repeat (first | (with_reducible first | exact HB.out | apply below_alloc | apply pw_below_drewN | apply below_drew1) | exact HB.out)) hb); clear HO_11; clear HB; have HO_11 := n0_; have HB := n1_; clear n0_ n1_; (try clear hb); (try clear hb2); (try clear hk); (try clear hi))); try go_wp2_with (first | (go_at_call 9; (with_reducible refine (gouachelaw02_lives.calls  t105 _ A58.out (HT.out.below (by repeat (first | (with_reducible first | exact HB.out | apply below_alloc | apply pw_below_drewN | apply below_drew1) | exact HB.out)))).mono ?_); rintro e w59 ⟨rfl, hb⟩; have n0_ := Aside0.mk (Kd.R_below (by (with_reducible repeat (first | apply Kd.R_alloc | apply Kd.R_drewN | apply Kd.R_drew)); exact HO_11.out) hb); have n1_ := Aside0.mk (below_step (by repeat (first | (with_reducible first | exact HB.out | apply below_alloc | apply pw_below_drewN | apply below_drew1) | exact HB.out)) hb); clear HO_11; clear HB; have HO_11 := n0_; have HB := n1_; clear n0_ n1_; (try clear hb); (try clear hb2); (try clear hk); (try clear hi))))
          go_ret
          exact ⟨by first | rfl | (simp [errW_none, errW_some] <;> rfl) | (simp [*, errW_none, errW_some] <;> rfl), by repeat (first | (with_reducible first | exact HB.out | apply below_alloc | apply pw_below_drewN | apply below_drew1) | exact HB.out)⟩
end Go.Proofs.YtpnlbmeeihbjaabDoor.P
end
