/- ParseValues: for every input the law returns true, and each argument reads behind the call as it read before. -/
import Derived.Test.YthaaajpmiofodaaZPV6
import Derived.Test.YthaaajpmiofodaaZPV7
section
namespace Go.Proofs.Ythaaajpmiofodaa.P
open Go.RowKit Go.Proofs.YthaaajpmiofodaaW.PrintWords Go.Proofs.YthaaajpmiofodaaW.PrintLast Go.Proofs.YthaaajpmiofodaaW.PrintMore
attribute [local go_sem] max2_int min2_int max_two min_two max_three min_three max_four min_four
set_option linter.unusedVariables false
set_option linter.unusedSimpArgs false
mutual
def gouacheref03_some.l0 : Nat → List (S43) → Int → Int → List (S45) → Option ((List (S45)) × (List (S43)))
  | 0, _, _, _, _ => none
  | k + 1, x0, x1, x2, x8 => if (x0.length : Int) > 0 then (if 0 < (x0.length : Int) then (if 1 ≤ (x0.length : Int) then ((some (x0.drop 1 : List (S43))).bind fun y103 => (if x1 = 0 then (gouacheref03_some.j1 k y103 x1 x2 x8 false ((rd_T43 x0 0).f0) ((rd_T43 x0 0).f1) ((rd_T43 x0 0).f2) ((rd_T43 x0 0).f3) ((rd_T43 x0 0).f4)) else (gouacheref03_some.j1 k y103 x1 x2 x8 (((rd_T43 x0 0).f0) == x1) ((rd_T43 x0 0).f0) ((rd_T43 x0 0).f1) ((rd_T43 x0 0).f2) ((rd_T43 x0 0).f3) ((rd_T43 x0 0).f4)))) else (none)) else (none)) else (some (x8, ([] : List (S43))))
def gouacheref03_some.j1 : Nat → List (S43) → Int → Int → List (S45) → Bool → Int → ByteArray → ByteArray → Bool → Bool → Option ((List (S45)) × (List (S43)))
  | 0, _, _, _, _, _, _, _, _, _, _ => none
  | k + 1, x0, x1, x2, x8, x27, x103000, x103001, x103002, x103003, x103004 => if x27 = true then (some (x8, x0)) else ((gouacheref03_end.f k x103000).bind fun t109 => (if t109 = 0 then (if x8.length < 1954687338268 then (gouacheref03_some.l0 k x0 x1 x2 (x8 ++ [(⟨(⟨x103000, x103001, x103002, x103003, x103004⟩ : S43), ([] : List (S45))⟩ : S45)])) else (none)) else ((gouacheref03_some.f k x0 t109 (wrap64 (x2 + 1))).bind fun bt113 => (if (wrap64 (x2 + 1)) > 64 then (gouacheref03_some.l0 k bt113.2 x1 x2 x8) else (if x8.length < 1954687338268 then (gouacheref03_some.l0 k bt113.2 x1 x2 (x8 ++ [(⟨(⟨x103000, x103001, x103002, x103003, x103004⟩ : S43), bt113.1⟩ : S45)])) else (none))))))
def gouacheref03_some.f : Nat → List (S43) → Int → Int → Option ((List (S45)) × (List (S43)))
  | 0, _, _, _ => none
  | k + 1, l0, a1, a2 => gouacheref03_some.l0 k l0 a1 a2 ([] : List (S45))
end
set_option maxHeartbeats 8000000 in
set_option maxRecDepth 100000 in
theorem gouacheref03_some.calls (k : Nat) : ∀ (P0_ : Nat → Prop) (A0 : Option Addr) (c0 : Nat) (l0 : List (S43)) (a1 : Int) (a2 : Int) (r1 : List (S45)) (r2 : List (S43)) (w : World) (hs0 : Kd.V k43 43 w w.heap.size (fun k_ => P0_ k_) (.slice A0 l0.length c0) l0) (h : gouacheref03_some.f k l0 a1 a2 = some (r1, r2)),
    Calls Try.prog 31 #[.slice A0 l0.length c0, .int .i64 a1, .int .i64 a2] w fun e w' => ∃ v0_ v1_ : Value, e = .returned (.tuple #[v0_, v1_]) ∧ Kd.R k45 45 w' w.heap.size (fun k_ => (w.heap.size ≤ k_)) v0_ r1 ∧ Kd.V k43 43 w' w.heap.size (fun k_ => (P0_ k_ ∨ w.heap.size ≤ k_) ∧ some k_ ≠ (v0_ : Value).ownBlock) v1_ r2 ∧ Below w.heap.size w w' := by
  induction k using Nat.strongRecOn with
  | _ k ih =>
  intro P0_ A0 c0 l0 a1 a2 r1 r2 w hs0 h
  cases k with
  | zero => exact absurd h (by simp [gouacheref03_some.f])
  | succ k =>
  simp only [gouacheref03_some.f] at h
  have hu43 := Try.underlying43
  have hu45 := Try.underlying45
  have HO0 := Aside0.mk (show Kd.V k43 43 w w.heap.size (fun k_ => (P0_ k_ ∨ w.heap.size ≤ k_)) (.slice A0 l0.length c0) l0 from Kd.V_mono hs0 (fun k_ hk => .inl hk))
  have HB := Aside0.mk (Below.refl w.heap.size w)
  have H : (gouacheref03_some.l0 k l0 a1 a2 ([] : List (S45))) = some (r1, r2) := h
  clear h
  have H' := Aside0.mk H
  clear H
  go_enter Try.func31, Try.ntmps31
  go_wp2
  go_loopg [0, 8] k (fun kq v0 v8 w' => ∃ (x0_1 : List (S43)) (x8_1 : List (S45)), Aside0 (gouacheref03_some.l0 kq x0_1 a1 a2 x8_1 = some (r1, r2)) ∧ Aside0 (kq ≤ k) ∧ Aside0 (Kd.V k43 43 w' w.heap.size (fun k_ => (P0_ k_ ∨ w.heap.size ≤ k_) ∧ some k_ ≠ (v8 : Value).ownBlock) v0 x0_1) ∧ Aside0 (Kd.R k45 45 w' w.heap.size (fun k_ => (w.heap.size ≤ k_)) v8 x8_1) ∧ Aside0 (Below w.heap.size w w'))
  case atStart => exact ⟨(l0), (([] : List (S45))), H', ⟨Nat.le_refl _⟩, ⟨by (with_reducible repeat (first | apply Kd.V_alloc | apply Kd.V_drewN | apply Kd.V_drew)); exact Kd.V_mono HO0.out (fun _ hk => ⟨hk, (by simp [Value.ownBlock])⟩)⟩, ⟨by first | exact Kd.R_nil _ _ _ _ _ | exact Kd.N_nil _ _ _ _ _ | exact Kd.V_nil _ _ _ _ _ | exact Kd.Q_nil _ _ _ _ _ | exact Kd.S_nil _ _ _ _ _⟩, ⟨by repeat (first | (with_reducible first | exact HB.out | apply below_alloc | apply pw_below_drewN | apply below_drew1) | exact HB.out)⟩⟩
  case round =>
    clear H'
    try clear p2
    try clear c3
    obtain ⟨x0_1, x8_1, HA, HK1, HO_0, HO_8, HB⟩ := hrel
    cases gk with
    | zero => exact absurd HA.out (by simp [gouacheref03_some.l0])
    | succ k1 =>
      have H := HA.out
      clear HA
      simp only [gouacheref03_some.l0] at H
      by_cases c4 : (x0_1.length : Int) > 0
      · rw [if_pos c4] at H
        have c4b0 : decide (0 < (x0_1.length : Int)) = true := decide_eq_true c4
        have c4b1 : decide (0 < x0_1.length) = true := decide_eq_true (by omega)
        clear c4
        by_cases c5 : 0 < (x0_1.length : Int)
        · rw [if_pos c5] at H
          have c5b0 : decide (0 < (x0_1.length : Int)) = true := decide_eq_true c5
          have c5b1 : decide (0 < x0_1.length) = true := decide_eq_true (by omega)
          clear c5
          by_cases c6 : 1 ≤ (x0_1.length : Int)
          · rw [if_pos c6] at H
            have c6b0 := eq_true c6
            have c6b1 : decide (1 ≤ (x0_1.length : Int)) = true := decide_eq_true c6
            clear c6
            obtain ⟨y103, hy103⟩ : ∃ y_ : List (S43), y_ = (x0_1.drop 1) := ⟨_, rfl⟩
            replace H : (if a1 = 0 then (gouacheref03_some.j1 k1 y103 a1 a2 x8_1 false ((rd_T43 x0_1 0).f0) ((rd_T43 x0_1 0).f1) ((rd_T43 x0_1 0).f2) ((rd_T43 x0_1 0).f3) ((rd_T43 x0_1 0).f4)) else (gouacheref03_some.j1 k1 y103 a1 a2 x8_1 (((rd_T43 x0_1 0).f0) == a1) ((rd_T43 x0_1 0).f0) ((rd_T43 x0_1 0).f1) ((rd_T43 x0_1 0).f2) ((rd_T43 x0_1 0).f3) ((rd_T43 x0_1 0).f4))) = some (r1, r2) := by first | (rw [hy103]; with_reducible exact H) | (have H2_ := (Option.bind_some _ _).symm.trans H; rw [hy103]; with_reducible exact H2_) | (have H2_ := (Option.bind_some _ _).symm.trans H; with_reducible exact H2_) | with_reducible exact H | (rw [hy103]; exact H) | exact H
            have Ny103 := Aside0.mk hy103
            clear hy103
            have HC7 := Aside0.mk H
            clear H
            obtain ⟨Ao8, co8, eo8⟩ := Kd.V_slice HO_0.out
            subst eo8
            have p101 : 0 ≤ (0 : Int) := (by omega)
            have q101 : 0 < (x0_1.length : Int) := of_decide_eq_true (by first | (with_reducible assumption) | assumption)
            obtain ⟨ad101, e101, hx101_0, hx101_1, hx101_2, hx101_3, hx101_4⟩ := at_T43 (Kd.V_reads' HO_0.out).2.2 0 p101 q101
            cases e101
            have qi101 : (0 < x0_1.length) = True := eq_true (by omega)
            (try rw [show ((0 : Int)).toNat = 0 from rfl] at hx101_0)
            (try rw [show 0 * 5 = 0 from rfl] at hx101_0)
            (try rw [Addr.add_zero'] at hx101_0)
            (try rw [show ((0 : Int)).toNat = 0 from rfl] at hx101_1)
            (try rw [show 0 * 5 = 0 from rfl] at hx101_1)
            (try rw [Addr.add_zero'] at hx101_1)
            (try rw [show ((0 : Int)).toNat = 0 from rfl] at hx101_2)
            (try rw [show 0 * 5 = 0 from rfl] at hx101_2)
            (try rw [Addr.add_zero'] at hx101_2)
            (try rw [show ((0 : Int)).toNat = 0 from rfl] at hx101_3)
            (try rw [show 0 * 5 = 0 from rfl] at hx101_3)
            (try rw [Addr.add_zero'] at hx101_3)
            (try rw [show ((0 : Int)).toNat = 0 from rfl] at hx101_4)
            (try rw [show 0 * 5 = 0 from rfl] at hx101_4)
            (try rw [Addr.add_zero'] at hx101_4)
            replace p101 := eq_true p101
            replace q101 := eq_true q101
            go_upto_region 5 with (first | ((with_reducible refine gate_dst (N := 9) rfl ?_); refine box_event ?hg (N := 9) ?hd (cs := #[.int .i64 0, .string (⟨#[]⟩ : ByteArray), .string (⟨#[]⟩ : ByteArray), .bool false, .bool false]) (t := 43) ?hr ?_; (case hd => rfl); (case hg => rfl); (case hr => first | (go_simp; done) | (go_simp; rfl)); intro gb102 hg w9 hbox hb; have n0_ := Aside0.mk (Kd.V_below (Kd.V_elderB (by (with_reducible repeat (first | apply Kd.V_alloc | apply Kd.V_drewN | apply Kd.V_drew)); exact HO_0.out) gb102 (Nat.le_of_eq hg.symm)) hb); have n1_ := Aside0.mk (Kd.R_below (by (with_reducible repeat (first | apply Kd.R_alloc | apply Kd.R_drewN | apply Kd.R_drew)); exact HO_8.out) hb); have n2_ := Aside0.mk (below_step (by repeat (first | (with_reducible first | exact HB.out | apply below_alloc | apply pw_below_drewN | apply below_drew1) | exact HB.out)) hb); have n3_ := Aside0.mk (hbox); have n4_ := Aside0.mk ((by rw [hg]; exact (below_size (by repeat (first | (with_reducible first | exact HB.out | apply below_alloc | apply pw_below_drewN | apply below_drew1) | exact HB.out))) : w.heap.size ≤ gb102)); have n5_ := Aside0.mk ((by rw [hg]; exact (below_size (by repeat (first | (with_reducible first | exact HB.out | apply below_alloc | apply pw_below_drewN | apply below_drew1) | exact HB.out))) : w.heap.size ≤ gb102)); clear HO_0; clear HO_8; clear HB; have HO_0 := n0_; have HO_8 := n1_; have HB := n2_; have BK102 := n3_; have GW102 := n4_; have GE102 := n5_; clear n0_ n1_ n2_ n3_ n4_ n5_; clear hb hbox hg; have hcz10_0 : w9.cell? ⟨gb102, 0, none⟩ = some (.int .i64 0) := (blk_cell BK102.out 0).trans rfl; have hcz10_1 : w9.cell? ⟨gb102, 1, none⟩ = some (.string (⟨#[]⟩ : ByteArray)) := (blk_cell BK102.out 1).trans rfl; have hcz10_2 : w9.cell? ⟨gb102, 2, none⟩ = some (.string (⟨#[]⟩ : ByteArray)) := (blk_cell BK102.out 2).trans rfl; have hcz10_3 : w9.cell? ⟨gb102, 3, none⟩ = some (.bool false) := (blk_cell BK102.out 3).trans rfl; have hcz10_4 : w9.cell? ⟨gb102, 4, none⟩ = some (.bool false) := (blk_cell BK102.out 4).trans rfl; have hfz10_0 := blk_frozen BK102.out 0; have hfz10_1 := blk_frozen BK102.out 1; have hfz10_2 := blk_frozen BK102.out 2; have hfz10_3 := blk_frozen BK102.out 3; have hfz10_4 := blk_frozen BK102.out 4) | ((with_reducible refine gate_store (t := 43) (p := 9) rfl ?_); refine store_event (t := 43) (p := 9) (v := ?vo_w11) (w1 := (((((w9.setCell ⟨gb102, 0, none⟩ (.int .i64 ((rd_T43 x0_1 0).f0))).setCell ⟨gb102, 1, none⟩ (.string ((rd_T43 x0_1 0).f1))).setCell ⟨gb102, 2, none⟩ (.string ((rd_T43 x0_1 0).f2))).setCell ⟨gb102, 3, none⟩ (.bool ((rd_T43 x0_1 0).f3))).setCell ⟨gb102, 4, none⟩ (.bool ((rd_T43 x0_1 0).f4)))) ?hg ?ho ?hn ?hr ?_; (case ho => rfl); (case hg => rfl); (case hn => rfl); (case hr => first | (go_simp; done) | (go_simp; rfl)); intro w11 hw; have n0_ : Aside0 (Kd.V k43 43 w11 w.heap.size (fun k_ => (P0_ k_ ∨ w.heap.size ≤ k_) ∧ some k_ ≠ (u8 : Value).ownBlock ∧ k_ ≠ gb102) (.slice (some ad101) x0_1.length co8) x0_1) := ⟨(by rw [hw]; exact (by (with_reducible repeat (first | apply Kd.V_alloc | apply Kd.V_drewN | apply Kd.V_drew)); exact Kd.V_mono (Kd.V_far (p := ⟨gb102, 4, none⟩) (Kd.V_far (p := ⟨gb102, 3, none⟩) (Kd.V_far (p := ⟨gb102, 2, none⟩) (Kd.V_far (p := ⟨gb102, 1, none⟩) (Kd.V_far (p := ⟨gb102, 0, none⟩) (Kd.V_mono HO_0.out (fun k_ hk => (⟨hk, hk.2⟩ : _ ∧ k_ ≠ gb102))) (fun _ hk => hk.2) (.int .i64 ((rd_T43 x0_1 0).f0))) (fun _ hk => hk.2) (.string ((rd_T43 x0_1 0).f1))) (fun _ hk => hk.2) (.string ((rd_T43 x0_1 0).f2))) (fun _ hk => hk.2) (.bool ((rd_T43 x0_1 0).f3))) (fun _ hk => hk.2) (.bool ((rd_T43 x0_1 0).f4))) (fun _ hk => ⟨hk.1.1.1, ⟨hk.1.1.2, hk.1.2⟩⟩)))⟩; have n1_ : Aside0 (Kd.R k45 45 w11 w.heap.size (fun k_ => (w.heap.size ≤ k_)) u8 x8_1) := ⟨(by rw [hw]; exact (by (with_reducible repeat (first | apply Kd.R_alloc | apply Kd.R_drewN | apply Kd.R_drew)); exact Kd.R_mono (Kd.R_far (p := ⟨gb102, 4, none⟩) (Kd.R_far (p := ⟨gb102, 3, none⟩) (Kd.R_far (p := ⟨gb102, 2, none⟩) (Kd.R_far (p := ⟨gb102, 1, none⟩) (Kd.R_far (p := ⟨gb102, 0, none⟩) (Kd.R_types HO_8.out BK102.out (by decide)) (fun _ hk => hk.2) (.int .i64 ((rd_T43 x0_1 0).f0))) (fun _ hk => hk.2) (.string ((rd_T43 x0_1 0).f1))) (fun _ hk => hk.2) (.string ((rd_T43 x0_1 0).f2))) (fun _ hk => hk.2) (.bool ((rd_T43 x0_1 0).f3))) (fun _ hk => hk.2) (.bool ((rd_T43 x0_1 0).f4))) (fun _ hk => hk.1)))⟩; have n2_ : Aside0 (w11.heap[gb102]? = some (.cells #[.int .i64 ((rd_T43 x0_1 0).f0), .string ((rd_T43 x0_1 0).f1), .string ((rd_T43 x0_1 0).f2), .bool ((rd_T43 x0_1 0).f3), .bool ((rd_T43 x0_1 0).f4)] 43 (0, 0))) := ⟨(by rw [hw]; exact (by (with_reducible repeat (first | refine blk_drewN ?_ _ | refine blk_drew ?_ | refine blk_alloc ?_ _)); refine blk_put (cs := #[.int .i64 ((rd_T43 x0_1 0).f0), .string ((rd_T43 x0_1 0).f1), .string ((rd_T43 x0_1 0).f2), .bool ((rd_T43 x0_1 0).f3), .bool false]) ?_ 4 _ rfl; (with_reducible repeat (first | refine blk_drewN ?_ _ | refine blk_drew ?_ | refine blk_alloc ?_ _)); refine blk_put (cs := #[.int .i64 ((rd_T43 x0_1 0).f0), .string ((rd_T43 x0_1 0).f1), .string ((rd_T43 x0_1 0).f2), .bool false, .bool false]) ?_ 3 _ rfl; (with_reducible repeat (first | refine blk_drewN ?_ _ | refine blk_drew ?_ | refine blk_alloc ?_ _)); refine blk_put (cs := #[.int .i64 ((rd_T43 x0_1 0).f0), .string ((rd_T43 x0_1 0).f1), .string (⟨#[]⟩ : ByteArray), .bool false, .bool false]) ?_ 2 _ rfl; (with_reducible repeat (first | refine blk_drewN ?_ _ | refine blk_drew ?_ | refine blk_alloc ?_ _)); refine blk_put (cs := #[.int .i64 ((rd_T43 x0_1 0).f0), .string (⟨#[]⟩ : ByteArray), .string (⟨#[]⟩ : ByteArray), .bool false, .bool false]) ?_ 1 _ rfl; (with_reducible repeat (first | refine blk_drewN ?_ _ | refine blk_drew ?_ | refine blk_alloc ?_ _)); refine blk_put (cs := #[.int .i64 0, .string (⟨#[]⟩ : ByteArray), .string (⟨#[]⟩ : ByteArray), .bool false, .bool false]) ?_ 0 _ rfl; (with_reducible repeat (first | refine blk_drewN ?_ _ | refine blk_drew ?_ | refine blk_alloc ?_ _)); exact BK102.out))⟩; have n3_ : Aside0 (Below w.heap.size w w11) := ⟨(by rw [hw]; exact (by repeat (first | (with_reducible first | exact HB.out | apply below_alloc | apply pw_below_drewN | apply below_drew1 | refine below_set ?_ GE102.out) | exact HB.out)))⟩; clear hw; clear HO_0; clear HO_8; clear BK102; clear HB; have HO_0 := n0_; have HO_8 := n1_; have BK102 := n2_; have HB := n3_; clear n0_ n1_ n2_ n3_; have q12 : (1 : Int) ≤ ((x0_1.length : Int) : Int) := of_decide_eq_true (by first | (with_reducible assumption) | assumption); obtain ⟨i012, hi012, _, hsz12, _⟩ := info_parts info43; have hroom12 : x0_1.length ≤ co8 := (Kd.V_reads' HO_0.out).2.1; have hC12 : Kd.F k43 _ _ (some ad101) x0_1.length x0_1 := (Kd.V_at (base := w.heap.size) HO_0.out).2.2; have hcut12 := cut_from (P := Try.prog) 22 43 .i64 Try.underlying22 hi012 5 hsz12 (some ad101) x0_1.length co8 1 (by omega) q12; have hr12 := Kd.F_cut (m := (1 : Int).toNat) (c := co8) hC12 (by omega) hroom12; obtain ⟨A12, hA12⟩ : ∃ A1, A1 = (if co8 = (1 : Int).toNat then (some ad101) else ((some ad101) : Option Addr).map (·.add ((1 : Int).toNat * 5))) := ⟨_, rfl⟩; obtain ⟨c12, hc12⟩ : ∃ c1, c1 = co8 - (1 : Int).toNat := ⟨_, rfl⟩; have hy12 : y103.length = x0_1.length - (1 : Int).toNat := (by rw [Ny103.out, List.length_drop] <;> omega); rw [show (x0_1).drop (1 : Int).toNat = y103 from Ny103.out.symm] at hr12; replace hr12 : Kd.F k43 _ _ A12 y103.length y103 := (by rw [hA12]; exact hr12); rw [← hy12, ← hA12, ← hc12] at hcut12; have HO107 := Aside0.mk (show Kd.V k43 43 _ w.heap.size _ (.slice A12 y103.length c12) y103 from Kd.V_mk (by rw [hy12, hc12]; exact Nat.sub_le_sub_right hroom12 _) hr12); have HC107 := Aside0.mk (show y103.length ≤ c12 from by rw [hy12, hc12]; exact Nat.sub_le_sub_right hroom12 _); clear hr12 hC12 hroom12 hi012 hsz12 hc12; have KY12 := Aside0.mk hy12; have KA12 := Aside0.mk hA12; clear hy12 hA12; replace q12 := eq_true q12))
            (try simp only [Act.put, List.setIfInBounds_toArray, List.set_cons_zero, List.set_cons_succ])
            go_cut [27] (fun v27 wc => ∃ (kq : Nat) (x27_6 : Bool), v27 = .bool x27_6 ∧ Aside0 (gouacheref03_some.j1 kq y103 a1 a2 x8_1 x27_6 ((rd_T43 x0_1 0).f0) ((rd_T43 x0_1 0).f1) ((rd_T43 x0_1 0).f2) ((rd_T43 x0_1 0).f3) ((rd_T43 x0_1 0).f4) = some (r1, r2)) ∧ Aside0 (kq ≤ k1) ∧ Aside0 (Kd.V k43 43 wc w.heap.size (fun k_ => (P0_ k_ ∨ w.heap.size ≤ k_) ∧ some k_ ≠ (u8 : Value).ownBlock ∧ k_ ≠ gb102) (.slice A12 y103.length c12) y103) ∧ Aside0 (Kd.R k45 45 wc w.heap.size (fun k_ => (w.heap.size ≤ k_)) u8 x8_1) ∧ Aside0 (wc.heap[gb102]? = some (.cells #[.int .i64 ((rd_T43 x0_1 0).f0), .string ((rd_T43 x0_1 0).f1), .string ((rd_T43 x0_1 0).f2), .bool ((rd_T43 x0_1 0).f3), .bool ((rd_T43 x0_1 0).f4)] 43 (0, 0))) ∧ Aside0 (Below w.heap.size w wc))
            case first =>
              have H := HC7.out
              clear HC7
              by_cases c13 : a1 = 0
              · rw [if_pos c13] at H
                have c13b0 : (a1 == 0) = true := beq_iff_eq.mpr c13
                have c13b1 : (a1 != 0) = false := bne_eq_false_iff_eq.mpr c13
                clear c13
                (first | rw [c13b0] | (simp only [i64_w, i32_w]; rw [c13b0]) | skip)
                have H' := Aside0.mk H
                clear H
                go_wp2
                go_meet
                case rel => exact ⟨_, (false), (by first | rfl | (simp; done) | (simp [*]; done)), H', ⟨by have := HK1.out; first | omega | exact Nat.le_refl _⟩, ⟨by (with_reducible repeat (first | apply Kd.V_alloc | apply Kd.V_drewN | apply Kd.V_drew)); exact HO107.out⟩, ⟨by (with_reducible repeat (first | apply Kd.R_alloc | apply Kd.R_drewN | apply Kd.R_drew)); exact HO_8.out⟩, ⟨by (with_reducible repeat (first | refine blk_drewN ?_ _ | refine blk_drew ?_ | refine blk_alloc ?_ _)); exact BK102.out⟩, ⟨by repeat (first | (with_reducible first | exact HB.out | apply below_alloc | apply pw_below_drewN | apply below_drew1 | refine below_set ?_ GE102.out) | exact HB.out)⟩⟩
              · rw [if_neg c13] at H
                have c13b0 : (a1 == 0) = false := beq_eq_false_iff_ne.mpr c13
                have c13b1 : (a1 != 0) = true := bne_iff_ne.mpr c13
                (first | rw [c13b0] | (simp only [i64_w, i32_w]; rw [c13b0]) | skip)
                have H' := Aside0.mk H
                clear H
                have hcz14_0 : w11.cell? ⟨gb102, 0, none⟩ = some (.int .i64 ((rd_T43 x0_1 0).f0)) := (blk_cell BK102.out 0).trans rfl
                have hcz14_1 : w11.cell? ⟨gb102, 1, none⟩ = some (.string ((rd_T43 x0_1 0).f1)) := (blk_cell BK102.out 1).trans rfl
                have hcz14_2 : w11.cell? ⟨gb102, 2, none⟩ = some (.string ((rd_T43 x0_1 0).f2)) := (blk_cell BK102.out 2).trans rfl
                have hcz14_3 : w11.cell? ⟨gb102, 3, none⟩ = some (.bool ((rd_T43 x0_1 0).f3)) := (blk_cell BK102.out 3).trans rfl
                have hcz14_4 : w11.cell? ⟨gb102, 4, none⟩ = some (.bool ((rd_T43 x0_1 0).f4)) := (blk_cell BK102.out 4).trans rfl
                have hfz14_0 := blk_frozen BK102.out 0
                have hfz14_1 := blk_frozen BK102.out 1
                have hfz14_2 := blk_frozen BK102.out 2
                have hfz14_3 := blk_frozen BK102.out 3
                have hfz14_4 := blk_frozen BK102.out 4
                go_wp2
                go_meet
                case rel => exact ⟨_, ((((rd_T43 x0_1 0).f0) == a1)), (by first | rfl | (simp; done) | (simp [*]; done)), H', ⟨by have := HK1.out; first | omega | exact Nat.le_refl _⟩, ⟨by (with_reducible repeat (first | apply Kd.V_alloc | apply Kd.V_drewN | apply Kd.V_drew)); exact HO107.out⟩, ⟨by (with_reducible repeat (first | apply Kd.R_alloc | apply Kd.R_drewN | apply Kd.R_drew)); exact HO_8.out⟩, ⟨by (with_reducible repeat (first | refine blk_drewN ?_ _ | refine blk_drew ?_ | refine blk_alloc ?_ _)); exact BK102.out⟩, ⟨by repeat (first | (with_reducible first | exact HB.out | apply below_alloc | apply pw_below_drewN | apply below_drew1 | refine below_set ?_ GE102.out) | exact HB.out)⟩⟩
            case rest =>
              clear HC7
              try clear c1
              try clear p1
              try clear q1
              try clear hx1
              try clear qi1
              try clear p2
              try clear c3
              try clear c4
              try clear c4b0
              try clear c4b1
              try clear c5
              try clear c5b0
              try clear c5b1
              try clear c6
              try clear c6b0
              try clear c6b1
              try clear p10
              try clear q10
              try clear hx10
              try clear qi10
              try clear c12
              try clear q12
              try clear c13
              try clear c13b0
              try clear c13b1
              try clear hcz10_0
              try clear hcz10_1
              try clear hcz10_2
              try clear hcz10_3
              try clear hcz10_4
              try clear hcz14_0
              try clear hcz14_1
              try clear hcz14_2
              try clear hcz14_3
              try clear hcz14_4
              try clear hfz10_0
              try clear hfz10_1
              try clear hfz10_2
              try clear hfz10_3
              try clear hfz10_4
              try clear hfz14_0
              try clear hfz14_1
              try clear hfz14_2
              try clear hfz14_3
              try clear hfz14_4
              try clear hx101_0
              try clear hx101_1
              try clear hx101_2
              try clear hx101_3
              try clear hx101_4
              try clear p101
              try clear p2
              try clear q101
              try clear q12
              obtain ⟨kq, x27_6, rfl, HA, HJ6, HO_0, HO_8, BK102, HB⟩ := hcut
              cases kq with
              | zero => exact absurd HA.out (by simp [gouacheref03_some.j1])
              | succ kj6 =>
                have H := HA.out
                clear HA
                simp only [gouacheref03_some.j1] at H
                by_cases c15 : x27_6 = true
                · subst c15
                  have H1 : (some (x8_1, y103)) = some (r1, r2) := by rw [if_pos rfl] at H; exact H
                  clear H
                  have H := H1
                  clear H1
                  simp only [Option.some.injEq, Prod.mk.injEq] at H
                  obtain ⟨rfl, rfl⟩ := H
                  go_wp2
                  go_ret2
                  exact ⟨_, _, by first | rfl | (simp [errW_none, errW_some] <;> rfl) | (simp [*, errW_none, errW_some] <;> rfl), by (with_reducible repeat (first | apply Kd.R_alloc | apply Kd.R_drewN | apply Kd.R_drew)); exact HO_8.out, by (with_reducible repeat (first | apply Kd.V_alloc | apply Kd.V_drewN | apply Kd.V_drew)); exact Kd.V_mono HO_0.out (fun _ hk => ⟨hk.1, hk.2.1⟩), by repeat (first | (with_reducible first | exact HB.out | apply below_alloc | apply pw_below_drewN | apply below_drew1 | refine below_set ?_ GE102.out) | exact HB.out)⟩
                · replace c15 := Bool.eq_false_iff.mpr c15
                  subst c15
                  have H1 : ((gouacheref03_end.f kj6 ((rd_T43 x0_1 0).f0)).bind fun t109 => (if t109 = 0 then (if x8_1.length < 1954687338268 then (gouacheref03_some.l0 kj6 y103 a1 a2 (x8_1 ++ [(⟨(⟨((rd_T43 x0_1 0).f0), ((rd_T43 x0_1 0).f1), ((rd_T43 x0_1 0).f2), ((rd_T43 x0_1 0).f3), ((rd_T43 x0_1 0).f4)⟩ : S43), ([] : List (S45))⟩ : S45)])) else (none)) else ((gouacheref03_some.f kj6 y103 t109 (wrap64 (a2 + 1))).bind fun bt113 => (if (wrap64 (a2 + 1)) > 64 then (gouacheref03_some.l0 kj6 bt113.2 a1 a2 x8_1) else (if x8_1.length < 1954687338268 then (gouacheref03_some.l0 kj6 bt113.2 a1 a2 (x8_1 ++ [(⟨(⟨((rd_T43 x0_1 0).f0), ((rd_T43 x0_1 0).f1), ((rd_T43 x0_1 0).f2), ((rd_T43 x0_1 0).f3), ((rd_T43 x0_1 0).f4)⟩ : S43), bt113.1⟩ : S45)])) else (none)))))) = some (r1, r2) := by rw [if_neg (show ¬ (false = true) by decide)] at H; exact H
                  clear H
                  have H := H1
                  clear H1
                  replace H := Option.bind_eq_some_iff.mp H
                  obtain ⟨t109, A160, H⟩ := H
                  replace H : (if t109 = 0 then (if x8_1.length < 1954687338268 then (gouacheref03_some.l0 kj6 y103 a1 a2 (x8_1 ++ [(⟨(⟨((rd_T43 x0_1 0).f0), ((rd_T43 x0_1 0).f1), ((rd_T43 x0_1 0).f2), ((rd_T43 x0_1 0).f3), ((rd_T43 x0_1 0).f4)⟩ : S43), ([] : List (S45))⟩ : S45)])) else (none)) else ((gouacheref03_some.f kj6 y103 t109 (wrap64 (a2 + 1))).bind fun bt113 => (if (wrap64 (a2 + 1)) > 64 then (gouacheref03_some.l0 kj6 bt113.2 a1 a2 x8_1) else (if x8_1.length < 1954687338268 then (gouacheref03_some.l0 kj6 bt113.2 a1 a2 (x8_1 ++ [(⟨(⟨((rd_T43 x0_1 0).f0), ((rd_T43 x0_1 0).f1), ((rd_T43 x0_1 0).f2), ((rd_T43 x0_1 0).f3), ((rd_T43 x0_1 0).f4)⟩ : S43), bt113.1⟩ : S45)])) else (none))))) = some (r1, r2) := H
                  have A16 := Aside0.mk A160
                  clear A160
                  by_cases c17 : t109 = 0
                  · rw [if_pos c17] at H
                    have c17b0 : (t109 == 0) = true := beq_iff_eq.mpr c17
                    have c17b1 : (t109 != 0) = false := bne_eq_false_iff_eq.mpr c17
                    clear c17
                    by_cases c18 : x8_1.length < 1954687338268
                    · rw [if_pos c18] at H
                      have LMc18 := Aside0.mk c18
                      clear c18
                      obtain ⟨y110, hy110⟩ : ∃ y_ : List (S45), y_ = (x8_1 ++ [(⟨(⟨((rd_T43 x0_1 0).f0), ((rd_T43 x0_1 0).f1), ((rd_T43 x0_1 0).f2), ((rd_T43 x0_1 0).f3), ((rd_T43 x0_1 0).f4)⟩ : S43), ([] : List (S45))⟩ : S45)]) := ⟨_, rfl⟩
                      replace H : (gouacheref03_some.l0 kj6 y103 a1 a2 y110) = some (r1, r2) := by first | (rw [hy110]; with_reducible exact H) | (have H2_ := (Option.bind_some _ _).symm.trans H; rw [hy110]; with_reducible exact H2_) | (have H2_ := (Option.bind_some _ _).symm.trans H; with_reducible exact H2_) | with_reducible exact H | (rw [hy110]; exact H) | exact H
                      have Ny110 := Aside0.mk hy110
                      clear hy110
                      have H' := Aside0.mk H
                      clear H
                      have hcz19_0 : wc.cell? ⟨gb102, 0, none⟩ = some (.int .i64 ((rd_T43 x0_1 0).f0)) := (blk_cell BK102.out 0).trans rfl
                      have hcz19_1 : wc.cell? ⟨gb102, 1, none⟩ = some (.string ((rd_T43 x0_1 0).f1)) := (blk_cell BK102.out 1).trans rfl
                      have hcz19_2 : wc.cell? ⟨gb102, 2, none⟩ = some (.string ((rd_T43 x0_1 0).f2)) := (blk_cell BK102.out 2).trans rfl
                      have hcz19_3 : wc.cell? ⟨gb102, 3, none⟩ = some (.bool ((rd_T43 x0_1 0).f3)) := (blk_cell BK102.out 3).trans rfl
                      have hcz19_4 : wc.cell? ⟨gb102, 4, none⟩ = some (.bool ((rd_T43 x0_1 0).f4)) := (blk_cell BK102.out 4).trans rfl
                      have hfz19_0 := blk_frozen BK102.out 0
                      have hfz19_1 := blk_frozen BK102.out 1
                      have hfz19_2 := blk_frozen BK102.out 2
                      have hfz19_3 := blk_frozen BK102.out 3
                      have hfz19_4 := blk_frozen BK102.out 4
                      go_wp2_with (first | ((with_reducible refine gate_dst (N := 10) rfl ?_); refine box_event ?hg (N := 10) ?hd (cs := #[.int .i64 0, .string (⟨#[]⟩ : ByteArray), .string (⟨#[]⟩ : ByteArray), .bool false, .bool false, .slice none 0 0]) (t := 45) ?hr ?_; (case hd => rfl); (case hg => rfl); (case hr => first | (go_simp; done) | (go_simp; rfl)); intro gb108 hg w20 hbox hb; have n0_ := Aside0.mk (Kd.V_below (Kd.V_elderB (by (with_reducible repeat (first | apply Kd.V_alloc | apply Kd.V_drewN | apply Kd.V_drew)); exact HO_0.out) gb108 (Nat.le_of_eq hg.symm)) hb); have n1_ := Aside0.mk (Kd.R_below (Kd.R_elderB (by (with_reducible repeat (first | apply Kd.R_alloc | apply Kd.R_drewN | apply Kd.R_drew)); exact HO_8.out) gb108 (Nat.le_of_eq hg.symm)) hb); have n2_ := Aside0.mk (blk_below (g := gb102) (o := .cells #[.int .i64 ((rd_T43 x0_1 0).f0), .string ((rd_T43 x0_1 0).f1), .string ((rd_T43 x0_1 0).f2), .bool ((rd_T43 x0_1 0).f3), .bool ((rd_T43 x0_1 0).f4)] 43 (0, 0)) (by (with_reducible repeat (first | refine blk_drewN ?_ _ | refine blk_drew ?_ | refine blk_alloc ?_ _)); exact BK102.out) hb); have n3_ := Aside0.mk (below_step (by repeat (first | (with_reducible first | exact HB.out | apply below_alloc | apply pw_below_drewN | apply below_drew1 | refine below_set ?_ GE102.out) | exact HB.out)) hb); have n4_ := Aside0.mk (hbox); have n5_ := Aside0.mk ((by rw [hg]; exact (below_size (by repeat (first | (with_reducible first | exact HB.out | apply below_alloc | apply pw_below_drewN | apply below_drew1 | refine below_set ?_ GE102.out) | exact HB.out))) : w.heap.size ≤ gb108)); have n6_ := Aside0.mk ((by rw [hg]; exact (below_size (by repeat (first | (with_reducible first | exact HB.out | apply below_alloc | apply pw_below_drewN | apply below_drew1 | refine below_set ?_ GE102.out) | exact HB.out))) : w.heap.size ≤ gb108)); have n7_ := Aside0.mk ((by rw [hg]; exact Nat.ne_of_lt (blk_lt (g := gb102) (o := .cells #[.int .i64 ((rd_T43 x0_1 0).f0), .string ((rd_T43 x0_1 0).f1), .string ((rd_T43 x0_1 0).f2), .bool ((rd_T43 x0_1 0).f3), .bool ((rd_T43 x0_1 0).f4)] 43 (0, 0)) (by (with_reducible repeat (first | refine blk_drewN ?_ _ | refine blk_drew ?_ | refine blk_alloc ?_ _)); exact BK102.out)) : gb102 ≠ gb108)); have n8_ := Aside0.mk ((by rw [hg]; exact Nat.ne_of_gt (blk_lt (g := gb102) (o := .cells #[.int .i64 ((rd_T43 x0_1 0).f0), .string ((rd_T43 x0_1 0).f1), .string ((rd_T43 x0_1 0).f2), .bool ((rd_T43 x0_1 0).f3), .bool ((rd_T43 x0_1 0).f4)] 43 (0, 0)) (by (with_reducible repeat (first | refine blk_drewN ?_ _ | refine blk_drew ?_ | refine blk_alloc ?_ _)); exact BK102.out)) : gb108 ≠ gb102)); clear HO_0; clear HO_8; clear BK102; clear HB; have HO_0 := n0_; have HO_8 := n1_; have BK102 := n2_; have HB := n3_; have BK108 := n4_; have GW108 := n5_; have GE108 := n6_; have NB102_108 := n7_; have NB108_102 := n8_; clear n0_ n1_ n2_ n3_ n4_ n5_ n6_ n7_ n8_; clear hb hbox hg; have hnb21 := NB108_102.out; have hnc21 := NB102_108.out; have hcz22_0 : w20.cell? ⟨gb108, 0, none⟩ = some (.int .i64 0) := (blk_cell BK108.out 0).trans rfl; have hcz22_1 : w20.cell? ⟨gb108, 1, none⟩ = some (.string (⟨#[]⟩ : ByteArray)) := (blk_cell BK108.out 1).trans rfl; have hcz22_2 : w20.cell? ⟨gb108, 2, none⟩ = some (.string (⟨#[]⟩ : ByteArray)) := (blk_cell BK108.out 2).trans rfl; have hcz22_3 : w20.cell? ⟨gb108, 3, none⟩ = some (.bool false) := (blk_cell BK108.out 3).trans rfl; have hcz22_4 : w20.cell? ⟨gb108, 4, none⟩ = some (.bool false) := (blk_cell BK108.out 4).trans rfl; have hcz22_5 : w20.cell? ⟨gb108, 5, none⟩ = some (.slice none 0 0) := (blk_cell BK108.out 5).trans rfl; have hfz22_0 := blk_frozen BK108.out 0; have hfz22_1 := blk_frozen BK108.out 1; have hfz22_2 := blk_frozen BK108.out 2; have hfz22_3 := blk_frozen BK108.out 3; have hfz22_4 := blk_frozen BK108.out 4; have hfz22_5 := blk_frozen BK108.out 5; have hcz23_0 : w20.cell? ⟨gb102, 0, none⟩ = some (.int .i64 ((rd_T43 x0_1 0).f0)) := (blk_cell BK102.out 0).trans rfl; have hcz23_1 : w20.cell? ⟨gb102, 1, none⟩ = some (.string ((rd_T43 x0_1 0).f1)) := (blk_cell BK102.out 1).trans rfl; have hcz23_2 : w20.cell? ⟨gb102, 2, none⟩ = some (.string ((rd_T43 x0_1 0).f2)) := (blk_cell BK102.out 2).trans rfl; have hcz23_3 : w20.cell? ⟨gb102, 3, none⟩ = some (.bool ((rd_T43 x0_1 0).f3)) := (blk_cell BK102.out 3).trans rfl; have hcz23_4 : w20.cell? ⟨gb102, 4, none⟩ = some (.bool ((rd_T43 x0_1 0).f4)) := (blk_cell BK102.out 4).trans rfl; have hfz23_0 := blk_frozen BK102.out 0; have hfz23_1 := blk_frozen BK102.out 1; have hfz23_2 := blk_frozen BK102.out 2; have hfz23_3 := blk_frozen BK102.out 3; have hfz23_4 := blk_frozen BK102.out 4) | ((with_reducible refine gate_callee (f := 39) rfl ?_); refine goesL_ (some 34) rfl rfl Try.func39 (by kernel_rfl) rfl #[.int .i64 ((rd_T43 x0_1 0).f0)] rfl (by (try simp only [List.map_toArray, List.map_cons, List.map_nil]); first | done | rfl | (simp only [List.length_drop, List.length_take]; rfl)) ?_; (with_reducible refine (gouacheref03_end.calls kj6 ((rd_T43 x0_1 0).f0) t109 _ A16.out).mono ?_); rintro e w' ⟨rfl, ⟨nd, rfl⟩⟩; refine ⟨_, rfl, ?_⟩) | ((with_reducible refine gate_builtin (b := .append) (xs := #[.tmp 49, .tmp 51]) rfl ?_); at_builtin; refine Kd.R_append k45 (w0 := w) w.heap.size rfl (.tmp 49) (.tmp 51) 25 45 (.agg #[(.int .i64 0), (.string ⟨#[]⟩), (.string ⟨#[]⟩), (.bool false), (.bool false), (.slice none 0 0)]) 72 rfl Try.underlying25 info45 rfl (by decide) (by omega) u8 x8_1 (⟨(⟨((rd_T43 x0_1 0).f0), ((rd_T43 x0_1 0).f1), ((rd_T43 x0_1 0).f2), ((rd_T43 x0_1 0).f3), ((rd_T43 x0_1 0).f4)⟩ : S43), ([] : List (S45))⟩ : S45) [.int .i64 ((rd_T43 x0_1 0).f0), .string ((rd_T43 x0_1 0).f1), .string ((rd_T43 x0_1 0).f2), .bool ((rd_T43 x0_1 0).f3), .bool ((rd_T43 x0_1 0).f4), .slice none 0 0] (fun k_ => (w.heap.size ≤ k_) ∧ k_ ≠ gb108) (fun k_ => ((fun k_ => (w.heap.size ≤ k_) ∧ k_ ≠ gb108)) k_ ∧ some k_ ≠ (u8 : Value).ownBlock) rfl (by first | (go_simp; done) | (go_simp; rfl)) ?aP (fun _ hk => hk) ?aF ?aO ?aB ?aS ?aL ?_; (case aP => exact k45_mkM _ _ _ (⟨(⟨((rd_T43 x0_1 0).f0), ((rd_T43 x0_1 0).f1), ((rd_T43 x0_1 0).f2), ((rd_T43 x0_1 0).f3), ((rd_T43 x0_1 0).f4)⟩ : S43), ([] : List (S45))⟩ : S45) (Kd.R_nil _ _ _ _ _)); (case aB => exact (by repeat (first | (with_reducible first | exact HB.out | apply below_alloc | apply pw_below_drewN | apply below_drew1 | refine below_set ?_ GE102.out | refine below_set ?_ GE108.out) | exact HB.out))); (case aF => exact (fun k_ hk => ⟨(Nat.le_trans (below_size (by repeat (first | (with_reducible first | exact HB.out | apply below_alloc | apply pw_below_drewN | apply below_drew1 | refine below_set ?_ GE102.out | refine below_set ?_ GE108.out) | exact HB.out))) hk), Kd.freshB (g := gb108) (o := .cells #[.int .i64 ((rd_T43 x0_1 0).f0), .string ((rd_T43 x0_1 0).f1), .string ((rd_T43 x0_1 0).f2), .bool ((rd_T43 x0_1 0).f3), .bool ((rd_T43 x0_1 0).f4), .slice none 0 0] 45 (0, 0)) (by (with_reducible repeat (first | refine blk_drewN ?_ _ | refine blk_drew ?_ | refine blk_alloc ?_ _)); refine blk_put (cs := #[.int .i64 ((rd_T43 x0_1 0).f0), .string ((rd_T43 x0_1 0).f1), .string ((rd_T43 x0_1 0).f2), .bool ((rd_T43 x0_1 0).f3), .bool ((rd_T43 x0_1 0).f4), .slice none 0 0]) ?_ 5 _ rfl; (with_reducible repeat (first | refine blk_drewN ?_ _ | refine blk_drew ?_ | refine blk_alloc ?_ _)); refine blk_put (cs := #[.int .i64 ((rd_T43 x0_1 0).f0), .string ((rd_T43 x0_1 0).f1), .string ((rd_T43 x0_1 0).f2), .bool ((rd_T43 x0_1 0).f3), .bool false, .slice none 0 0]) ?_ 4 _ rfl; (with_reducible repeat (first | refine blk_drewN ?_ _ | refine blk_drew ?_ | refine blk_alloc ?_ _)); refine blk_put (cs := #[.int .i64 ((rd_T43 x0_1 0).f0), .string ((rd_T43 x0_1 0).f1), .string ((rd_T43 x0_1 0).f2), .bool false, .bool false, .slice none 0 0]) ?_ 3 _ rfl; (with_reducible repeat (first | refine blk_drewN ?_ _ | refine blk_drew ?_ | refine blk_alloc ?_ _)); refine blk_put (cs := #[.int .i64 ((rd_T43 x0_1 0).f0), .string ((rd_T43 x0_1 0).f1), .string (⟨#[]⟩ : ByteArray), .bool false, .bool false, .slice none 0 0]) ?_ 2 _ rfl; (with_reducible repeat (first | refine blk_drewN ?_ _ | refine blk_drew ?_ | refine blk_alloc ?_ _)); refine blk_put (cs := #[.int .i64 ((rd_T43 x0_1 0).f0), .string (⟨#[]⟩ : ByteArray), .string (⟨#[]⟩ : ByteArray), .bool false, .bool false, .slice none 0 0]) ?_ 1 _ rfl; (with_reducible repeat (first | refine blk_drewN ?_ _ | refine blk_drew ?_ | refine blk_alloc ?_ _)); refine blk_put (cs := #[.int .i64 0, .string (⟨#[]⟩ : ByteArray), .string (⟨#[]⟩ : ByteArray), .bool false, .bool false, .slice none 0 0]) ?_ 0 _ rfl; (with_reducible repeat (first | refine blk_drewN ?_ _ | refine blk_drew ?_ | refine blk_alloc ?_ _)); exact BK108.out) k_ hk⟩)); (case aO => exact (by (with_reducible repeat (first | apply Kd.R_alloc | apply Kd.R_drewN | apply Kd.R_drew)); exact Kd.R_mono (Kd.R_far (p := ⟨gb108, 5, none⟩) (Kd.R_far (p := ⟨gb108, 4, none⟩) (Kd.R_far (p := ⟨gb108, 3, none⟩) (Kd.R_far (p := ⟨gb108, 2, none⟩) (Kd.R_far (p := ⟨gb108, 1, none⟩) (Kd.R_far (p := ⟨gb108, 0, none⟩) (Kd.R_mono HO_8.out (fun k_ hk => (⟨hk, hk.2⟩ : _ ∧ k_ ≠ gb108))) (fun _ hk => hk.2) (.int .i64 ((rd_T43 x0_1 0).f0))) (fun _ hk => hk.2) (.string ((rd_T43 x0_1 0).f1))) (fun _ hk => hk.2) (.string ((rd_T43 x0_1 0).f2))) (fun _ hk => hk.2) (.bool ((rd_T43 x0_1 0).f3))) (fun _ hk => hk.2) (.bool ((rd_T43 x0_1 0).f4))) (fun _ hk => hk.2) (.slice none 0 0)) (fun _ hk => ⟨hk.1.1, hk.1.2⟩))); (case aS => exact (below_size (by repeat (first | (with_reducible first | exact HB.out | apply below_alloc | apply pw_below_drewN | apply below_drew1 | refine below_set ?_ GE102.out | refine below_set ?_ GE108.out) | exact HB.out)))); (case aL => have := LMc18.out; omega); intro v111 w24 ho hb hg hat; rw [← Ny110.out] at ho; have n0_ := Aside0.mk (Kd.V_afterv (ok := (fun k_ => (P0_ k_ ∨ w.heap.size ≤ k_) ∧ k_ ≠ gb102 ∧ k_ ≠ gb108)) (by (with_reducible repeat (first | apply Kd.V_alloc | apply Kd.V_drewN | apply Kd.V_drew)); exact Kd.V_mono (Kd.V_far (p := ⟨gb108, 5, none⟩) (Kd.V_far (p := ⟨gb108, 4, none⟩) (Kd.V_far (p := ⟨gb108, 3, none⟩) (Kd.V_far (p := ⟨gb108, 2, none⟩) (Kd.V_far (p := ⟨gb108, 1, none⟩) (Kd.V_far (p := ⟨gb108, 0, none⟩) (Kd.V_mono HO_0.out (fun k_ hk => (⟨hk, hk.2⟩ : _ ∧ k_ ≠ gb108))) (fun _ hk => hk.2) (.int .i64 ((rd_T43 x0_1 0).f0))) (fun _ hk => hk.2) (.string ((rd_T43 x0_1 0).f1))) (fun _ hk => hk.2) (.string ((rd_T43 x0_1 0).f2))) (fun _ hk => hk.2) (.bool ((rd_T43 x0_1 0).f3))) (fun _ hk => hk.2) (.bool ((rd_T43 x0_1 0).f4))) (fun _ hk => hk.2) (.slice none 0 0)) (fun _ hk => ⟨⟨hk.1.1.1, ⟨hk.1.1.2.2, hk.1.2⟩⟩, hk.1.1.2.1⟩)) hg hat); have n1_ := Aside0.mk (blk_grown (g := gb102) (o := .cells #[.int .i64 ((rd_T43 x0_1 0).f0), .string ((rd_T43 x0_1 0).f1), .string ((rd_T43 x0_1 0).f2), .bool ((rd_T43 x0_1 0).f3), .bool ((rd_T43 x0_1 0).f4)] 43 (0, 0)) (by (with_reducible repeat (first | refine blk_drewN ?_ _ | refine blk_drew ?_ | refine blk_alloc ?_ _)); refine blk_far ?_ NB102_108.out _; (with_reducible repeat (first | refine blk_drewN ?_ _ | refine blk_drew ?_ | refine blk_alloc ?_ _)); refine blk_far ?_ NB102_108.out _; (with_reducible repeat (first | refine blk_drewN ?_ _ | refine blk_drew ?_ | refine blk_alloc ?_ _)); refine blk_far ?_ NB102_108.out _; (with_reducible repeat (first | refine blk_drewN ?_ _ | refine blk_drew ?_ | refine blk_alloc ?_ _)); refine blk_far ?_ NB102_108.out _; (with_reducible repeat (first | refine blk_drewN ?_ _ | refine blk_drew ?_ | refine blk_alloc ?_ _)); refine blk_far ?_ NB102_108.out _; (with_reducible repeat (first | refine blk_drewN ?_ _ | refine blk_drew ?_ | refine blk_alloc ?_ _)); refine blk_far ?_ NB102_108.out _; (with_reducible repeat (first | refine blk_drewN ?_ _ | refine blk_drew ?_ | refine blk_alloc ?_ _)); exact BK102.out) hg (Kd.R_ne HO_8.out BK102.out (by decide))); have n2_ := Aside0.mk (blk_grown (g := gb108) (o := .cells #[.int .i64 ((rd_T43 x0_1 0).f0), .string ((rd_T43 x0_1 0).f1), .string ((rd_T43 x0_1 0).f2), .bool ((rd_T43 x0_1 0).f3), .bool ((rd_T43 x0_1 0).f4), .slice none 0 0] 45 (0, 0)) (by (with_reducible repeat (first | refine blk_drewN ?_ _ | refine blk_drew ?_ | refine blk_alloc ?_ _)); refine blk_put (cs := #[.int .i64 ((rd_T43 x0_1 0).f0), .string ((rd_T43 x0_1 0).f1), .string ((rd_T43 x0_1 0).f2), .bool ((rd_T43 x0_1 0).f3), .bool ((rd_T43 x0_1 0).f4), .slice none 0 0]) ?_ 5 _ rfl; (with_reducible repeat (first | refine blk_drewN ?_ _ | refine blk_drew ?_ | refine blk_alloc ?_ _)); refine blk_put (cs := #[.int .i64 ((rd_T43 x0_1 0).f0), .string ((rd_T43 x0_1 0).f1), .string ((rd_T43 x0_1 0).f2), .bool ((rd_T43 x0_1 0).f3), .bool false, .slice none 0 0]) ?_ 4 _ rfl; (with_reducible repeat (first | refine blk_drewN ?_ _ | refine blk_drew ?_ | refine blk_alloc ?_ _)); refine blk_put (cs := #[.int .i64 ((rd_T43 x0_1 0).f0), .string ((rd_T43 x0_1 0).f1), .string ((rd_T43 x0_1 0).f2), .bool false, .bool false, .slice none 0 0]) ?_ 3 _ rfl; (with_reducible repeat (first | refine blk_drewN ?_ _ | refine blk_drew ?_ | refine blk_alloc ?_ _)); refine blk_put (cs := #[.int .i64 ((rd_T43 x0_1 0).f0), .string ((rd_T43 x0_1 0).f1), .string (⟨#[]⟩ : ByteArray), .bool false, .bool false, .slice none 0 0]) ?_ 2 _ rfl; (with_reducible repeat (first | refine blk_drewN ?_ _ | refine blk_drew ?_ | refine blk_alloc ?_ _)); refine blk_put (cs := #[.int .i64 ((rd_T43 x0_1 0).f0), .string (⟨#[]⟩ : ByteArray), .string (⟨#[]⟩ : ByteArray), .bool false, .bool false, .slice none 0 0]) ?_ 1 _ rfl; (with_reducible repeat (first | refine blk_drewN ?_ _ | refine blk_drew ?_ | refine blk_alloc ?_ _)); refine blk_put (cs := #[.int .i64 0, .string (⟨#[]⟩ : ByteArray), .string (⟨#[]⟩ : ByteArray), .bool false, .bool false, .slice none 0 0]) ?_ 0 _ rfl; (with_reducible repeat (first | refine blk_drewN ?_ _ | refine blk_drew ?_ | refine blk_alloc ?_ _)); exact BK108.out) hg (Kd.R_away HO_8.out (fun _ hk => hk.2))); have n3_ := Aside0.mk (hb); have n4_ := Aside0.mk (ho); clear HO_0; clear BK102; clear BK108; clear HB; clear HO_8; have HO_0 := n0_; have BK102 := n1_; have BK108 := n2_; have HB := n3_; have HO112 := n4_; clear n0_ n1_ n2_ n3_ n4_; clear ho hb hg hat))
                      go_roundg kj6
                      case measure => have := HK1.out; have := HJ6.out; omega
                      case rel => exact ⟨(y103), (y110), H', ⟨by have := HK1.out; have := HJ6.out; omega⟩, ⟨by (with_reducible repeat (first | apply Kd.V_alloc | apply Kd.V_drewN | apply Kd.V_drew)); exact Kd.V_mono HO_0.out (fun _ hk => ⟨hk.1.1, hk.2⟩)⟩, ⟨by (with_reducible repeat (first | apply Kd.R_alloc | apply Kd.R_drewN | apply Kd.R_drew)); exact Kd.R_mono HO112.out (fun _ hk => hk.1)⟩, ⟨by repeat (first | (with_reducible first | exact HB.out | apply below_alloc | apply pw_below_drewN | apply below_drew1 | refine below_set ?_ GE102.out | refine below_set ?_ GE108.out) | exact HB.out)⟩⟩
                    · rw [if_neg c18] at H
                      exact absurd H (by simp)
                  · rw [if_neg c17] at H
                    have c17b0 : (t109 == 0) = false := beq_eq_false_iff_ne.mpr c17
                    have c17b1 : (t109 != 0) = true := bne_iff_ne.mpr c17
                    replace H := Option.bind_eq_some_iff.mp H
                    obtain ⟨⟨t113, t116⟩, A250, H⟩ := H
                    replace H : (if (wrap64 (a2 + 1)) > 64 then (gouacheref03_some.l0 kj6 t116 a1 a2 x8_1) else (if x8_1.length < 1954687338268 then (gouacheref03_some.l0 kj6 t116 a1 a2 (x8_1 ++ [(⟨(⟨((rd_T43 x0_1 0).f0), ((rd_T43 x0_1 0).f1), ((rd_T43 x0_1 0).f2), ((rd_T43 x0_1 0).f3), ((rd_T43 x0_1 0).f4)⟩ : S43), t113⟩ : S45)])) else (none))) = some (r1, r2) := H
                    have A25 := Aside0.mk A250
                    clear A250
                    by_cases c26 : (wrap64 (a2 + 1)) > 64
                    · rw [if_pos c26] at H
                      have c26b0 : decide (64 < (wrap64 (a2 + 1))) = true := decide_eq_true c26
                      clear c26
                      have H' := Aside0.mk H
                      clear H
                      have hcz27_0 : wc.cell? ⟨gb102, 0, none⟩ = some (.int .i64 ((rd_T43 x0_1 0).f0)) := (blk_cell BK102.out 0).trans rfl
                      have hcz27_1 : wc.cell? ⟨gb102, 1, none⟩ = some (.string ((rd_T43 x0_1 0).f1)) := (blk_cell BK102.out 1).trans rfl
                      have hcz27_2 : wc.cell? ⟨gb102, 2, none⟩ = some (.string ((rd_T43 x0_1 0).f2)) := (blk_cell BK102.out 2).trans rfl
                      have hcz27_3 : wc.cell? ⟨gb102, 3, none⟩ = some (.bool ((rd_T43 x0_1 0).f3)) := (blk_cell BK102.out 3).trans rfl
                      have hcz27_4 : wc.cell? ⟨gb102, 4, none⟩ = some (.bool ((rd_T43 x0_1 0).f4)) := (blk_cell BK102.out 4).trans rfl
                      have hfz27_0 := blk_frozen BK102.out 0
                      have hfz27_1 := blk_frozen BK102.out 1
                      have hfz27_2 := blk_frozen BK102.out 2
                      have hfz27_3 := blk_frozen BK102.out 3
                      have hfz27_4 := blk_frozen BK102.out 4
                      go_wp2_with (first | ((with_reducible refine gate_dst (N := 10) rfl ?_); refine box_event ?hg (N := 10) ?hd (cs := #[.int .i64 0, .string (⟨#[]⟩ : ByteArray), .string (⟨#[]⟩ : ByteArray), .bool false, .bool false, .slice none 0 0]) (t := 45) ?hr ?_; (case hd => rfl); (case hg => rfl); (case hr => first | (go_simp; done) | (go_simp; rfl)); intro gb108 hg w28 hbox hb; have n0_ := Aside0.mk (Kd.V_below (Kd.V_elderB (by (with_reducible repeat (first | apply Kd.V_alloc | apply Kd.V_drewN | apply Kd.V_drew)); exact HO_0.out) gb108 (Nat.le_of_eq hg.symm)) hb); have n1_ := Aside0.mk (Kd.R_below (Kd.R_elderB (by (with_reducible repeat (first | apply Kd.R_alloc | apply Kd.R_drewN | apply Kd.R_drew)); exact HO_8.out) gb108 (Nat.le_of_eq hg.symm)) hb); have n2_ := Aside0.mk (blk_below (g := gb102) (o := .cells #[.int .i64 ((rd_T43 x0_1 0).f0), .string ((rd_T43 x0_1 0).f1), .string ((rd_T43 x0_1 0).f2), .bool ((rd_T43 x0_1 0).f3), .bool ((rd_T43 x0_1 0).f4)] 43 (0, 0)) (by (with_reducible repeat (first | refine blk_drewN ?_ _ | refine blk_drew ?_ | refine blk_alloc ?_ _)); exact BK102.out) hb); have n3_ := Aside0.mk (below_step (by repeat (first | (with_reducible first | exact HB.out | apply below_alloc | apply pw_below_drewN | apply below_drew1 | refine below_set ?_ GE102.out) | exact HB.out)) hb); have n4_ := Aside0.mk (hbox); have n5_ := Aside0.mk ((by rw [hg]; exact (below_size (by repeat (first | (with_reducible first | exact HB.out | apply below_alloc | apply pw_below_drewN | apply below_drew1 | refine below_set ?_ GE102.out) | exact HB.out))) : w.heap.size ≤ gb108)); have n6_ := Aside0.mk ((by rw [hg]; exact (below_size (by repeat (first | (with_reducible first | exact HB.out | apply below_alloc | apply pw_below_drewN | apply below_drew1 | refine below_set ?_ GE102.out) | exact HB.out))) : w.heap.size ≤ gb108)); have n7_ := Aside0.mk ((by rw [hg]; exact Nat.ne_of_lt (blk_lt (g := gb102) (o := .cells #[.int .i64 ((rd_T43 x0_1 0).f0), .string ((rd_T43 x0_1 0).f1), .string ((rd_T43 x0_1 0).f2), .bool ((rd_T43 x0_1 0).f3), .bool ((rd_T43 x0_1 0).f4)] 43 (0, 0)) (by (with_reducible repeat (first | refine blk_drewN ?_ _ | refine blk_drew ?_ | refine blk_alloc ?_ _)); exact BK102.out)) : gb102 ≠ gb108)); have n8_ := Aside0.mk ((by rw [hg]; exact Nat.ne_of_gt (blk_lt (g := gb102) (o := .cells #[.int .i64 ((rd_T43 x0_1 0).f0), .string ((rd_T43 x0_1 0).f1), .string ((rd_T43 x0_1 0).f2), .bool ((rd_T43 x0_1 0).f3), .bool ((rd_T43 x0_1 0).f4)] 43 (0, 0)) (by (with_reducible repeat (first | refine blk_drewN ?_ _ | refine blk_drew ?_ | refine blk_alloc ?_ _)); exact BK102.out)) : gb108 ≠ gb102)); clear HO_0; clear HO_8; clear BK102; clear HB; have HO_0 := n0_; have HO_8 := n1_; have BK102 := n2_; have HB := n3_; have BK108 := n4_; have GW108 := n5_; have GE108 := n6_; have NB102_108 := n7_; have NB108_102 := n8_; clear n0_ n1_ n2_ n3_ n4_ n5_ n6_ n7_ n8_; clear hb hbox hg; have hnb29 := NB108_102.out; have hnc29 := NB102_108.out; have hcz30_0 : w28.cell? ⟨gb108, 0, none⟩ = some (.int .i64 0) := (blk_cell BK108.out 0).trans rfl; have hcz30_1 : w28.cell? ⟨gb108, 1, none⟩ = some (.string (⟨#[]⟩ : ByteArray)) := (blk_cell BK108.out 1).trans rfl; have hcz30_2 : w28.cell? ⟨gb108, 2, none⟩ = some (.string (⟨#[]⟩ : ByteArray)) := (blk_cell BK108.out 2).trans rfl; have hcz30_3 : w28.cell? ⟨gb108, 3, none⟩ = some (.bool false) := (blk_cell BK108.out 3).trans rfl; have hcz30_4 : w28.cell? ⟨gb108, 4, none⟩ = some (.bool false) := (blk_cell BK108.out 4).trans rfl; have hcz30_5 : w28.cell? ⟨gb108, 5, none⟩ = some (.slice none 0 0) := (blk_cell BK108.out 5).trans rfl; have hfz30_0 := blk_frozen BK108.out 0; have hfz30_1 := blk_frozen BK108.out 1; have hfz30_2 := blk_frozen BK108.out 2; have hfz30_3 := blk_frozen BK108.out 3; have hfz30_4 := blk_frozen BK108.out 4; have hfz30_5 := blk_frozen BK108.out 5) | ((with_reducible refine gate_store (t := 45) (p := 10) rfl ?_); refine store_event (t := 45) (p := 10) (v := ?vo_w31) (w1 := ((((((w28.setCell ⟨gb108, 0, none⟩ (.int .i64 ((rd_T43 x0_1 0).f0))).setCell ⟨gb108, 1, none⟩ (.string ((rd_T43 x0_1 0).f1))).setCell ⟨gb108, 2, none⟩ (.string ((rd_T43 x0_1 0).f2))).setCell ⟨gb108, 3, none⟩ (.bool ((rd_T43 x0_1 0).f3))).setCell ⟨gb108, 4, none⟩ (.bool ((rd_T43 x0_1 0).f4))).setCell ⟨gb108, 5, none⟩ (.slice none 0 0))) ?hg ?ho ?hn ?hr ?_; (case ho => rfl); (case hg => rfl); (case hn => rfl); (case hr => first | (go_simp; done) | (go_simp; rfl)); intro w31 hw; have n0_ : Aside0 (Kd.V k43 43 w31 w.heap.size (fun k_ => (P0_ k_ ∨ w.heap.size ≤ k_) ∧ some k_ ≠ (u8 : Value).ownBlock ∧ k_ ≠ gb102 ∧ k_ ≠ gb108) (.slice A12 y103.length c12) y103) := ⟨(by rw [hw]; exact (by (with_reducible repeat (first | apply Kd.V_alloc | apply Kd.V_drewN | apply Kd.V_drew)); exact Kd.V_mono (Kd.V_far (p := ⟨gb108, 5, none⟩) (Kd.V_far (p := ⟨gb108, 4, none⟩) (Kd.V_far (p := ⟨gb108, 3, none⟩) (Kd.V_far (p := ⟨gb108, 2, none⟩) (Kd.V_far (p := ⟨gb108, 1, none⟩) (Kd.V_far (p := ⟨gb108, 0, none⟩) (Kd.V_mono HO_0.out (fun k_ hk => (⟨hk, hk.2⟩ : _ ∧ k_ ≠ gb108))) (fun _ hk => hk.2) (.int .i64 ((rd_T43 x0_1 0).f0))) (fun _ hk => hk.2) (.string ((rd_T43 x0_1 0).f1))) (fun _ hk => hk.2) (.string ((rd_T43 x0_1 0).f2))) (fun _ hk => hk.2) (.bool ((rd_T43 x0_1 0).f3))) (fun _ hk => hk.2) (.bool ((rd_T43 x0_1 0).f4))) (fun _ hk => hk.2) (.slice none 0 0)) (fun _ hk => ⟨hk.1.1.1, ⟨hk.1.1.2.1, ⟨hk.1.1.2.2, hk.1.2⟩⟩⟩)))⟩; have n1_ : Aside0 (Kd.R k45 45 w31 w.heap.size (fun k_ => (w.heap.size ≤ k_) ∧ k_ ≠ gb108) u8 x8_1) := ⟨(by rw [hw]; exact (by (with_reducible repeat (first | apply Kd.R_alloc | apply Kd.R_drewN | apply Kd.R_drew)); exact Kd.R_mono (Kd.R_far (p := ⟨gb108, 5, none⟩) (Kd.R_far (p := ⟨gb108, 4, none⟩) (Kd.R_far (p := ⟨gb108, 3, none⟩) (Kd.R_far (p := ⟨gb108, 2, none⟩) (Kd.R_far (p := ⟨gb108, 1, none⟩) (Kd.R_far (p := ⟨gb108, 0, none⟩) (Kd.R_mono HO_8.out (fun k_ hk => (⟨hk, hk.2⟩ : _ ∧ k_ ≠ gb108))) (fun _ hk => hk.2) (.int .i64 ((rd_T43 x0_1 0).f0))) (fun _ hk => hk.2) (.string ((rd_T43 x0_1 0).f1))) (fun _ hk => hk.2) (.string ((rd_T43 x0_1 0).f2))) (fun _ hk => hk.2) (.bool ((rd_T43 x0_1 0).f3))) (fun _ hk => hk.2) (.bool ((rd_T43 x0_1 0).f4))) (fun _ hk => hk.2) (.slice none 0 0)) (fun _ hk => ⟨hk.1.1, hk.1.2⟩)))⟩; have n2_ : Aside0 (w31.heap[gb102]? = some (.cells #[.int .i64 ((rd_T43 x0_1 0).f0), .string ((rd_T43 x0_1 0).f1), .string ((rd_T43 x0_1 0).f2), .bool ((rd_T43 x0_1 0).f3), .bool ((rd_T43 x0_1 0).f4)] 43 (0, 0))) := ⟨(by rw [hw]; exact (by (with_reducible repeat (first | refine blk_drewN ?_ _ | refine blk_drew ?_ | refine blk_alloc ?_ _)); refine blk_far ?_ NB102_108.out _; (with_reducible repeat (first | refine blk_drewN ?_ _ | refine blk_drew ?_ | refine blk_alloc ?_ _)); refine blk_far ?_ NB102_108.out _; (with_reducible repeat (first | refine blk_drewN ?_ _ | refine blk_drew ?_ | refine blk_alloc ?_ _)); refine blk_far ?_ NB102_108.out _; (with_reducible repeat (first | refine blk_drewN ?_ _ | refine blk_drew ?_ | refine blk_alloc ?_ _)); refine blk_far ?_ NB102_108.out _; (with_reducible repeat (first | refine blk_drewN ?_ _ | refine blk_drew ?_ | refine blk_alloc ?_ _)); refine blk_far ?_ NB102_108.out _; (with_reducible repeat (first | refine blk_drewN ?_ _ | refine blk_drew ?_ | refine blk_alloc ?_ _)); refine blk_far ?_ NB102_108.out _; (with_reducible repeat (first | refine blk_drewN ?_ _ | refine blk_drew ?_ | refine blk_alloc ?_ _)); exact BK102.out))⟩; have n3_ : Aside0 (w31.heap[gb108]? = some (.cells #[.int .i64 ((rd_T43 x0_1 0).f0), .string ((rd_T43 x0_1 0).f1), .string ((rd_T43 x0_1 0).f2), .bool ((rd_T43 x0_1 0).f3), .bool ((rd_T43 x0_1 0).f4), .slice none 0 0] 45 (0, 0))) := ⟨(by rw [hw]; exact (by (with_reducible repeat (first | refine blk_drewN ?_ _ | refine blk_drew ?_ | refine blk_alloc ?_ _)); refine blk_put (cs := #[.int .i64 ((rd_T43 x0_1 0).f0), .string ((rd_T43 x0_1 0).f1), .string ((rd_T43 x0_1 0).f2), .bool ((rd_T43 x0_1 0).f3), .bool ((rd_T43 x0_1 0).f4), .slice none 0 0]) ?_ 5 _ rfl; (with_reducible repeat (first | refine blk_drewN ?_ _ | refine blk_drew ?_ | refine blk_alloc ?_ _)); refine blk_put (cs := #[.int .i64 ((rd_T43 x0_1 0).f0), .string ((rd_T43 x0_1 0).f1), .string ((rd_T43 x0_1 0).f2), .bool ((rd_T43 x0_1 0).f3), .bool false, .slice none 0 0]) ?_ 4 _ rfl; (with_reducible repeat (first | refine blk_drewN ?_ _ | refine blk_drew ?_ | refine blk_alloc ?_ _)); refine blk_put (cs := #[.int .i64 ((rd_T43 x0_1 0).f0), .string ((rd_T43 x0_1 0).f1), .string ((rd_T43 x0_1 0).f2), .bool false, .bool false, .slice none 0 0]) ?_ 3 _ rfl; (with_reducible repeat (first | refine blk_drewN ?_ _ | refine blk_drew ?_ | refine blk_alloc ?_ _)); refine blk_put (cs := #[.int .i64 ((rd_T43 x0_1 0).f0), .string ((rd_T43 x0_1 0).f1), .string (⟨#[]⟩ : ByteArray), .bool false, .bool false, .slice none 0 0]) ?_ 2 _ rfl; (with_reducible repeat (first | refine blk_drewN ?_ _ | refine blk_drew ?_ | refine blk_alloc ?_ _)); refine blk_put (cs := #[.int .i64 ((rd_T43 x0_1 0).f0), .string (⟨#[]⟩ : ByteArray), .string (⟨#[]⟩ : ByteArray), .bool false, .bool false, .slice none 0 0]) ?_ 1 _ rfl; (with_reducible repeat (first | refine blk_drewN ?_ _ | refine blk_drew ?_ | refine blk_alloc ?_ _)); refine blk_put (cs := #[.int .i64 0, .string (⟨#[]⟩ : ByteArray), .string (⟨#[]⟩ : ByteArray), .bool false, .bool false, .slice none 0 0]) ?_ 0 _ rfl; (with_reducible repeat (first | refine blk_drewN ?_ _ | refine blk_drew ?_ | refine blk_alloc ?_ _)); exact BK108.out))⟩; have n4_ : Aside0 (Below w.heap.size w w31) := ⟨(by rw [hw]; exact (by repeat (first | (with_reducible first | exact HB.out | apply below_alloc | apply pw_below_drewN | apply below_drew1 | refine below_set ?_ GE102.out | refine below_set ?_ GE108.out) | exact HB.out)))⟩; clear hw; clear HO_0; clear HO_8; clear BK102; clear BK108; clear HB; have HO_0 := n0_; have HO_8 := n1_; have BK102 := n2_; have BK108 := n3_; have HB := n4_; clear n0_ n1_ n2_ n3_ n4_; have hcz32_0 : w31.cell? ⟨gb102, 0, none⟩ = some (.int .i64 ((rd_T43 x0_1 0).f0)) := (blk_cell BK102.out 0).trans rfl; have hcz32_1 : w31.cell? ⟨gb102, 1, none⟩ = some (.string ((rd_T43 x0_1 0).f1)) := (blk_cell BK102.out 1).trans rfl; have hcz32_2 : w31.cell? ⟨gb102, 2, none⟩ = some (.string ((rd_T43 x0_1 0).f2)) := (blk_cell BK102.out 2).trans rfl; have hcz32_3 : w31.cell? ⟨gb102, 3, none⟩ = some (.bool ((rd_T43 x0_1 0).f3)) := (blk_cell BK102.out 3).trans rfl; have hcz32_4 : w31.cell? ⟨gb102, 4, none⟩ = some (.bool ((rd_T43 x0_1 0).f4)) := (blk_cell BK102.out 4).trans rfl; have hfz32_0 := blk_frozen BK102.out 0; have hfz32_1 := blk_frozen BK102.out 1; have hfz32_2 := blk_frozen BK102.out 2; have hfz32_3 := blk_frozen BK102.out 3; have hfz32_4 := blk_frozen BK102.out 4) | ((with_reducible refine gate_callee (f := 39) rfl ?_); refine goesL_ (some 34) rfl rfl Try.func39 (by kernel_rfl) rfl #[.int .i64 ((rd_T43 x0_1 0).f0)] rfl (by (try simp only [List.map_toArray, List.map_cons, List.map_nil]); first | done | rfl | (simp only [List.length_drop, List.length_take]; rfl)) ?_; (with_reducible refine (gouacheref03_end.calls kj6 ((rd_T43 x0_1 0).f0) t109 _ A16.out).mono ?_); rintro e w' ⟨rfl, ⟨nd, rfl⟩⟩; refine ⟨_, rfl, ?_⟩; (try (rw [drewN_self w31]; generalize hq_ : World.drewN w31 _ = w31; have n0_ : Aside0 (Kd.V k43 43 w31 w.heap.size (fun k_ => (P0_ k_ ∨ w.heap.size ≤ k_) ∧ some k_ ≠ (u8 : Value).ownBlock ∧ k_ ≠ gb102 ∧ k_ ≠ gb108) (.slice A12 y103.length c12) y103) := ⟨by rw [← hq_]; exact (by (with_reducible repeat (first | apply Kd.V_alloc | apply Kd.V_drewN | apply Kd.V_drew)); exact HO_0.out)⟩; have n1_ : Aside0 (Kd.R k45 45 w31 w.heap.size (fun k_ => (w.heap.size ≤ k_) ∧ k_ ≠ gb108) u8 x8_1) := ⟨by rw [← hq_]; exact (by (with_reducible repeat (first | apply Kd.R_alloc | apply Kd.R_drewN | apply Kd.R_drew)); exact HO_8.out)⟩; have n2_ : Aside0 (w31.heap[gb102]? = some (.cells #[.int .i64 ((rd_T43 x0_1 0).f0), .string ((rd_T43 x0_1 0).f1), .string ((rd_T43 x0_1 0).f2), .bool ((rd_T43 x0_1 0).f3), .bool ((rd_T43 x0_1 0).f4)] 43 (0, 0))) := ⟨by rw [← hq_]; exact (by (with_reducible repeat (first | refine blk_drewN ?_ _ | refine blk_drew ?_ | refine blk_alloc ?_ _)); exact BK102.out)⟩; have n3_ : Aside0 (w31.heap[gb108]? = some (.cells #[.int .i64 ((rd_T43 x0_1 0).f0), .string ((rd_T43 x0_1 0).f1), .string ((rd_T43 x0_1 0).f2), .bool ((rd_T43 x0_1 0).f3), .bool ((rd_T43 x0_1 0).f4), .slice none 0 0] 45 (0, 0))) := ⟨by rw [← hq_]; exact (by (with_reducible repeat (first | refine blk_drewN ?_ _ | refine blk_drew ?_ | refine blk_alloc ?_ _)); exact BK108.out)⟩; have n4_ : Aside0 (Below w.heap.size w w31) := ⟨by rw [← hq_]; exact (by repeat (first | (with_reducible first | exact HB.out | apply below_alloc | apply pw_below_drewN | apply below_drew1 | refine below_set ?_ GE102.out | refine below_set ?_ GE108.out) | exact HB.out))⟩; clear HO_0 HO_8 BK102 BK108 HB hq_; have HO_0 := n0_; have HO_8 := n1_; have BK102 := n2_; have BK108 := n3_; have HB := n4_; clear n0_ n1_ n2_ n3_ n4_))) | ((with_reducible refine gate_callee (f := 31) rfl ?_); refine goesL_ (some 42) rfl rfl Try.func31 (by kernel_rfl) rfl #[.slice A12 y103.length c12, .int .i64 t109, .int .i64 (wrap64 (a2 + 1))] rfl (by (try simp only [List.map_toArray, List.map_cons, List.map_nil]); first | done | rfl | (simp only [List.length_drop, List.length_take]; rfl)) ?_; (with_reducible refine (ih kj6 (by have := HK1.out; have := HJ6.out; omega) (fun k_ => ((P0_ k_ ∨ w.heap.size ≤ k_) ∧ (some k_ ≠ (u8 : Value).ownBlock ∧ (k_ ≠ gb102 ∧ k_ ≠ gb108)))) _ _ y103 t109 (wrap64 (a2 + 1)) t113 t116 _ ?side1 A25.out).mono ?_); (case side1 => exact HO_0.out); rintro e w33 ⟨v114, v117, rfl, ho0, ho1, hb⟩; refine ⟨_, rfl, ?_⟩; have n0_ := Aside0.mk (Kd.V_elder' (by (with_reducible repeat (first | apply Kd.V_alloc | apply Kd.V_drewN | apply Kd.V_drew)); exact HO_0.out) (Kd.R_base ho0) hb); have n1_ := Aside0.mk (Kd.R_elder' (by (with_reducible repeat (first | apply Kd.R_alloc | apply Kd.R_drewN | apply Kd.R_drew)); exact HO_8.out) (Kd.R_base ho0) hb); have n2_ := Aside0.mk (Kd.R_lower (Kd.R_newB (Kd.R_new' (Kd.R_newM (M := fun k_ => (w.heap.size ≤ k_)) (Kd.R_mono (ok' := fun k_ => True) ho0 (fun _ hk_ => trivial)) (below_size (by repeat (first | (with_reducible first | exact HB.out | apply below_alloc | apply pw_below_drewN | apply below_drew1 | refine below_set ?_ GE102.out | refine below_set ?_ GE108.out) | exact HB.out))) (fun k_ h_ => h_)) (Kd.R_lt (by (with_reducible repeat (first | apply Kd.R_alloc | apply Kd.R_drewN | apply Kd.R_drew)); exact HO_8.out))) (g := gb108) (o := .cells #[.int .i64 ((rd_T43 x0_1 0).f0), .string ((rd_T43 x0_1 0).f1), .string ((rd_T43 x0_1 0).f2), .bool ((rd_T43 x0_1 0).f3), .bool ((rd_T43 x0_1 0).f4), .slice none 0 0] 45 (0, 0)) (by (with_reducible repeat (first | refine blk_drewN ?_ _ | refine blk_drew ?_ | refine blk_alloc ?_ _)); exact BK108.out)) (below_size (by repeat (first | (with_reducible first | exact HB.out | apply below_alloc | apply pw_below_drewN | apply below_drew1 | refine below_set ?_ GE102.out | refine below_set ?_ GE108.out) | exact HB.out)))); have n3_ := Aside0.mk (Kd.V_lower (Kd.V_mono (ok' := fun k_ => (P0_ k_ ∨ w.heap.size ≤ k_) ∧ some k_ ≠ (v114 : Value).ownBlock ∧ some k_ ≠ (u8 : Value).ownBlock ∧ k_ ≠ gb102 ∧ k_ ≠ gb108) ho1 (fun k_ hk_ => ⟨Or.elim hk_.1 (fun hs_ => hs_.1) (fun hn_ => (.inr (Nat.le_trans (below_size (by repeat (first | (with_reducible first | exact HB.out | apply below_alloc | apply pw_below_drewN | apply below_drew1 | refine below_set ?_ GE102.out | refine below_set ?_ GE108.out) | exact HB.out))) hn_))), hk_.2, Or.elim hk_.1 (fun hs_ => hs_.2.1) (fun hn_ => (Kd.fresh' (Kd.R_lt (by (with_reducible repeat (first | apply Kd.R_alloc | apply Kd.R_drewN | apply Kd.R_drew)); exact HO_8.out)) k_ hn_)), Or.elim hk_.1 (fun hs_ => hs_.2.2.1) (fun hn_ => (Kd.freshB (g := gb102) (o := .cells #[.int .i64 ((rd_T43 x0_1 0).f0), .string ((rd_T43 x0_1 0).f1), .string ((rd_T43 x0_1 0).f2), .bool ((rd_T43 x0_1 0).f3), .bool ((rd_T43 x0_1 0).f4)] 43 (0, 0)) (by (with_reducible repeat (first | refine blk_drewN ?_ _ | refine blk_drew ?_ | refine blk_alloc ?_ _)); exact BK102.out) k_ hn_)), Or.elim hk_.1 (fun hs_ => hs_.2.2.2) (fun hn_ => (Kd.freshB (g := gb108) (o := .cells #[.int .i64 ((rd_T43 x0_1 0).f0), .string ((rd_T43 x0_1 0).f1), .string ((rd_T43 x0_1 0).f2), .bool ((rd_T43 x0_1 0).f3), .bool ((rd_T43 x0_1 0).f4), .slice none 0 0] 45 (0, 0)) (by (with_reducible repeat (first | refine blk_drewN ?_ _ | refine blk_drew ?_ | refine blk_alloc ?_ _)); exact BK108.out) k_ hn_))⟩)) (below_size (by repeat (first | (with_reducible first | exact HB.out | apply below_alloc | apply pw_below_drewN | apply below_drew1 | refine below_set ?_ GE102.out | refine below_set ?_ GE108.out) | exact HB.out)))); have n4_ := Aside0.mk (blk_below (g := gb102) (o := .cells #[.int .i64 ((rd_T43 x0_1 0).f0), .string ((rd_T43 x0_1 0).f1), .string ((rd_T43 x0_1 0).f2), .bool ((rd_T43 x0_1 0).f3), .bool ((rd_T43 x0_1 0).f4)] 43 (0, 0)) (by (with_reducible repeat (first | refine blk_drewN ?_ _ | refine blk_drew ?_ | refine blk_alloc ?_ _)); exact BK102.out) hb); have n5_ := Aside0.mk (blk_below (g := gb108) (o := .cells #[.int .i64 ((rd_T43 x0_1 0).f0), .string ((rd_T43 x0_1 0).f1), .string ((rd_T43 x0_1 0).f2), .bool ((rd_T43 x0_1 0).f3), .bool ((rd_T43 x0_1 0).f4), .slice none 0 0] 45 (0, 0)) (by (with_reducible repeat (first | refine blk_drewN ?_ _ | refine blk_drew ?_ | refine blk_alloc ?_ _)); exact BK108.out) hb); have n6_ := Aside0.mk (below_step (by repeat (first | (with_reducible first | exact HB.out | apply below_alloc | apply pw_below_drewN | apply below_drew1 | refine below_set ?_ GE102.out | refine below_set ?_ GE108.out) | exact HB.out)) hb); clear HO_0; clear HO_8; clear BK102; clear BK108; clear HB; have HO_0 := n0_; have HO_8 := n1_; have HO115 := n2_; have HO118 := n3_; have BK102 := n4_; have BK108 := n5_; have HB := n6_; clear n0_ n1_ n2_ n3_ n4_ n5_ n6_; (try clear hb); (try clear hb2); (try clear hk); (try clear hi); (try clear ho0); (try clear ho1); obtain ⟨Ao34, co34, eo34⟩ := Kd.R_slice HO115.out; subst eo34; have hcz35_0 : w33.cell? ⟨gb108, 0, none⟩ = some (.int .i64 ((rd_T43 x0_1 0).f0)) := (blk_cell BK108.out 0).trans rfl; have hcz35_1 : w33.cell? ⟨gb108, 1, none⟩ = some (.string ((rd_T43 x0_1 0).f1)) := (blk_cell BK108.out 1).trans rfl; have hcz35_2 : w33.cell? ⟨gb108, 2, none⟩ = some (.string ((rd_T43 x0_1 0).f2)) := (blk_cell BK108.out 2).trans rfl; have hcz35_3 : w33.cell? ⟨gb108, 3, none⟩ = some (.bool ((rd_T43 x0_1 0).f3)) := (blk_cell BK108.out 3).trans rfl; have hcz35_4 : w33.cell? ⟨gb108, 4, none⟩ = some (.bool ((rd_T43 x0_1 0).f4)) := (blk_cell BK108.out 4).trans rfl; have hcz35_5 : w33.cell? ⟨gb108, 5, none⟩ = some (.slice none 0 0) := (blk_cell BK108.out 5).trans rfl; have hfz35_0 := blk_frozen BK108.out 0; have hfz35_1 := blk_frozen BK108.out 1; have hfz35_2 := blk_frozen BK108.out 2; have hfz35_3 := blk_frozen BK108.out 3; have hfz35_4 := blk_frozen BK108.out 4; have hfz35_5 := blk_frozen BK108.out 5))
                      go_roundg kj6
                      case measure => have := HK1.out; have := HJ6.out; omega
                      case rel => exact ⟨(t116), (x8_1), H', ⟨by have := HK1.out; have := HJ6.out; omega⟩, ⟨by (with_reducible repeat (first | apply Kd.V_alloc | apply Kd.V_drewN | apply Kd.V_drew)); exact Kd.V_mono (Kd.V_far (p := ⟨gb108, 5, none⟩) (Kd.V_mono HO118.out (fun k_ hk => (⟨hk, hk.2.2.2.2⟩ : _ ∧ k_ ≠ gb108))) (fun _ hk => hk.2) (.slice Ao34 t113.length co34)) (fun _ hk => ⟨hk.1.1, hk.1.2.2.1⟩)⟩, ⟨by (with_reducible repeat (first | apply Kd.R_alloc | apply Kd.R_drewN | apply Kd.R_drew)); exact Kd.R_mono (Kd.R_far (p := ⟨gb108, 5, none⟩) (Kd.R_mono HO_8.out (fun k_ hk => (⟨hk, hk.1.2⟩ : _ ∧ k_ ≠ gb108))) (fun _ hk => hk.2) (.slice Ao34 t113.length co34)) (fun _ hk => hk.1.1.1)⟩, ⟨by repeat (first | (with_reducible first | exact HB.out | apply below_alloc | apply pw_below_drewN | apply below_drew1 | refine below_set ?_ GE102.out | refine below_set ?_ GE108.out) | exact HB.out)⟩⟩
                    · rw [if_neg c26] at H
                      have c26b0 : decide (64 < (wrap64 (a2 + 1))) = false := decide_eq_false c26
                      clear c26
                      by_cases c36 : x8_1.length < 1954687338268
                      · rw [if_pos c36] at H
                        have LMc36 := Aside0.mk c36
                        clear c36
                        obtain ⟨y119, hy119⟩ : ∃ y_ : List (S45), y_ = (x8_1 ++ [(⟨(⟨((rd_T43 x0_1 0).f0), ((rd_T43 x0_1 0).f1), ((rd_T43 x0_1 0).f2), ((rd_T43 x0_1 0).f3), ((rd_T43 x0_1 0).f4)⟩ : S43), t113⟩ : S45)]) := ⟨_, rfl⟩
                        replace H : (gouacheref03_some.l0 kj6 t116 a1 a2 y119) = some (r1, r2) := by first | (rw [hy119]; with_reducible exact H) | (have H2_ := (Option.bind_some _ _).symm.trans H; rw [hy119]; with_reducible exact H2_) | (have H2_ := (Option.bind_some _ _).symm.trans H; with_reducible exact H2_) | with_reducible exact H | (rw [hy119]; exact H) | exact H
                        have Ny119 := Aside0.mk hy119
                        clear hy119
                        have H' := Aside0.mk H
                        clear H
                        have hcz37_0 : wc.cell? ⟨gb102, 0, none⟩ = some (.int .i64 ((rd_T43 x0_1 0).f0)) := (blk_cell BK102.out 0).trans rfl
                        have hcz37_1 : wc.cell? ⟨gb102, 1, none⟩ = some (.string ((rd_T43 x0_1 0).f1)) := (blk_cell BK102.out 1).trans rfl
                        have hcz37_2 : wc.cell? ⟨gb102, 2, none⟩ = some (.string ((rd_T43 x0_1 0).f2)) := (blk_cell BK102.out 2).trans rfl
                        have hcz37_3 : wc.cell? ⟨gb102, 3, none⟩ = some (.bool ((rd_T43 x0_1 0).f3)) := (blk_cell BK102.out 3).trans rfl
                        have hcz37_4 : wc.cell? ⟨gb102, 4, none⟩ = some (.bool ((rd_T43 x0_1 0).f4)) := (blk_cell BK102.out 4).trans rfl
                        have hfz37_0 := blk_frozen BK102.out 0
                        have hfz37_1 := blk_frozen BK102.out 1
                        have hfz37_2 := blk_frozen BK102.out 2
                        have hfz37_3 := blk_frozen BK102.out 3
                        have hfz37_4 := blk_frozen BK102.out 4
                        go_wp2_with (first | ((with_reducible refine gate_dst (N := 10) rfl ?_); refine box_event ?hg (N := 10) ?hd (cs := #[.int .i64 0, .string (⟨#[]⟩ : ByteArray), .string (⟨#[]⟩ : ByteArray), .bool false, .bool false, .slice none 0 0]) (t := 45) ?hr ?_; (case hd => rfl); (case hg => rfl); (case hr => first | (go_simp; done) | (go_simp; rfl)); intro gb108 hg w38 hbox hb; have n0_ := Aside0.mk (Kd.V_below (Kd.V_elderB (by (with_reducible repeat (first | apply Kd.V_alloc | apply Kd.V_drewN | apply Kd.V_drew)); exact HO_0.out) gb108 (Nat.le_of_eq hg.symm)) hb); have n1_ := Aside0.mk (Kd.R_below (Kd.R_elderB (by (with_reducible repeat (first | apply Kd.R_alloc | apply Kd.R_drewN | apply Kd.R_drew)); exact HO_8.out) gb108 (Nat.le_of_eq hg.symm)) hb); have n2_ := Aside0.mk (blk_below (g := gb102) (o := .cells #[.int .i64 ((rd_T43 x0_1 0).f0), .string ((rd_T43 x0_1 0).f1), .string ((rd_T43 x0_1 0).f2), .bool ((rd_T43 x0_1 0).f3), .bool ((rd_T43 x0_1 0).f4)] 43 (0, 0)) (by (with_reducible repeat (first | refine blk_drewN ?_ _ | refine blk_drew ?_ | refine blk_alloc ?_ _)); exact BK102.out) hb); have n3_ := Aside0.mk (below_step (by repeat (first | (with_reducible first | exact HB.out | apply below_alloc | apply pw_below_drewN | apply below_drew1 | refine below_set ?_ GE102.out) | exact HB.out)) hb); have n4_ := Aside0.mk (hbox); have n5_ := Aside0.mk ((by rw [hg]; exact (below_size (by repeat (first | (with_reducible first | exact HB.out | apply below_alloc | apply pw_below_drewN | apply below_drew1 | refine below_set ?_ GE102.out) | exact HB.out))) : w.heap.size ≤ gb108)); have n6_ := Aside0.mk ((by rw [hg]; exact (below_size (by repeat (first | (with_reducible first | exact HB.out | apply below_alloc | apply pw_below_drewN | apply below_drew1 | refine below_set ?_ GE102.out) | exact HB.out))) : w.heap.size ≤ gb108)); have n7_ := Aside0.mk ((by rw [hg]; exact Nat.ne_of_lt (blk_lt (g := gb102) (o := .cells #[.int .i64 ((rd_T43 x0_1 0).f0), .string ((rd_T43 x0_1 0).f1), .string ((rd_T43 x0_1 0).f2), .bool ((rd_T43 x0_1 0).f3), .bool ((rd_T43 x0_1 0).f4)] 43 (0, 0)) (by (with_reducible repeat (first | refine blk_drewN ?_ _ | refine blk_drew ?_ | refine blk_alloc ?_ _)); exact BK102.out)) : gb102 ≠ gb108)); have n8_ := Aside0.mk ((by rw [hg]; exact Nat.ne_of_gt (blk_lt (g := gb102) (o := .cells #[.int .i64 ((rd_T43 x0_1 0).f0), .string ((rd_T43 x0_1 0).f1), .string ((rd_T43 x0_1 0).f2), .bool ((rd_T43 x0_1 0).f3), .bool ((rd_T43 x0_1 0).f4)] 43 (0, 0)) (by (with_reducible repeat (first | refine blk_drewN ?_ _ | refine blk_drew ?_ | refine blk_alloc ?_ _)); exact BK102.out)) : gb108 ≠ gb102)); clear HO_0; clear HO_8; clear BK102; clear HB; have HO_0 := n0_; have HO_8 := n1_; have BK102 := n2_; have HB := n3_; have BK108 := n4_; have GW108 := n5_; have GE108 := n6_; have NB102_108 := n7_; have NB108_102 := n8_; clear n0_ n1_ n2_ n3_ n4_ n5_ n6_ n7_ n8_; clear hb hbox hg; have hnb39 := NB108_102.out; have hnc39 := NB102_108.out; have hcz40_0 : w38.cell? ⟨gb108, 0, none⟩ = some (.int .i64 0) := (blk_cell BK108.out 0).trans rfl; have hcz40_1 : w38.cell? ⟨gb108, 1, none⟩ = some (.string (⟨#[]⟩ : ByteArray)) := (blk_cell BK108.out 1).trans rfl; have hcz40_2 : w38.cell? ⟨gb108, 2, none⟩ = some (.string (⟨#[]⟩ : ByteArray)) := (blk_cell BK108.out 2).trans rfl; have hcz40_3 : w38.cell? ⟨gb108, 3, none⟩ = some (.bool false) := (blk_cell BK108.out 3).trans rfl; have hcz40_4 : w38.cell? ⟨gb108, 4, none⟩ = some (.bool false) := (blk_cell BK108.out 4).trans rfl; have hcz40_5 : w38.cell? ⟨gb108, 5, none⟩ = some (.slice none 0 0) := (blk_cell BK108.out 5).trans rfl; have hfz40_0 := blk_frozen BK108.out 0; have hfz40_1 := blk_frozen BK108.out 1; have hfz40_2 := blk_frozen BK108.out 2; have hfz40_3 := blk_frozen BK108.out 3; have hfz40_4 := blk_frozen BK108.out 4; have hfz40_5 := blk_frozen BK108.out 5) | ((with_reducible refine gate_store (t := 45) (p := 10) rfl ?_); refine store_event (t := 45) (p := 10) (v := ?vo_w41) (w1 := ((((((w38.setCell ⟨gb108, 0, none⟩ (.int .i64 ((rd_T43 x0_1 0).f0))).setCell ⟨gb108, 1, none⟩ (.string ((rd_T43 x0_1 0).f1))).setCell ⟨gb108, 2, none⟩ (.string ((rd_T43 x0_1 0).f2))).setCell ⟨gb108, 3, none⟩ (.bool ((rd_T43 x0_1 0).f3))).setCell ⟨gb108, 4, none⟩ (.bool ((rd_T43 x0_1 0).f4))).setCell ⟨gb108, 5, none⟩ (.slice none 0 0))) ?hg ?ho ?hn ?hr ?_; (case ho => rfl); (case hg => rfl); (case hn => rfl); (case hr => first | (go_simp; done) | (go_simp; rfl)); intro w41 hw; have n0_ : Aside0 (Kd.V k43 43 w41 w.heap.size (fun k_ => (P0_ k_ ∨ w.heap.size ≤ k_) ∧ some k_ ≠ (u8 : Value).ownBlock ∧ k_ ≠ gb102 ∧ k_ ≠ gb108) (.slice A12 y103.length c12) y103) := ⟨(by rw [hw]; exact (by (with_reducible repeat (first | apply Kd.V_alloc | apply Kd.V_drewN | apply Kd.V_drew)); exact Kd.V_mono (Kd.V_far (p := ⟨gb108, 5, none⟩) (Kd.V_far (p := ⟨gb108, 4, none⟩) (Kd.V_far (p := ⟨gb108, 3, none⟩) (Kd.V_far (p := ⟨gb108, 2, none⟩) (Kd.V_far (p := ⟨gb108, 1, none⟩) (Kd.V_far (p := ⟨gb108, 0, none⟩) (Kd.V_mono HO_0.out (fun k_ hk => (⟨hk, hk.2⟩ : _ ∧ k_ ≠ gb108))) (fun _ hk => hk.2) (.int .i64 ((rd_T43 x0_1 0).f0))) (fun _ hk => hk.2) (.string ((rd_T43 x0_1 0).f1))) (fun _ hk => hk.2) (.string ((rd_T43 x0_1 0).f2))) (fun _ hk => hk.2) (.bool ((rd_T43 x0_1 0).f3))) (fun _ hk => hk.2) (.bool ((rd_T43 x0_1 0).f4))) (fun _ hk => hk.2) (.slice none 0 0)) (fun _ hk => ⟨hk.1.1.1, ⟨hk.1.1.2.1, ⟨hk.1.1.2.2, hk.1.2⟩⟩⟩)))⟩; have n1_ : Aside0 (Kd.R k45 45 w41 w.heap.size (fun k_ => (w.heap.size ≤ k_) ∧ k_ ≠ gb108) u8 x8_1) := ⟨(by rw [hw]; exact (by (with_reducible repeat (first | apply Kd.R_alloc | apply Kd.R_drewN | apply Kd.R_drew)); exact Kd.R_mono (Kd.R_far (p := ⟨gb108, 5, none⟩) (Kd.R_far (p := ⟨gb108, 4, none⟩) (Kd.R_far (p := ⟨gb108, 3, none⟩) (Kd.R_far (p := ⟨gb108, 2, none⟩) (Kd.R_far (p := ⟨gb108, 1, none⟩) (Kd.R_far (p := ⟨gb108, 0, none⟩) (Kd.R_mono HO_8.out (fun k_ hk => (⟨hk, hk.2⟩ : _ ∧ k_ ≠ gb108))) (fun _ hk => hk.2) (.int .i64 ((rd_T43 x0_1 0).f0))) (fun _ hk => hk.2) (.string ((rd_T43 x0_1 0).f1))) (fun _ hk => hk.2) (.string ((rd_T43 x0_1 0).f2))) (fun _ hk => hk.2) (.bool ((rd_T43 x0_1 0).f3))) (fun _ hk => hk.2) (.bool ((rd_T43 x0_1 0).f4))) (fun _ hk => hk.2) (.slice none 0 0)) (fun _ hk => ⟨hk.1.1, hk.1.2⟩)))⟩; have n2_ : Aside0 (w41.heap[gb102]? = some (.cells #[.int .i64 ((rd_T43 x0_1 0).f0), .string ((rd_T43 x0_1 0).f1), .string ((rd_T43 x0_1 0).f2), .bool ((rd_T43 x0_1 0).f3), .bool ((rd_T43 x0_1 0).f4)] 43 (0, 0))) := ⟨(by rw [hw]; exact (by (with_reducible repeat (first | refine blk_drewN ?_ _ | refine blk_drew ?_ | refine blk_alloc ?_ _)); refine blk_far ?_ NB102_108.out _; (with_reducible repeat (first | refine blk_drewN ?_ _ | refine blk_drew ?_ | refine blk_alloc ?_ _)); refine blk_far ?_ NB102_108.out _; (with_reducible repeat (first | refine blk_drewN ?_ _ | refine blk_drew ?_ | refine blk_alloc ?_ _)); refine blk_far ?_ NB102_108.out _; (with_reducible repeat (first | refine blk_drewN ?_ _ | refine blk_drew ?_ | refine blk_alloc ?_ _)); refine blk_far ?_ NB102_108.out _; (with_reducible repeat (first | refine blk_drewN ?_ _ | refine blk_drew ?_ | refine blk_alloc ?_ _)); refine blk_far ?_ NB102_108.out _; (with_reducible repeat (first | refine blk_drewN ?_ _ | refine blk_drew ?_ | refine blk_alloc ?_ _)); refine blk_far ?_ NB102_108.out _; (with_reducible repeat (first | refine blk_drewN ?_ _ | refine blk_drew ?_ | refine blk_alloc ?_ _)); exact BK102.out))⟩; have n3_ : Aside0 (w41.heap[gb108]? = some (.cells #[.int .i64 ((rd_T43 x0_1 0).f0), .string ((rd_T43 x0_1 0).f1), .string ((rd_T43 x0_1 0).f2), .bool ((rd_T43 x0_1 0).f3), .bool ((rd_T43 x0_1 0).f4), .slice none 0 0] 45 (0, 0))) := ⟨(by rw [hw]; exact (by (with_reducible repeat (first | refine blk_drewN ?_ _ | refine blk_drew ?_ | refine blk_alloc ?_ _)); refine blk_put (cs := #[.int .i64 ((rd_T43 x0_1 0).f0), .string ((rd_T43 x0_1 0).f1), .string ((rd_T43 x0_1 0).f2), .bool ((rd_T43 x0_1 0).f3), .bool ((rd_T43 x0_1 0).f4), .slice none 0 0]) ?_ 5 _ rfl; (with_reducible repeat (first | refine blk_drewN ?_ _ | refine blk_drew ?_ | refine blk_alloc ?_ _)); refine blk_put (cs := #[.int .i64 ((rd_T43 x0_1 0).f0), .string ((rd_T43 x0_1 0).f1), .string ((rd_T43 x0_1 0).f2), .bool ((rd_T43 x0_1 0).f3), .bool false, .slice none 0 0]) ?_ 4 _ rfl; (with_reducible repeat (first | refine blk_drewN ?_ _ | refine blk_drew ?_ | refine blk_alloc ?_ _)); refine blk_put (cs := #[.int .i64 ((rd_T43 x0_1 0).f0), .string ((rd_T43 x0_1 0).f1), .string ((rd_T43 x0_1 0).f2), .bool false, .bool false, .slice none 0 0]) ?_ 3 _ rfl; (with_reducible repeat (first | refine blk_drewN ?_ _ | refine blk_drew ?_ | refine blk_alloc ?_ _)); refine blk_put (cs := #[.int .i64 ((rd_T43 x0_1 0).f0), .string ((rd_T43 x0_1 0).f1), .string (⟨#[]⟩ : ByteArray), .bool false, .bool false, .slice none 0 0]) ?_ 2 _ rfl; (with_reducible repeat (first | refine blk_drewN ?_ _ | refine blk_drew ?_ | refine blk_alloc ?_ _)); refine blk_put (cs := #[.int .i64 ((rd_T43 x0_1 0).f0), .string (⟨#[]⟩ : ByteArray), .string (⟨#[]⟩ : ByteArray), .bool false, .bool false, .slice none 0 0]) ?_ 1 _ rfl; (with_reducible repeat (first | refine blk_drewN ?_ _ | refine blk_drew ?_ | refine blk_alloc ?_ _)); refine blk_put (cs := #[.int .i64 0, .string (⟨#[]⟩ : ByteArray), .string (⟨#[]⟩ : ByteArray), .bool false, .bool false, .slice none 0 0]) ?_ 0 _ rfl; (with_reducible repeat (first | refine blk_drewN ?_ _ | refine blk_drew ?_ | refine blk_alloc ?_ _)); exact BK108.out))⟩; have n4_ : Aside0 (Below w.heap.size w w41) := ⟨(by rw [hw]; exact (by repeat (first | (with_reducible first | exact HB.out | apply below_alloc | apply pw_below_drewN | apply below_drew1 | refine below_set ?_ GE102.out | refine below_set ?_ GE108.out) | exact HB.out)))⟩; clear hw; clear HO_0; clear HO_8; clear BK102; clear BK108; clear HB; have HO_0 := n0_; have HO_8 := n1_; have BK102 := n2_; have BK108 := n3_; have HB := n4_; clear n0_ n1_ n2_ n3_ n4_; have hcz42_0 : w41.cell? ⟨gb102, 0, none⟩ = some (.int .i64 ((rd_T43 x0_1 0).f0)) := (blk_cell BK102.out 0).trans rfl; have hcz42_1 : w41.cell? ⟨gb102, 1, none⟩ = some (.string ((rd_T43 x0_1 0).f1)) := (blk_cell BK102.out 1).trans rfl; have hcz42_2 : w41.cell? ⟨gb102, 2, none⟩ = some (.string ((rd_T43 x0_1 0).f2)) := (blk_cell BK102.out 2).trans rfl; have hcz42_3 : w41.cell? ⟨gb102, 3, none⟩ = some (.bool ((rd_T43 x0_1 0).f3)) := (blk_cell BK102.out 3).trans rfl; have hcz42_4 : w41.cell? ⟨gb102, 4, none⟩ = some (.bool ((rd_T43 x0_1 0).f4)) := (blk_cell BK102.out 4).trans rfl; have hfz42_0 := blk_frozen BK102.out 0; have hfz42_1 := blk_frozen BK102.out 1; have hfz42_2 := blk_frozen BK102.out 2; have hfz42_3 := blk_frozen BK102.out 3; have hfz42_4 := blk_frozen BK102.out 4) | ((with_reducible refine gate_callee (f := 39) rfl ?_); refine goesL_ (some 34) rfl rfl Try.func39 (by kernel_rfl) rfl #[.int .i64 ((rd_T43 x0_1 0).f0)] rfl (by (try simp only [List.map_toArray, List.map_cons, List.map_nil]); first | done | rfl | (simp only [List.length_drop, List.length_take]; rfl)) ?_; (with_reducible refine (gouacheref03_end.calls kj6 ((rd_T43 x0_1 0).f0) t109 _ A16.out).mono ?_); rintro e w' ⟨rfl, ⟨nd, rfl⟩⟩; refine ⟨_, rfl, ?_⟩; (try (rw [drewN_self w41]; generalize hq_ : World.drewN w41 _ = w41; have n0_ : Aside0 (Kd.V k43 43 w41 w.heap.size (fun k_ => (P0_ k_ ∨ w.heap.size ≤ k_) ∧ some k_ ≠ (u8 : Value).ownBlock ∧ k_ ≠ gb102 ∧ k_ ≠ gb108) (.slice A12 y103.length c12) y103) := ⟨by rw [← hq_]; exact (by (with_reducible repeat (first | apply Kd.V_alloc | apply Kd.V_drewN | apply Kd.V_drew)); exact HO_0.out)⟩; have n1_ : Aside0 (Kd.R k45 45 w41 w.heap.size (fun k_ => (w.heap.size ≤ k_) ∧ k_ ≠ gb108) u8 x8_1) := ⟨by rw [← hq_]; exact (by (with_reducible repeat (first | apply Kd.R_alloc | apply Kd.R_drewN | apply Kd.R_drew)); exact HO_8.out)⟩; have n2_ : Aside0 (w41.heap[gb102]? = some (.cells #[.int .i64 ((rd_T43 x0_1 0).f0), .string ((rd_T43 x0_1 0).f1), .string ((rd_T43 x0_1 0).f2), .bool ((rd_T43 x0_1 0).f3), .bool ((rd_T43 x0_1 0).f4)] 43 (0, 0))) := ⟨by rw [← hq_]; exact (by (with_reducible repeat (first | refine blk_drewN ?_ _ | refine blk_drew ?_ | refine blk_alloc ?_ _)); exact BK102.out)⟩; have n3_ : Aside0 (w41.heap[gb108]? = some (.cells #[.int .i64 ((rd_T43 x0_1 0).f0), .string ((rd_T43 x0_1 0).f1), .string ((rd_T43 x0_1 0).f2), .bool ((rd_T43 x0_1 0).f3), .bool ((rd_T43 x0_1 0).f4), .slice none 0 0] 45 (0, 0))) := ⟨by rw [← hq_]; exact (by (with_reducible repeat (first | refine blk_drewN ?_ _ | refine blk_drew ?_ | refine blk_alloc ?_ _)); exact BK108.out)⟩; have n4_ : Aside0 (Below w.heap.size w w41) := ⟨by rw [← hq_]; exact (by repeat (first | (with_reducible first | exact HB.out | apply below_alloc | apply pw_below_drewN | apply below_drew1 | refine below_set ?_ GE102.out | refine below_set ?_ GE108.out) | exact HB.out))⟩; clear HO_0 HO_8 BK102 BK108 HB hq_; have HO_0 := n0_; have HO_8 := n1_; have BK102 := n2_; have BK108 := n3_; have HB := n4_; clear n0_ n1_ n2_ n3_ n4_))) | ((with_reducible refine gate_callee (f := 31) rfl ?_); refine goesL_ (some 42) rfl rfl Try.func31 (by kernel_rfl) rfl #[.slice A12 y103.length c12, .int .i64 t109, .int .i64 (wrap64 (a2 + 1))] rfl (by (try simp only [List.map_toArray, List.map_cons, List.map_nil]); first | done | rfl | (simp only [List.length_drop, List.length_take]; rfl)) ?_; (with_reducible refine (ih kj6 (by have := HK1.out; have := HJ6.out; omega) (fun k_ => ((P0_ k_ ∨ w.heap.size ≤ k_) ∧ (some k_ ≠ (u8 : Value).ownBlock ∧ (k_ ≠ gb102 ∧ k_ ≠ gb108)))) _ _ y103 t109 (wrap64 (a2 + 1)) t113 t116 _ ?side1 A25.out).mono ?_); (case side1 => exact HO_0.out); rintro e w43 ⟨v114, v117, rfl, ho0, ho1, hb⟩; refine ⟨_, rfl, ?_⟩; have n0_ := Aside0.mk (Kd.V_elder' (by (with_reducible repeat (first | apply Kd.V_alloc | apply Kd.V_drewN | apply Kd.V_drew)); exact HO_0.out) (Kd.R_base ho0) hb); have n1_ := Aside0.mk (Kd.R_elder' (by (with_reducible repeat (first | apply Kd.R_alloc | apply Kd.R_drewN | apply Kd.R_drew)); exact HO_8.out) (Kd.R_base ho0) hb); have n2_ := Aside0.mk (Kd.R_lower (Kd.R_newB (Kd.R_new' (Kd.R_newM (M := fun k_ => (w.heap.size ≤ k_)) (Kd.R_mono (ok' := fun k_ => True) ho0 (fun _ hk_ => trivial)) (below_size (by repeat (first | (with_reducible first | exact HB.out | apply below_alloc | apply pw_below_drewN | apply below_drew1 | refine below_set ?_ GE102.out | refine below_set ?_ GE108.out) | exact HB.out))) (fun k_ h_ => h_)) (Kd.R_lt (by (with_reducible repeat (first | apply Kd.R_alloc | apply Kd.R_drewN | apply Kd.R_drew)); exact HO_8.out))) (g := gb108) (o := .cells #[.int .i64 ((rd_T43 x0_1 0).f0), .string ((rd_T43 x0_1 0).f1), .string ((rd_T43 x0_1 0).f2), .bool ((rd_T43 x0_1 0).f3), .bool ((rd_T43 x0_1 0).f4), .slice none 0 0] 45 (0, 0)) (by (with_reducible repeat (first | refine blk_drewN ?_ _ | refine blk_drew ?_ | refine blk_alloc ?_ _)); exact BK108.out)) (below_size (by repeat (first | (with_reducible first | exact HB.out | apply below_alloc | apply pw_below_drewN | apply below_drew1 | refine below_set ?_ GE102.out | refine below_set ?_ GE108.out) | exact HB.out)))); have n3_ := Aside0.mk (Kd.V_lower (Kd.V_mono (ok' := fun k_ => (P0_ k_ ∨ w.heap.size ≤ k_) ∧ some k_ ≠ (v114 : Value).ownBlock ∧ some k_ ≠ (u8 : Value).ownBlock ∧ k_ ≠ gb102 ∧ k_ ≠ gb108) ho1 (fun k_ hk_ => ⟨Or.elim hk_.1 (fun hs_ => hs_.1) (fun hn_ => (.inr (Nat.le_trans (below_size (by repeat (first | (with_reducible first | exact HB.out | apply below_alloc | apply pw_below_drewN | apply below_drew1 | refine below_set ?_ GE102.out | refine below_set ?_ GE108.out) | exact HB.out))) hn_))), hk_.2, Or.elim hk_.1 (fun hs_ => hs_.2.1) (fun hn_ => (Kd.fresh' (Kd.R_lt (by (with_reducible repeat (first | apply Kd.R_alloc | apply Kd.R_drewN | apply Kd.R_drew)); exact HO_8.out)) k_ hn_)), Or.elim hk_.1 (fun hs_ => hs_.2.2.1) (fun hn_ => (Kd.freshB (g := gb102) (o := .cells #[.int .i64 ((rd_T43 x0_1 0).f0), .string ((rd_T43 x0_1 0).f1), .string ((rd_T43 x0_1 0).f2), .bool ((rd_T43 x0_1 0).f3), .bool ((rd_T43 x0_1 0).f4)] 43 (0, 0)) (by (with_reducible repeat (first | refine blk_drewN ?_ _ | refine blk_drew ?_ | refine blk_alloc ?_ _)); exact BK102.out) k_ hn_)), Or.elim hk_.1 (fun hs_ => hs_.2.2.2) (fun hn_ => (Kd.freshB (g := gb108) (o := .cells #[.int .i64 ((rd_T43 x0_1 0).f0), .string ((rd_T43 x0_1 0).f1), .string ((rd_T43 x0_1 0).f2), .bool ((rd_T43 x0_1 0).f3), .bool ((rd_T43 x0_1 0).f4), .slice none 0 0] 45 (0, 0)) (by (with_reducible repeat (first | refine blk_drewN ?_ _ | refine blk_drew ?_ | refine blk_alloc ?_ _)); exact BK108.out) k_ hn_))⟩)) (below_size (by repeat (first | (with_reducible first | exact HB.out | apply below_alloc | apply pw_below_drewN | apply below_drew1 | refine below_set ?_ GE102.out | refine below_set ?_ GE108.out) | exact HB.out)))); have n4_ := Aside0.mk (blk_below (g := gb102) (o := .cells #[.int .i64 ((rd_T43 x0_1 0).f0), .string ((rd_T43 x0_1 0).f1), .string ((rd_T43 x0_1 0).f2), .bool ((rd_T43 x0_1 0).f3), .bool ((rd_T43 x0_1 0).f4)] 43 (0, 0)) (by (with_reducible repeat (first | refine blk_drewN ?_ _ | refine blk_drew ?_ | refine blk_alloc ?_ _)); exact BK102.out) hb); have n5_ := Aside0.mk (blk_below (g := gb108) (o := .cells #[.int .i64 ((rd_T43 x0_1 0).f0), .string ((rd_T43 x0_1 0).f1), .string ((rd_T43 x0_1 0).f2), .bool ((rd_T43 x0_1 0).f3), .bool ((rd_T43 x0_1 0).f4), .slice none 0 0] 45 (0, 0)) (by (with_reducible repeat (first | refine blk_drewN ?_ _ | refine blk_drew ?_ | refine blk_alloc ?_ _)); exact BK108.out) hb); have n6_ := Aside0.mk (below_step (by repeat (first | (with_reducible first | exact HB.out | apply below_alloc | apply pw_below_drewN | apply below_drew1 | refine below_set ?_ GE102.out | refine below_set ?_ GE108.out) | exact HB.out)) hb); clear HO_0; clear HO_8; clear BK102; clear BK108; clear HB; have HO_0 := n0_; have HO_8 := n1_; have HO115 := n2_; have HO118 := n3_; have BK102 := n4_; have BK108 := n5_; have HB := n6_; clear n0_ n1_ n2_ n3_ n4_ n5_ n6_; (try clear hb); (try clear hb2); (try clear hk); (try clear hi); (try clear ho0); (try clear ho1); obtain ⟨Ao44, co44, eo44⟩ := Kd.R_slice HO115.out; subst eo44; have hcz45_0 : w43.cell? ⟨gb108, 0, none⟩ = some (.int .i64 ((rd_T43 x0_1 0).f0)) := (blk_cell BK108.out 0).trans rfl; have hcz45_1 : w43.cell? ⟨gb108, 1, none⟩ = some (.string ((rd_T43 x0_1 0).f1)) := (blk_cell BK108.out 1).trans rfl; have hcz45_2 : w43.cell? ⟨gb108, 2, none⟩ = some (.string ((rd_T43 x0_1 0).f2)) := (blk_cell BK108.out 2).trans rfl; have hcz45_3 : w43.cell? ⟨gb108, 3, none⟩ = some (.bool ((rd_T43 x0_1 0).f3)) := (blk_cell BK108.out 3).trans rfl; have hcz45_4 : w43.cell? ⟨gb108, 4, none⟩ = some (.bool ((rd_T43 x0_1 0).f4)) := (blk_cell BK108.out 4).trans rfl; have hcz45_5 : w43.cell? ⟨gb108, 5, none⟩ = some (.slice none 0 0) := (blk_cell BK108.out 5).trans rfl; have hfz45_0 := blk_frozen BK108.out 0; have hfz45_1 := blk_frozen BK108.out 1; have hfz45_2 := blk_frozen BK108.out 2; have hfz45_3 := blk_frozen BK108.out 3; have hfz45_4 := blk_frozen BK108.out 4; have hfz45_5 := blk_frozen BK108.out 5) | ((with_reducible refine gate_store (t := 25) (p := 45) rfl ?_); refine store_event (t := 25) (p := 45) (v := ?vo_w46) (w1 := (w43.setCell ⟨gb108, 5, none⟩ (.slice Ao44 t113.length co44))) ?hg ?ho ?hn ?hr ?_; (case ho => rfl); (case hg => rfl); (case hn => rfl); (case hr => first | (go_simp; done) | (go_simp; rfl)); intro w46 hw; have n0_ : Aside0 (Kd.V k43 43 w46 w.heap.size (fun k_ => (P0_ k_ ∨ w.heap.size ≤ k_) ∧ some k_ ≠ (u8 : Value).ownBlock ∧ some k_ ≠ (.slice Ao44 t113.length co44 : Value).ownBlock ∧ k_ ≠ gb102 ∧ k_ ≠ gb108) (.slice A12 y103.length c12) y103) := ⟨(by rw [hw]; exact (by (with_reducible repeat (first | apply Kd.V_alloc | apply Kd.V_drewN | apply Kd.V_drew)); exact Kd.V_mono (Kd.V_far (p := ⟨gb108, 5, none⟩) (Kd.V_mono HO_0.out (fun k_ hk => (⟨hk, hk.1.2.2.2⟩ : _ ∧ k_ ≠ gb108))) (fun _ hk => hk.2) (.slice Ao44 t113.length co44)) (fun _ hk => ⟨hk.1.1.1, ⟨hk.1.1.2.1, ⟨hk.1.2, ⟨hk.1.1.2.2.1, hk.1.1.2.2.2⟩⟩⟩⟩)))⟩; have n1_ : Aside0 (Kd.R k45 45 w46 w.heap.size (fun k_ => (w.heap.size ≤ k_) ∧ some k_ ≠ (.slice Ao44 t113.length co44 : Value).ownBlock ∧ k_ ≠ gb108) u8 x8_1) := ⟨(by rw [hw]; exact (by (with_reducible repeat (first | apply Kd.R_alloc | apply Kd.R_drewN | apply Kd.R_drew)); exact Kd.R_mono (Kd.R_far (p := ⟨gb108, 5, none⟩) (Kd.R_mono HO_8.out (fun k_ hk => (⟨hk, hk.1.2⟩ : _ ∧ k_ ≠ gb108))) (fun _ hk => hk.2) (.slice Ao44 t113.length co44)) (fun _ hk => ⟨hk.1.1.1, ⟨hk.1.2, hk.1.1.2⟩⟩)))⟩; have n2_ : Aside0 (Kd.R k45 45 w46 w.heap.size (fun k_ => (w.heap.size ≤ k_) ∧ some k_ ≠ (u8 : Value).ownBlock ∧ k_ ≠ gb108) (.slice Ao44 t113.length co44) t113) := ⟨(by rw [hw]; exact (by (with_reducible repeat (first | apply Kd.R_alloc | apply Kd.R_drewN | apply Kd.R_drew)); exact Kd.R_mono (Kd.R_far (p := ⟨gb108, 5, none⟩) (Kd.R_mono HO115.out (fun k_ hk => (⟨hk, hk.2⟩ : _ ∧ k_ ≠ gb108))) (fun _ hk => hk.2) (.slice Ao44 t113.length co44)) (fun _ hk => ⟨hk.1.1.1.1, ⟨hk.1.1.2, hk.1.2⟩⟩)))⟩; have n3_ : Aside0 (Kd.V k43 43 w46 w.heap.size (fun k_ => (P0_ k_ ∨ w.heap.size ≤ k_) ∧ some k_ ≠ (u8 : Value).ownBlock ∧ some k_ ≠ (.slice Ao44 t113.length co44 : Value).ownBlock ∧ k_ ≠ gb102 ∧ k_ ≠ gb108) v117 t116) := ⟨(by rw [hw]; exact (by (with_reducible repeat (first | apply Kd.V_alloc | apply Kd.V_drewN | apply Kd.V_drew)); exact Kd.V_mono (Kd.V_far (p := ⟨gb108, 5, none⟩) (Kd.V_mono HO118.out (fun k_ hk => (⟨hk, hk.2.2.2.2⟩ : _ ∧ k_ ≠ gb108))) (fun _ hk => hk.2) (.slice Ao44 t113.length co44)) (fun _ hk => ⟨hk.1.1, ⟨hk.1.2.2.1, ⟨hk.1.2.1, ⟨hk.1.2.2.2.1, hk.1.2.2.2.2⟩⟩⟩⟩)))⟩; have n4_ : Aside0 (w46.heap[gb102]? = some (.cells #[.int .i64 ((rd_T43 x0_1 0).f0), .string ((rd_T43 x0_1 0).f1), .string ((rd_T43 x0_1 0).f2), .bool ((rd_T43 x0_1 0).f3), .bool ((rd_T43 x0_1 0).f4)] 43 (0, 0))) := ⟨(by rw [hw]; exact (by (with_reducible repeat (first | refine blk_drewN ?_ _ | refine blk_drew ?_ | refine blk_alloc ?_ _)); refine blk_far ?_ NB102_108.out _; (with_reducible repeat (first | refine blk_drewN ?_ _ | refine blk_drew ?_ | refine blk_alloc ?_ _)); exact BK102.out))⟩; have n5_ : Aside0 (w46.heap[gb108]? = some (.cells #[.int .i64 ((rd_T43 x0_1 0).f0), .string ((rd_T43 x0_1 0).f1), .string ((rd_T43 x0_1 0).f2), .bool ((rd_T43 x0_1 0).f3), .bool ((rd_T43 x0_1 0).f4), .slice Ao44 t113.length co44] 45 (0, 0))) := ⟨(by rw [hw]; exact (by (with_reducible repeat (first | refine blk_drewN ?_ _ | refine blk_drew ?_ | refine blk_alloc ?_ _)); refine blk_put (cs := #[.int .i64 ((rd_T43 x0_1 0).f0), .string ((rd_T43 x0_1 0).f1), .string ((rd_T43 x0_1 0).f2), .bool ((rd_T43 x0_1 0).f3), .bool ((rd_T43 x0_1 0).f4), .slice none 0 0]) ?_ 5 _ rfl; (with_reducible repeat (first | refine blk_drewN ?_ _ | refine blk_drew ?_ | refine blk_alloc ?_ _)); exact BK108.out))⟩; have n6_ : Aside0 (Below w.heap.size w w46) := ⟨(by rw [hw]; exact (by repeat (first | (with_reducible first | exact HB.out | apply below_alloc | apply pw_below_drewN | apply below_drew1 | refine below_set ?_ GE102.out | refine below_set ?_ GE108.out) | exact HB.out)))⟩; clear hw; clear HO_0; clear HO_8; clear HO115; clear HO118; clear BK102; clear BK108; clear HB; have HO_0 := n0_; have HO_8 := n1_; have HO115 := n2_; have HO118 := n3_; have BK102 := n4_; have BK108 := n5_; have HB := n6_; clear n0_ n1_ n2_ n3_ n4_ n5_ n6_; have hcz47_0 : w46.cell? ⟨gb108, 0, none⟩ = some (.int .i64 ((rd_T43 x0_1 0).f0)) := (blk_cell BK108.out 0).trans rfl; have hcz47_1 : w46.cell? ⟨gb108, 1, none⟩ = some (.string ((rd_T43 x0_1 0).f1)) := (blk_cell BK108.out 1).trans rfl; have hcz47_2 : w46.cell? ⟨gb108, 2, none⟩ = some (.string ((rd_T43 x0_1 0).f2)) := (blk_cell BK108.out 2).trans rfl; have hcz47_3 : w46.cell? ⟨gb108, 3, none⟩ = some (.bool ((rd_T43 x0_1 0).f3)) := (blk_cell BK108.out 3).trans rfl; have hcz47_4 : w46.cell? ⟨gb108, 4, none⟩ = some (.bool ((rd_T43 x0_1 0).f4)) := (blk_cell BK108.out 4).trans rfl; have hcz47_5 : w46.cell? ⟨gb108, 5, none⟩ = some (.slice Ao44 t113.length co44) := (blk_cell BK108.out 5).trans rfl; have hfz47_0 := blk_frozen BK108.out 0; have hfz47_1 := blk_frozen BK108.out 1; have hfz47_2 := blk_frozen BK108.out 2; have hfz47_3 := blk_frozen BK108.out 3; have hfz47_4 := blk_frozen BK108.out 4; have hfz47_5 := blk_frozen BK108.out 5) | ((with_reducible refine gate_builtin (b := .append) (xs := #[.tmp 49, .tmp 51]) rfl ?_); at_builtin; refine Kd.R_append k45 (w0 := w) w.heap.size rfl (.tmp 49) (.tmp 51) 25 45 (.agg #[(.int .i64 0), (.string ⟨#[]⟩), (.string ⟨#[]⟩), (.bool false), (.bool false), (.slice none 0 0)]) 72 rfl Try.underlying25 info45 rfl (by decide) (by omega) u8 x8_1 (⟨(⟨((rd_T43 x0_1 0).f0), ((rd_T43 x0_1 0).f1), ((rd_T43 x0_1 0).f2), ((rd_T43 x0_1 0).f3), ((rd_T43 x0_1 0).f4)⟩ : S43), t113⟩ : S45) [.int .i64 ((rd_T43 x0_1 0).f0), .string ((rd_T43 x0_1 0).f1), .string ((rd_T43 x0_1 0).f2), .bool ((rd_T43 x0_1 0).f3), .bool ((rd_T43 x0_1 0).f4), .slice Ao44 t113.length co44] (fun k_ => (w.heap.size ≤ k_) ∧ k_ ≠ gb108) (fun k_ => ((fun k_ => (w.heap.size ≤ k_) ∧ k_ ≠ gb108)) k_ ∧ some k_ ≠ (u8 : Value).ownBlock) rfl rfl ?aP (fun _ hk => hk) ?aF ?aO ?aB ?aS ?aL ?_; (case aP => exact k45_mkM _ _ _ (⟨(⟨((rd_T43 x0_1 0).f0), ((rd_T43 x0_1 0).f1), ((rd_T43 x0_1 0).f2), ((rd_T43 x0_1 0).f3), ((rd_T43 x0_1 0).f4)⟩ : S43), t113⟩ : S45) (Kd.R_mono (HO115.out) (fun k_ hk => ⟨⟨hk.1, hk.2.2⟩, hk.2.1⟩))); (case aB => exact (by repeat (first | (with_reducible first | exact HB.out | apply below_alloc | apply pw_below_drewN | apply below_drew1 | refine below_set ?_ GE102.out | refine below_set ?_ GE108.out) | exact HB.out))); (case aF => exact (fun k_ hk => ⟨(Nat.le_trans (below_size (by repeat (first | (with_reducible first | exact HB.out | apply below_alloc | apply pw_below_drewN | apply below_drew1 | refine below_set ?_ GE102.out | refine below_set ?_ GE108.out) | exact HB.out))) hk), Kd.freshB (g := gb108) (o := .cells #[.int .i64 ((rd_T43 x0_1 0).f0), .string ((rd_T43 x0_1 0).f1), .string ((rd_T43 x0_1 0).f2), .bool ((rd_T43 x0_1 0).f3), .bool ((rd_T43 x0_1 0).f4), .slice Ao44 t113.length co44] 45 (0, 0)) (by (with_reducible repeat (first | refine blk_drewN ?_ _ | refine blk_drew ?_ | refine blk_alloc ?_ _)); exact BK108.out) k_ hk⟩)); (case aO => exact (by (with_reducible repeat (first | apply Kd.R_alloc | apply Kd.R_drewN | apply Kd.R_drew)); exact Kd.R_mono HO_8.out (fun _ hk => ⟨hk.1, hk.2.2⟩))); (case aS => exact (below_size (by repeat (first | (with_reducible first | exact HB.out | apply below_alloc | apply pw_below_drewN | apply below_drew1 | refine below_set ?_ GE102.out | refine below_set ?_ GE108.out) | exact HB.out)))); (case aL => have := LMc36.out; omega); intro v120 w48 ho hb hg hat; rw [← Ny119.out] at ho; have n0_ := Aside0.mk (Kd.V_afterv (ok := (fun k_ => (P0_ k_ ∨ w.heap.size ≤ k_) ∧ some k_ ≠ (.slice Ao44 t113.length co44 : Value).ownBlock ∧ k_ ≠ gb102 ∧ k_ ≠ gb108)) (by (with_reducible repeat (first | apply Kd.V_alloc | apply Kd.V_drewN | apply Kd.V_drew)); exact Kd.V_mono HO_0.out (fun _ hk => ⟨⟨hk.1, ⟨hk.2.2.1, ⟨hk.2.2.2.1, hk.2.2.2.2⟩⟩⟩, hk.2.1⟩)) hg hat); have n1_ := Aside0.mk (blk_grown (g := gb102) (o := .cells #[.int .i64 ((rd_T43 x0_1 0).f0), .string ((rd_T43 x0_1 0).f1), .string ((rd_T43 x0_1 0).f2), .bool ((rd_T43 x0_1 0).f3), .bool ((rd_T43 x0_1 0).f4)] 43 (0, 0)) (by (with_reducible repeat (first | refine blk_drewN ?_ _ | refine blk_drew ?_ | refine blk_alloc ?_ _)); exact BK102.out) hg (Kd.R_ne HO_8.out BK102.out (by decide))); have n2_ := Aside0.mk (blk_grown (g := gb108) (o := .cells #[.int .i64 ((rd_T43 x0_1 0).f0), .string ((rd_T43 x0_1 0).f1), .string ((rd_T43 x0_1 0).f2), .bool ((rd_T43 x0_1 0).f3), .bool ((rd_T43 x0_1 0).f4), .slice Ao44 t113.length co44] 45 (0, 0)) (by (with_reducible repeat (first | refine blk_drewN ?_ _ | refine blk_drew ?_ | refine blk_alloc ?_ _)); exact BK108.out) hg (Kd.R_away HO_8.out (fun _ hk => hk.2.2))); have n3_ := Aside0.mk (Kd.V_afterv (ok := (fun k_ => (P0_ k_ ∨ w.heap.size ≤ k_) ∧ some k_ ≠ (.slice Ao44 t113.length co44 : Value).ownBlock ∧ k_ ≠ gb102 ∧ k_ ≠ gb108)) (by (with_reducible repeat (first | apply Kd.V_alloc | apply Kd.V_drewN | apply Kd.V_drew)); exact Kd.V_mono HO118.out (fun _ hk => ⟨⟨hk.1, ⟨hk.2.2.1, ⟨hk.2.2.2.1, hk.2.2.2.2⟩⟩⟩, hk.2.1⟩)) hg hat); have n4_ := Aside0.mk (hb); have n5_ := Aside0.mk (ho); clear HO_0; clear BK102; clear BK108; clear HO118; clear HB; clear HO_8; clear HO115; have HO_0 := n0_; have BK102 := n1_; have BK108 := n2_; have HO118 := n3_; have HB := n4_; have HO121 := n5_; clear n0_ n1_ n2_ n3_ n4_ n5_; clear ho hb hg hat))
                        go_roundg kj6
                        case measure => have := HK1.out; have := HJ6.out; omega
                        case rel => exact ⟨(t116), (y119), H', ⟨by have := HK1.out; have := HJ6.out; omega⟩, ⟨by (with_reducible repeat (first | apply Kd.V_alloc | apply Kd.V_drewN | apply Kd.V_drew)); exact Kd.V_mono HO118.out (fun _ hk => ⟨hk.1.1, hk.2⟩)⟩, ⟨by (with_reducible repeat (first | apply Kd.R_alloc | apply Kd.R_drewN | apply Kd.R_drew)); exact Kd.R_mono HO121.out (fun _ hk => hk.1)⟩, ⟨by repeat (first | (with_reducible first | exact HB.out | apply below_alloc | apply pw_below_drewN | apply below_drew1 | refine below_set ?_ GE102.out | refine below_set ?_ GE108.out) | exact HB.out)⟩⟩
                      · rw [if_neg c36] at H
                        exact absurd H (by simp)
          · rw [if_neg c6] at H
            exact absurd H (by simp)
        · rw [if_neg c5] at H
          exact absurd H (by simp)
      · rw [if_neg c4] at H
        have c4b0 : decide (0 < (x0_1.length : Int)) = false := decide_eq_false c4
        have c4b1 : decide (0 < x0_1.length) = false := decide_eq_false (by omega)
        clear c4
        simp only [Option.some.injEq, Prod.mk.injEq] at H
        obtain ⟨rfl, rfl⟩ := H
        obtain ⟨Ao49, co49, eo49⟩ := Kd.V_slice HO_0.out
        subst eo49
        go_wp2
        go_ret2
        exact ⟨_, _, by first | rfl | (simp [errW_none, errW_some] <;> rfl) | (simp [*, errW_none, errW_some] <;> rfl), by (with_reducible repeat (first | apply Kd.R_alloc | apply Kd.R_drewN | apply Kd.R_drew)); exact HO_8.out, (by exact Kd.V_nil _ _ _ _ _), by repeat (first | (with_reducible first | exact HB.out | apply below_alloc | apply pw_below_drewN | apply below_drew1) | exact HB.out)⟩
end Go.Proofs.Ythaaajpmiofodaa.P
end
section
namespace Go.Proofs.Ythaaajpmiofodaa.P
open Go.RowKit Go.Proofs.YthaaajpmiofodaaW.PrintWords Go.Proofs.YthaaajpmiofodaaW.PrintLast Go.Proofs.YthaaajpmiofodaaW.PrintMore
attribute [local go_sem] max2_int min2_int max_two min_two max_three min_three max_four min_four
set_option linter.unusedVariables false
set_option linter.unusedSimpArgs false
def gouacheref03_Values.f (k : Nat) (l0 : List (S43)) : Option ((List (S45))) := (gouacheref03_some.f k l0 0 0).bind fun bt101 => (some bt101.1)
set_option maxHeartbeats 8000000 in
set_option maxRecDepth 100000 in
theorem gouacheref03_Values.calls (k : Nat) (A0 : Option Addr) (c0 : Nat) (l0 : List (S43)) (r : List (S45)) (w : World) (hr0 : Kd.C k43 w A0 l0.length l0) (hc0 : l0.length ≤ c0) (h : gouacheref03_Values.f k l0 = some r) :
    Calls Try.prog 13 #[.slice A0 l0.length c0] w fun e w' => ∃ v0_ : Value, e = .returned (v0_) ∧ Kd.R k45 45 w' w.heap.size (fun _ => True) v0_ r ∧ Below w.heap.size w w' := by
  have HR0 := Aside0.mk hr0
  have HC0 := Aside0.mk hc0
  clear hr0 hc0
  have HB := Aside0.mk (Below.refl w.heap.size w)
  have H : ((gouacheref03_some.f k l0 0 0).bind fun bt101 => (some bt101.1)) = some r := h
  clear h
  replace H := Option.bind_eq_some_iff.mp H
  obtain ⟨⟨t101, t104⟩, A20, H⟩ := H
  replace H : (some t101) = some r := H
  have A2 := Aside0.mk A20
  clear A20
  obtain rfl := Option.some.inj H
  go_enter Try.func13, Try.ntmps13
  go_wp2_with (first | ((with_reducible refine gate_callee (f := 31) rfl ?_); refine goesL_ (some 7) rfl rfl Try.func31 (by kernel_rfl) rfl #[.slice A0 l0.length c0, .int .i64 0, .int .i64 0] rfl (by (try simp only [List.map_toArray, List.map_cons, List.map_nil]); first | done | rfl | (simp only [List.length_drop, List.length_take]; rfl)) ?_; (with_reducible refine (gouacheref03_some.calls k (fun k_ => k_ < w.heap.size) _ _ l0 0 0 t101 t104 _ ?side1 A2.out).mono ?_); (case side1 => exact Kd.V_mk HC0.out (Kd.F_below (Kd.C_F k43_heap HR0.out) (by repeat (first | (with_reducible first | exact HB.out | apply below_alloc | apply pw_below_drewN | apply below_drew1) | exact HB.out)))); rintro e w3 ⟨v102, v105, rfl, ho0, ho1, hb⟩; refine ⟨_, rfl, ?_⟩; have n0_ := Aside0.mk (Kd.R_lower (Kd.R_mono (ok' := fun k_ => True) ho0 (fun _ hk_ => trivial)) (below_size (by repeat (first | (with_reducible first | exact HB.out | apply below_alloc | apply pw_below_drewN | apply below_drew1) | exact HB.out)))); have n1_ := Aside0.mk (Kd.V_lower (Kd.V_mono (ok' := fun k_ => some k_ ≠ (v102 : Value).ownBlock) ho1 (fun k_ hk_ => hk_.2)) (below_size (by repeat (first | (with_reducible first | exact HB.out | apply below_alloc | apply pw_below_drewN | apply below_drew1) | exact HB.out)))); have n2_ := Aside0.mk (below_step (by repeat (first | (with_reducible first | exact HB.out | apply below_alloc | apply pw_below_drewN | apply below_drew1) | exact HB.out)) hb); clear HB; have HO103 := n0_; have HO106 := n1_; have HB := n2_; clear n0_ n1_ n2_; (try clear hb); (try clear hb2); (try clear hk); (try clear hi); (try clear ho0); (try clear ho1)))
  go_ret
  exact ⟨_, by first | rfl | (simp [errW_none, errW_some] <;> rfl) | (simp [*, errW_none, errW_some] <;> rfl), by (with_reducible repeat (first | apply Kd.R_alloc | apply Kd.R_drewN | apply Kd.R_drew)); exact HO103.out, by repeat (first | (with_reducible first | exact HB.out | apply below_alloc | apply pw_below_drewN | apply below_drew1) | exact HB.out)⟩
end Go.Proofs.Ythaaajpmiofodaa.P
end
section
namespace Go.Proofs.Ythaaajpmiofodaa.P
open Go.RowKit Go.Proofs.YthaaajpmiofodaaW.PrintWords Go.Proofs.YthaaajpmiofodaaW.PrintLast Go.Proofs.YthaaajpmiofodaaW.PrintMore
attribute [local go_sem] max2_int min2_int max_two min_two max_three min_three max_four min_four
attribute [local go_sem high] eqA43
set_option linter.unusedVariables false
set_option linter.unusedSimpArgs false
def tokEq (a b : S43) : Bool := (a.f0 == b.f0) && ((a.f1.toList == b.f1.toList) && ((a.f2.toList == b.f2.toList) && ((a.f3 == b.f3) && (a.f4 == b.f4))))
def sameS : List S45 → List S45 → Bool
  | [], [] => true
  | x :: l, y :: m => tokEq x.f0 y.f0 && sameS x.f1 y.f1 && sameS l m
  | [], _ :: _ => false
  | _ :: _, [] => false
termination_by l => SizeOf.sizeOf l
decreasing_by
  · cases x; simp; omega
  · simp; omega
theorem sameS_len : ∀ (l m : List S45), l.length ≠ m.length → sameS l m = false
  | [], [], h => absurd rfl h
  | [], _ :: _, _ => by simp [sameS]
  | _ :: _, [], _ => by simp [sameS]
  | x :: l, y :: m, h => by
    rw [sameS, sameS_len l m (by simpa using h)]
    simp
theorem z45_size (m : List S45) (j : Nat) (h : j < m.length) : SizeOf.sizeOf (rd_T45 m (j : Nat)).f1 < SizeOf.sizeOf m := by
  have h1 : rd_T45 m (j : Nat) = m[j] := by simp [rd_T45, List.getD_eq_getElem?_getD, h]
  have h2 := List.sizeOf_lt_of_mem (List.getElem_mem h)
  rw [h1]
  have h3 : SizeOf.sizeOf (m[j]).f1 < SizeOf.sizeOf m[j] := by
    cases m[j]
    simp
    omega
  omega
end Go.Proofs.Ythaaajpmiofodaa.P
end
section
namespace Go.Proofs.Ythaaajpmiofodaa.P
open Go.RowKit Go.Proofs.YthaaajpmiofodaaW.PrintWords Go.Proofs.YthaaajpmiofodaaW.PrintLast Go.Proofs.YthaaajpmiofodaaW.PrintMore
set_option linter.unusedVariables false
set_option linter.unusedSimpArgs false
theorem w64 {x : Int} (h0 : -9223372036854775808 ≤ x) (h1 : x ≤ 9223372036854775807) : wrap64 x = x := by unfold wrap64; omega
theorem Ev.ifp {α : Type} {p : Prop} [Decidable p] {g f : Nat → Option α} {r : α} (hp : p) (k : Ev g r) : Ev (fun n => if p then g n else f n) r := by simpa only [if_pos hp] using k
theorem Ev.ifn {α : Type} {p : Prop} [Decidable p] {g f : Nat → Option α} {r : α} (hp : ¬ p) (k : Ev f r) : Ev (fun n => if p then g n else f n) r := by simpa only [if_neg hp] using k
theorem ev_end (a : Int) : Ev (fun k => gouacheref03_end.f k a) (closeS a) := by
  unfold gouacheref03_end.f closeS
  by_cases h1 : a = 19
  · subst h1; exact Ev.ifp rfl (Ev.now 20)
  refine Ev.ifn h1 ?_
  have j : ∀ (b : Bool) r, (if b = true then (some 22 : Option Int) else (if a = 23 then some 24 else some 0)) = some r → Ev (fun k => gouacheref03_end.j0 k a b) r := fun b r h => Ev.step (fun k => by unfold gouacheref03_end.j0; exact rfl) (by show Ev (fun _ => (if b = true then (some 22 : Option Int) else (if a = 23 then some 24 else some 0))) r; rw [h]; exact Ev.now r)
  by_cases h2 : a = 21
  · refine Ev.ifp h2 (j _ _ ?_); simp [h2]
  · refine Ev.ifn h2 (j _ _ ?_)
    by_cases h3 : a = 2
    · simp [h3]
    · by_cases h4 : a = 23
      · simp [h4]
      · simp [h1, h2, h3, h4]
theorem rd43_zero (t : S43) (r : List S43) : rd_T43 (t :: r) 0 = t := rfl
theorem ev_some : ∀ (N : Nat) (l : List S43) (close nest : Int) (acc : List S45), l.length ≤ N → 0 ≤ nest → nest + l.length ≤ 1000000000 → acc.length + l.length ≤ 1000000000 →
    Ev (fun k => gouacheref03_some.l0 k l close nest acc) (acc ++ (valsF (l.length + 1) l nest close).1, (valsF (l.length + 1) l nest close).2) := by
  intro N
  induction N with
  | zero =>
    intro l close nest acc hl _ _ _
    obtain rfl := List.eq_nil_of_length_eq_zero (Nat.le_zero.1 hl)
    refine Ev.step (fun k => by unfold gouacheref03_some.l0; exact rfl) ?_
    simpa [valsF] using Ev.now (acc, ([] : List S43))
  | succ N ih =>
    intro l close nest acc hl h0 h1 h2
    cases l with
    | nil =>
      refine Ev.step (fun k => by unfold gouacheref03_some.l0; exact rfl) ?_
      simpa [valsF] using Ev.now (acc, ([] : List S43))
    | cons t r =>
      simp only [List.length_cons] at hl h1 h2
      have hw : wrap64 (nest + 1) = nest + 1 := w64 (by omega) (by omega)
      have hr : r.length ≤ N := by omega
      have hv := valsF_len (r.length + 1) r (nest + 1) (closeS t.f0)
      have key : ∀ b : Bool, b = (decide (close ≠ 0) && (t.f0 == close)) → Ev (fun k => gouacheref03_some.j1 k r close nest acc b t.f0 t.f1 t.f2 t.f3 t.f4) (acc ++ (valsF (r.length + 2) (t :: r) nest close).1, (valsF (r.length + 2) (t :: r) nest close).2) := by
        intro b hb
        refine Ev.step (fun k => by unfold gouacheref03_some.j1; exact rfl) ?_
        cases hbb : b with
        | true =>
          rw [hbb] at hb
          have hh : close ≠ 0 ∧ t.f0 = close := by simpa using hb.symm
          simpa [valsF, hh] using Ev.now (acc, r)
        | false =>
          rw [hbb] at hb
          have hh : ¬ (close ≠ 0 ∧ t.f0 = close) := by
            intro h
            rw [decide_eq_true h.1, h.2] at hb
            simp at hb
          refine Ev.ifn (by simp) ?_
          refine Ev.bind (ev_end t.f0) ?_
          by_cases hc : closeS t.f0 = 0
          · refine Ev.ifp hc (Ev.ifp (by omega) ?_)
            have := ih r close nest (acc ++ [⟨t, []⟩]) hr h0 (by omega) (by rw [List.length_append, List.length_singleton]; omega)
            rw [valsF, if_neg hh, if_pos hc]
            simpa using this
          · refine Ev.ifn hc ?_
            have hin : Ev (fun k => gouacheref03_some.f k r (closeS t.f0) (wrap64 (nest + 1))) (valsF (r.length + 1) r (nest + 1) (closeS t.f0)) := by
              rw [hw]
              refine Ev.step (fun k => by unfold gouacheref03_some.f; exact rfl) ?_
              have := ih r (closeS t.f0) (nest + 1) [] hr (by omega) (by omega) (by simp; omega)
              simpa using this
            refine Ev.bind hin ?_
            rw [hw]
            have hq := valsF_any (r.length + 1) ((valsF (r.length + 1) r (nest + 1) (closeS t.f0)).2.length + 1) (valsF (r.length + 1) r (nest + 1) (closeS t.f0)).2 nest close (by omega) (by omega)
            by_cases hn : nest ≥ 64
            · refine Ev.ifp (by omega) ?_
              have := ih (valsF (r.length + 1) r (nest + 1) (closeS t.f0)).2 close nest acc (by omega) h0 (by omega) (by omega)
              rw [valsF, if_neg hh, if_neg hc, if_pos hn, hq]
              exact this
            · refine Ev.ifn (by omega) (Ev.ifp (by omega) ?_)
              have := ih (valsF (r.length + 1) r (nest + 1) (closeS t.f0)).2 close nest (acc ++ [⟨t, (valsF (r.length + 1) r (nest + 1) (closeS t.f0)).1⟩]) (by omega) h0 (by omega) (by rw [List.length_append, List.length_singleton]; omega)
              rw [valsF, if_neg hh, if_neg hc, if_neg hn, hq]
              simpa using this
      refine Ev.step (fun k => by unfold gouacheref03_some.l0; exact rfl) ?_
      have hz : ((t :: r).length : Int) = r.length + 1 := by simp
      refine Ev.ifp (by omega) (Ev.ifp (by omega) (Ev.ifp (by omega) ?_))
      simp only [Option.bind_some, rd43_zero, List.drop_one, List.tail_cons, List.length_cons]
      by_cases hc0 : close = 0
      · exact Ev.ifp hc0 (key false (by simp [hc0]))
      · exact Ev.ifn hc0 (key _ (by simp [hc0]))
theorem ev_Values (l : List S43) (h : l.length ≤ 400000000) : Ev (fun k => gouacheref03_Values.f k l) (valsS l) := by
  unfold gouacheref03_Values.f
  have h1 : Ev (fun k => gouacheref03_some.f k l 0 0) (valsF (l.length + 1) l 0 0) := by
    refine Ev.step (fun k => by unfold gouacheref03_some.f; exact rfl) ?_
    simpa using ev_some l.length l 0 0 [] (Nat.le_refl _) (by omega) (by omega) (by simp; omega)
  exact Ev.bind h1 (Ev.now _)
theorem rd45_drop (l : List S45) (i : Nat) (h : i < l.length) : l.drop i = rd_T45 l (i : Nat) :: l.drop (i + 1) := by
  rw [List.drop_eq_getElem_cons h]
  simp [rd_T45, List.getD_eq_getElem?_getD, h]
theorem tok_ne (a b : S43) : (!(a.f0 == b.f0) || (!(a.f1.toList == b.f1.toList) || (!(a.f2.toList == b.f2.toList) || (!(a.f3 == b.f3) || (!(a.f4 == b.f4)))))) = !tokEq a b := by
  unfold tokEq
  simp only [Bool.not_and]
theorem ev_Same_l0 (l m : List S45) (hlen : l.length = m.length) (hl : l.length ≤ 4611686018427387904)
    (hk : ∀ j, j < l.length → Ev (fun k => gouacheref03_Same.f k (rd_T45 l (j : Nat)).f1 (rd_T45 m (j : Nat)).f1) (sameS (rd_T45 l (j : Nat)).f1 (rd_T45 m (j : Nat)).f1)) :
    ∀ (d i : Nat), i + d = l.length → Ev (fun k => gouacheref03_Same.l0 k l m (l.length : Int) (i : Nat)) (sameS (l.drop i) (m.drop i)) := by
  intro d
  induction d with
  | zero =>
    intro i hi
    refine Ev.step (fun k => by unfold gouacheref03_Same.l0; exact rfl) ?_
    refine Ev.ifn (by omega) ?_
    rw [List.drop_eq_nil_of_le (by omega), List.drop_eq_nil_of_le (by omega)]
    simpa [sameS] using Ev.now true
  | succ d ih =>
    intro i hi
    refine Ev.step (fun k => by unfold gouacheref03_Same.l0; exact rfl) ?_
    refine Ev.ifp (by omega) (Ev.ifp (by omega) (Ev.ifp (by omega) (Ev.ifp (by omega) ?_)))
    rw [rd45_drop l i (by omega), rd45_drop m i (by omega), sameS]
    simp only [tok_ne]
    cases ht : tokEq (rd_T45 l (i : Nat)).f0 (rd_T45 m (i : Nat)).f0 with
    | false => simpa using Ev.now false
    | true =>
      refine Ev.ifn (by simp) ?_
      refine Ev.bind (hk i (by omega)) ?_
      rw [Bool.true_and]
      cases hs : sameS (rd_T45 l (i : Nat)).f1 (rd_T45 m (i : Nat)).f1 with
      | false => simpa using Ev.now false
      | true =>
        refine Ev.ifp rfl ?_
        rw [Bool.true_and, w64 (by omega) (by omega)]
        exact ih (i + 1) (by omega)
def okLens : List S45 → Prop
  | [] => True
  | x :: l => (x :: l).length ≤ 4611686018427387904 ∧ okLens x.f1 ∧ okLens l
termination_by l => SizeOf.sizeOf l
decreasing_by
  · cases x; simp; omega
  · simp; omega
theorem okLens_len : ∀ l : List S45, okLens l → l.length ≤ 4611686018427387904
  | [], _ => by simp
  | x :: l, h => by rw [okLens] at h; exact h.1
theorem okLens_kid : ∀ (l : List S45) (j : Nat), j < l.length → okLens l → okLens (rd_T45 l (j : Nat)).f1
  | x :: l, 0, _, h => by rw [okLens] at h; exact h.2.1
  | x :: l, j + 1, hj, h => by
    rw [okLens] at h
    exact okLens_kid l j (by simpa using hj) h.2.2
theorem ev_Same : ∀ (N : Nat) (l m : List S45), SizeOf.sizeOf l < N → okLens l → Ev (fun k => gouacheref03_Same.f k l m) (sameS l m) := by
  intro N
  induction N with
  | zero => intro l m h; omega
  | succ N ih =>
    intro l m hN hok
    refine Ev.step (fun k => by unfold gouacheref03_Same.f; exact rfl) ?_
    by_cases hlen : l.length = m.length
    · refine Ev.ifp (by omega) ?_
      exact ev_Same_l0 l m hlen (okLens_len l hok) (fun j hj => ih _ _ (by have := z45_size l j hj; omega) (okLens_kid l j hj hok)) l.length 0 (by omega)
    · refine Ev.ifn (by omega) ?_
      rw [sameS_len l m hlen]
      exact Ev.now false
theorem tokEq_refl (a : S43) : tokEq a a = true := by simp [tokEq]
theorem sameS_refl : ∀ l : List S45, sameS l l = true
  | [] => by rw [sameS]
  | x :: l => by rw [sameS, tokEq_refl, sameS_refl x.f1, sameS_refl l]; rfl
termination_by l => SizeOf.sizeOf l
decreasing_by
  · cases x; simp; omega
  · simp; omega
theorem valsF_okLens : ∀ (k : Nat) (l : List S43) (nest close : Int), l.length ≤ 1000000000 → okLens (valsF k l nest close).1 ∧ (valsF k l nest close).1.length ≤ l.length
  | 0, l, _, _, _ => by simp [valsF, okLens]
  | _ + 1, [], _, _, _ => by simp [valsF, okLens]
  | k + 1, t :: r, nest, close, h => by
    simp only [List.length_cons] at h
    have h1 := valsF_okLens k r nest close (by omega)
    have h2 := valsF_okLens k r (nest + 1) (closeS t.f0) (by omega)
    have hl := valsF_len k r (nest + 1) (closeS t.f0)
    have h3 := valsF_okLens k (valsF k r (nest + 1) (closeS t.f0)).2 nest close (by omega)
    unfold valsF
    split
    · simp [okLens]
    · split
      · simp only [okLens, List.length_cons]; refine ⟨⟨by omega, by simp, h1.1⟩, by omega⟩
      · split
        · exact ⟨h3.1, by simp only [List.length_cons]; omega⟩
        · simp only [okLens, List.length_cons]; exact ⟨⟨by omega, h2.1, h3.1⟩, by omega⟩
theorem valsS_ok (l : List S43) (h : l.length ≤ 1000000000) : okLens (valsS l) := (valsF_okLens _ l 0 0 h).1
end Go.Proofs.Ythaaajpmiofodaa.P
end
