/- WalkOnce: for every input the law returns true, and each argument reads behind the call as it read before. -/
import Derived.Test.YtpnlbmeeihbjaaaZWC14
import Derived.Test.YtpnlbmeeihbjaaaZWC17
section
set_option linter.unusedVariables false
set_option linter.unusedSimpArgs false
namespace Go.Proofs.Ytpnlbmeeihbjaaa.P
open Go.RowKit Go.Proofs.YtpnlbmeeihbjaaaW.PrintWords Go.Proofs.YtpnlbmeeihbjaaaW.PrintLast Go.Proofs.YtpnlbmeeihbjaaaW.PrintMore
attribute [local go_sem] max2_int min2_int max_two min_two max_three min_three max_four min_four
set_option linter.unusedVariables false
set_option linter.unusedSimpArgs false
def loseA (id : Int) (x : S40) : S40 := { x with f3 := x.f3.filter fun k => !(k == id) }
def ownA (p : Int) (x : S40) : S40 := { x with f2 := p }
theorem hmf56 : ∀ (fn : Fn) (first cap : Array Value) (w : World), (Instr.makeFunc fn first cap).run Try.prog w = .ok (.func fn first cap) w := fun _ _ _ _ => rfl
set_option maxHeartbeats 8000000 in
set_option maxRecDepth 100000 in
theorem loses_calls (id : Int) (w : World) :
    Calls Try.prog 56 #[.int .i64 id] w fun e w' => ∃ b1, e = .returned (.func (.func 85) #[] #[.pointer (some ⟨b1, 0, none⟩)]) ∧ w'.heap[b1]? = some (.cells #[.int .i64 id] 3 (0, 0)) ∧ Below w.heap.size w w' := by
  have hmf := hmf56
  go_enter Try.func56, Try.ntmps56
  go_wp2_with fail
  go_ret
  exact ⟨_, rfl, blk_new _ _, below_alloc (Below.refl _ _) _⟩
set_option maxHeartbeats 8000000 in
set_option maxRecDepth 100000 in
theorem loses_gives (wB : World) (b1 : Nat) (id pid : Int) (x0 : S40) (h1 : wB.heap[b1]? = some (.cells #[.int .i64 id] 3 (0, 0))) (hl : x0.f3.length ≤ 1099511627776) :
    Gives wB ⟨pid, 85, #[.pointer (some ⟨b1, 0, none⟩)], loseA id⟩ (fun x => x = x0) := by
  intro W base g x cs hx hbw hbase hg hgb hM
  subst hx
  obtain ⟨A3, c3, A4, c4, rfl⟩ := k40_cellsM hM
  obtain ⟨v3, v4, hcs, hR3, hR4⟩ := k40_openM hM
  simp only [List.cons.injEq, and_true, true_and] at hcs
  obtain ⟨rfl, rfl⟩ := hcs
  have hblk1 := blk_below h1 hbw
  have hown : ∀ k, (Value.slice A3 x.f3.length c3).ownBlock = some k → base ≤ k ∧ k < W.heap.size ∧ k ≠ g := fun k e => ⟨own_ge (Kd.own_of_R hR3) k e, Kd.R_lt hR3 k e, hR3.1 k e⟩
  have hmf := hmf56
  obtain ⟨K, hK⟩ : ∃ K, K = x.f3.filter (fun k => !(k == id)) := ⟨_, rfl⟩
  have HDEL : Aside0 (Calls Try.prog 86 #[.slice A3 x.f3.length c3, .func (.func 87) #[] #[.pointer (some ⟨b1, 0, none⟩)]] W fun e w' => ∃ v', e = .returned v' ∧ Kd.R (Kd.int .i64) 3 w' base (fun k => k ≠ g) v' K ∧ W.grownBy w' (Value.slice A3 x.f3.length c3).ownBlock) := ⟨by
    rw [hK]
    exact delete_calls x.f3 _ id b1 W base (fun k => k ≠ g) hR3 hl hblk1 (fun e => by have := (hown b1 e).1; have := blk_lt h1; omega)⟩
  have HR3 := Aside0.mk hR3
  have HR4 := Aside0.mk hR4
  have HG := Aside0.mk hgb
  have HBS := Aside0.mk (And.intro hbase hg)
  have q3 := (blk_cell hgb 3).trans (show _ = some _ from rfl)
  have f3 := blk_frozen hgb 3
  have HOWN := Aside0.mk hown
  have HKK := Aside0.mk hK
  clear hM hR3 hR4 hgb hl hbase hg h1 hbw hblk1 hown hK
  show Calls Try.prog 85 #[.pointer (some ⟨g, 0, none⟩), .pointer (some ⟨b1, 0, none⟩)] W _
  go_enter Try.func85, Try.ntmps85
  go_wp2_with (first | (go_at_call 86; (with_reducible refine HDEL.out.mono ?_); rintro e w2 ⟨v2, rfl, hR2, hgr⟩; obtain ⟨B3, d3, rfl⟩ := Kd.R_slice hR2; have hgc := (hgr.block g (blk_lt HG.out) (fun e_ => (HOWN.out g e_.symm).2.2 rfl)).trans HG.out; have HR2 := Aside0.mk hR2; have HGR := Aside0.mk hgr; have r3 := (blk_cell hgc 3).trans (show _ = some _ from rfl); have r3f := blk_frozen hgc 3; have HGC := Aside0.mk hgc; clear hR2 hgr hgc) | fail)
  go_end0
  have hb2 : Below base W w2 := ⟨HGR.out.os, HGR.out.tape, HGR.out.output, HGR.out.size, fun k hk => HGR.out.block k (by have := blk_lt HG.out; have := HBS.out.2; omega) (fun e => by have := (HOWN.out k e.symm).1; omega)⟩
  refine ⟨rfl, below_low hb2 HBS.out.2 3 _, #[.int .i64 x.f0, .string x.f1, .int .i64 x.f2, .slice B3 K.length d3, .slice A4 x.f4.length c4], blk_put HGC.out 3 _ rfl, ?_⟩
  refine k40_mkM _ _ _ (loseA id x) (v3 := .slice B3 K.length d3) (v4 := .slice A4 x.f4.length c4) ?_ ?_
  · show Kd.R (Kd.int .i64) 3 _ base (fun k => k ≠ g) _ (x.f3.filter fun k => !(k == id))
    rw [← HKK.out]
    exact Kd.R_far HR2.out (fun k hk => hk) _
  · have h4 : Kd.R k70 70 w2 base (fun k => k ≠ g) (.slice A4 x.f4.length c4) x.f4 := row_stays HR3.out HR4.out HGR.out.block
    exact Kd.R_far h4 (fun k hk => hk) _
set_option maxHeartbeats 8000000 in
set_option maxRecDepth 100000 in
theorem own_gives (wB : World) (b1 : Nat) (p pid : Int) (x0 : S40) (h1 : wB.heap[b1]? = some (.cells #[.int .i64 p] 3 (0, 0))) :
    Gives wB ⟨pid, 61, #[.pointer (some ⟨b1, 0, none⟩)], ownA p⟩ (fun x => x = x0) := by
  intro W base g x cs hx hbw hbase hg hgb hM
  subst hx
  obtain ⟨A3, c3, A4, c4, rfl⟩ := k40_cellsM hM
  obtain ⟨v3, v4, hcs, hR3, hR4⟩ := k40_openM hM
  simp only [List.cons.injEq, and_true, true_and] at hcs
  obtain ⟨rfl, rfl⟩ := hcs
  have k1 := (blk_cell (blk_below h1 hbw) 0).trans (show _ = some _ from rfl)
  have q2 := (blk_cell hgb 2).trans (show _ = some _ from rfl)
  have f2 := blk_frozen hgb 2
  have HR3 := Aside0.mk hR3
  have HR4 := Aside0.mk hR4
  have HG := Aside0.mk hgb
  have HBS := Aside0.mk (And.intro hbase hg)
  clear hM hR3 hR4 hgb hbase hg h1 hbw
  show Calls Try.prog 61 #[.pointer (some ⟨g, 0, none⟩), .pointer (some ⟨b1, 0, none⟩)] W _
  go_enter Try.func61, Try.ntmps61
  go_wp2_with fail
  go_end0
  refine ⟨rfl, below_low (Below.refl _ _) HBS.out.2 2 _, #[.int .i64 x.f0, .string x.f1, .int .i64 p, .slice A3 x.f3.length c3, .slice A4 x.f4.length c4], blk_put HG.out 2 _ rfl, ?_⟩
  exact k40_mkM _ _ _ (ownA p x) (v3 := .slice A3 x.f3.length c3) (v4 := .slice A4 x.f4.length c4) (Kd.R_far HR3.out (fun k hk => hk) _) (Kd.R_far HR4.out (fun k hk => hk) _)
end Go.Proofs.Ytpnlbmeeihbjaaa.P
end
