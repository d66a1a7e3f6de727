/- WalkOnce: for every input the law returns true, and each argument reads behind the call as it read before. -/
import Derived.Test.YtpnlbmeeihbjaaaZWC9
import Derived.Test.YtpnlbmeeihbjaaaZWC12
section
set_option linter.unusedVariables false
set_option linter.unusedSimpArgs false
namespace Go.Proofs.Ytpnlbmeeihbjaaa.P
open Go.RowKit Go.Proofs.YtpnlbmeeihbjaaaW.PrintWords Go.Proofs.YtpnlbmeeihbjaaaW.PrintLast Go.Proofs.YtpnlbmeeihbjaaaW.PrintMore
attribute [local go_sem] max2_int min2_int max_two min_two max_three min_three max_four min_four
set_option linter.unusedVariables false
set_option linter.unusedSimpArgs false
theorem own_ge {w : World} {base n size : Nat} {e : TypeId} {v : Value} {xs : List Value} (h : w.ownsRow base e size v n xs) : ∀ k, v.ownBlock = some k → base ≤ k := by
  intro k hk
  rcases h.2 with ⟨rfl, _⟩ | ⟨g, cap, cur, rfl, hg, _⟩
  · simp [Value.ownBlock] at hk
  · have : g = k := by simpa [Value.ownBlock] using hk
    omega
theorem below_low {B : Nat} {w W : World} (h : Below B w W) {g : Nat} (hg : B ≤ g) (j : Nat) (u : Value) : Below B w (W.setCell ⟨g, j, none⟩ u) :=
  ⟨h.os, h.tape, h.output, by simpa [World.setCell] using h.size, fun k hk => (heap_setCell_other W ⟨g, j, none⟩ k u (by show k ≠ g; omega)).trans (h.block k hk)⟩
theorem row_stays {W w2 : World} {base : Nat} {ok : Nat → Prop} {v3 v4 : Value} {l3 : List Int} {l4 : List S70} (h3 : Kd.R (Kd.int .i64) 3 W base ok v3 l3) (h4 : Kd.R k70 70 W base ok v4 l4) (hs : ∀ k, k < W.heap.size → some k ≠ v3.ownBlock → w2.heap[k]? = W.heap[k]?) : Kd.R k70 70 w2 base ok v4 l4 := by
  rcases (Kd.own_of_R h3).2 with ⟨rfl, _⟩ | ⟨g3, cap, cur, rfl, _, hb, _⟩
  · exact Kd.R_step h4 (fun k _ hk => hs k hk (by simp [Value.ownBlock]))
  · refine Kd.R_mono (Kd.R_step (Kd.R_types h4 hb (by decide)) (fun k hk hlt => hs k hlt (fun e => hk.2 (by simpa [Value.ownBlock] using e)))) (fun _ h => h.1)
def gainA (i : Nat) (id : Int) (x : S40) : S40 := { x with f3 := x.f3.take i ++ [id] ++ x.f3.drop i }
set_option maxHeartbeats 8000000 in
set_option maxRecDepth 100000 in
theorem gains_calls (i id : Int) (w : World) :
    Calls Try.prog 55 #[.int .i64 i, .int .i64 id] w fun e w' => ∃ b1 b2, e = .returned (.func (.func 83) #[] #[.pointer (some ⟨b1, 0, none⟩), .pointer (some ⟨b2, 0, none⟩)]) ∧ w'.heap[b1]? = some (.cells #[.int .i64 i] 3 (0, 0)) ∧ w'.heap[b2]? = some (.cells #[.int .i64 id] 3 (0, 0)) ∧ Below w.heap.size w w' := by
  have hmf : ∀ (fn : Fn) (first cap : Array Value) (w : World), (Instr.makeFunc fn first cap).run Try.prog w = .ok (.func fn first cap) w := fun _ _ _ _ => rfl
  go_enter Try.func55, Try.ntmps55
  go_wp2_with fail
  go_ret
  exact ⟨_, _, rfl, blk_alloc (blk_new _ _) _, heap_alloc2_new _ _ _, below_alloc (below_alloc (Below.refl _ _) _) _⟩
set_option maxHeartbeats 8000000 in
set_option maxRecDepth 100000 in
theorem gains_gives (wB : World) (b1 b2 i : Nat) (id pid : Int) (x0 : S40) (h1 : wB.heap[b1]? = some (.cells #[.int .i64 i] 3 (0, 0))) (h2 : wB.heap[b2]? = some (.cells #[.int .i64 id] 3 (0, 0))) (hi : i ≤ x0.f3.length) (hl : x0.f3.length ≤ 1099511627776) :
    Gives wB ⟨pid, 83, #[.pointer (some ⟨b1, 0, none⟩), .pointer (some ⟨b2, 0, none⟩)], gainA i id⟩ (fun x => x = x0) := by
  intro W base g x cs hx hbw hbase hg hgb hM
  subst hx
  obtain ⟨A3, c3, A4, c4, rfl⟩ := k40_cellsM hM
  obtain ⟨v3, v4, hcs, hR3, hR4⟩ := k40_openM hM
  simp only [List.cons.injEq, and_true, true_and] at hcs
  obtain ⟨rfl, rfl⟩ := hcs
  have HR3 := Aside0.mk hR3
  have HR4 := Aside0.mk hR4
  have HG := Aside0.mk hgb
  have HL := Aside0.mk (And.intro hi hl)
  have HBS := Aside0.mk (And.intro hbase hg)
  have q3 := (blk_cell hgb 3).trans (show _ = some _ from rfl)
  have f3 := blk_frozen hgb 3
  have k1 := (blk_cell (blk_below h1 hbw) 0).trans (show _ = some _ from rfl)
  have k2 := (blk_cell (blk_below h2 hbw) 0).trans (show _ = some _ from rfl)
  have HBW := Aside0.mk hbw
  clear hM hR3 hR4 hgb hi hl hbase hg h1 h2 hbw
  show Calls Try.prog 83 #[.pointer (some ⟨g, 0, none⟩), .pointer (some ⟨b1, 0, none⟩), .pointer (some ⟨b2, 0, none⟩)] W _
  obtain ⟨K, hK⟩ : ∃ K, K = x.f3.take i ++ [id] ++ x.f3.drop i := ⟨_, rfl⟩
  have hown : ∀ k, (Value.slice A3 x.f3.length c3).ownBlock = some k → base ≤ k ∧ k < W.heap.size ∧ k ≠ g := fun k e => ⟨own_ge (Kd.own_of_R HR3.out) k e, Kd.R_lt HR3.out k e, HR3.out.1 k e⟩
  have HINS : Aside0 (∀ (W' : World) (vb : Nat), Below W.heap.size W W' → W'.heap[vb]? = some (.cells #[.int .i64 id] 3 (0, 0)) → W.heap.size ≤ vb → Calls Try.prog 84 #[.slice A3 x.f3.length c3, .int .i64 (i : Int), .slice (some ⟨vb, 0, none⟩) 1 1] W' fun e w' => ∃ v', e = .returned v' ∧ Kd.R (Kd.int .i64) 3 w' base (fun k => k ≠ g) v' K ∧ Below base W w' ∧ ∀ k, k < W.heap.size → some k ≠ (Value.slice A3 x.f3.length c3).ownBlock → w'.heap[k]? = W.heap[k]?) := ⟨fun W' vb hb hv hle => by
    have hbs := Nat.le_trans HBS.out.2 (Nat.le_of_lt (blk_lt HG.out))
    refine (insert_calls x.f3 _ i id vb W' base (fun k => k ≠ g) (Kd.R_below HR3.out hb) HL.out.1 HL.out.2 hv (fun e => by have := (hown vb e).2.1; omega) (Nat.le_trans hbs hb.size) (fun k hk => by have := blk_lt HG.out; have := hb.size; omega)).mono ?_
    rintro e w' ⟨v', rfl, hR', hgr⟩
    refine ⟨v', rfl, hK ▸ hR', ⟨hgr.os.trans hb.os, hgr.tape.trans hb.tape, hgr.output.trans hb.output, Nat.le_trans hb.size hgr.size, fun k hk => ?_⟩, fun k hk hne => ?_⟩
    · exact (hgr.block k (by have := hb.size; omega) (fun e => by have := (hown k e.symm).1; omega)).trans (hb.block k (by omega))
    · exact (hgr.block k (Nat.lt_of_lt_of_le hk hb.size) hne).trans (hb.block k hk)⟩
  have HOWN := Aside0.mk hown
  have HKK := Aside0.mk hK
  clear hown hK
  have n1 : ∀ o, (W.alloc o).cell? ⟨b1, 0, none⟩ = some (.int .i64 i) := fun o => pw_cell_below (below_alloc (Below.refl _ _) o) k1
  have n2 : ∀ o, (W.alloc o).cell? ⟨b2, 0, none⟩ = some (.int .i64 id) := fun o => pw_cell_below (below_alloc (Below.refl _ _) o) k2
  have n3 : ∀ o, (W.alloc o).cell? ⟨g, 3, none⟩ = some (.slice A3 x.f3.length c3) := fun o => pw_cell_below (below_alloc (Below.refl _ _) o) q3
  go_enter Try.func83, Try.ntmps83
  go_region_with (first
    | (go_at_call 84; (with_reducible refine (HINS.out _ _ (by repeat (first | exact Below.refl _ _ | apply below_alloc | apply below_drew1 | apply pw_below_drewN)) (by repeat (first | exact blk_new _ _ | refine blk_drewN ?_ _ | refine blk_drew ?_)) (by exact Nat.le_refl _)).mono ?_); rintro e w2 ⟨v2, rfl, hR2, hb2, hsm⟩; obtain ⟨B3, d3, rfl⟩ := Kd.R_slice hR2; have HR2 := Aside0.mk hR2; have HB2 := Aside0.mk hb2; have HSM := Aside0.mk hsm; have hgc := (hsm g (blk_lt HG.out) (fun e_ => (HOWN.out g e_.symm).2.2 rfl)).trans HG.out; have r3 := (blk_cell hgc 3).trans (show _ = some _ from rfl); have r3f := blk_frozen hgc 3; have HGC := Aside0.mk hgc; clear hR2 hb2 hsm hgc)
    | fail)
  all_goals
    go_end0
    refine ⟨rfl, below_low HB2.out HBS.out.2 3 _, #[.int .i64 x.f0, .string x.f1, .int .i64 x.f2, .slice B3 K.length d3, .slice A4 x.f4.length c4], blk_put HGC.out 3 _ rfl, ?_⟩
    refine k40_mkM _ _ _ (gainA i id x) (v3 := .slice B3 K.length d3) (v4 := .slice A4 x.f4.length c4) ?_ ?_
    · show Kd.R (Kd.int .i64) 3 _ base (fun k => k ≠ g) _ (x.f3.take i ++ [id] ++ x.f3.drop i)
      rw [← HKK.out]
      exact Kd.R_far HR2.out (fun k hk => hk) _
    · have h4 : Kd.R k70 70 w2 base (fun k => k ≠ g) (.slice A4 x.f4.length c4) x.f4 := row_stays HR3.out HR4.out HSM.out
      exact Kd.R_far h4 (fun k hk => hk) _
end Go.Proofs.Ytpnlbmeeihbjaaa.P
end
