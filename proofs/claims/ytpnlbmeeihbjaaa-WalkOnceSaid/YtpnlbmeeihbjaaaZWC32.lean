/- WalkOnce: for every input the law returns true, and each argument reads behind the call as it read before. -/
import Derived.Test.YtpnlbmeeihbjaaaZWC28
import Derived.Test.YtpnlbmeeihbjaaaZWC31
import Derived.Maps.OwnIn
import Derived.Maps.AppendAt
import Derived.RangeFuncBox
section
set_option linter.unusedVariables false
set_option linter.unusedSimpArgs false
namespace Go.Proofs.Ytpnlbmeeihbjaaa.P
open Go.RowKit Go.Shelf Go.Maps Go.Proofs.YtpnlbmeeihbjaaaW.PrintWords Go.Proofs.YtpnlbmeeihbjaaaW.PrintLast Go.Proofs.YtpnlbmeeihbjaaaW.PrintMore
attribute [local go_sem] max2_int min2_int max_two min_two max_three min_three max_four min_four Oper.semAt_some
set_option linter.unusedVariables false
set_option linter.unusedSimpArgs false
def Stop (p : Prop) : Prop := p
theorem stopIt {p : Prop} (h : Stop p) : p := h
abbrev encI (x : Int) : Array Value := #[.int .i64 x]
theorem under_calls (v : Value) (f : Nat → Option S40) (next id : Int) (w : World) (h : DocF w v f next) :
    Calls Try.prog 39 #[v, .int .i64 id] w fun e w' => e = .returned (.func (.func 74) #[] #[.pointer (some ⟨w.heap.size + 1, 0, none⟩), .pointer (some ⟨w.heap.size, 0, none⟩)]) ∧ w' = (w.alloc (.cells #[v] 25)).alloc (.cells #[.int .i64 id] 3) := by
  obtain ⟨b, t, rfl, _, _⟩ := h
  go_enter Try.func39, Try.ntmps39
  go_wp2_with fail
  go_ret
  exact ⟨rfl, rfl⟩
theorem under_seq (n : Nat) (hn : 1 ≤ n) (v : Value) (f : Nat → Option S40) (next id : Int) (w W : World) (h : DocF w v f next) (hg : Good f next) (hW : Below w.heap.size ((w.alloc (.cells #[v] 25)).alloc (.cells #[.int .i64 id] 3)) W)
    (h1 : W.heap[w.heap.size]? = some (.cells #[v] 25 (0, 0))) (h2 : W.heap[w.heap.size + 1]? = some (.cells #[.int .i64 id] 3 (0, 0))) :
    SeqStopsO Fence.wide n Try.prog 74 #[.pointer (some ⟨w.heap.size + 1, 0, none⟩), .pointer (some ⟨w.heap.size, 0, none⟩)] encI w.heap.size (fun k => k = w.heap.size + 1 ∨ k = w.heap.size) (fun xs => xs = pre f id) (fun p => p <+: pre f id) (pre f id).length W :=
  under1_in n hn v f next id w.heap.size (w.heap.size + 1) w W h hg ((below_alloc (below_alloc (Below.refl _ w) _) _).trans hW) (blk_cell h1 0) (blk_cell h2 0) (blk_lt h1) (blk_lt h2)
def Holds1 (w : World) (B : Nat) (pre : List Int) (O : Nat → Prop) (W : World) : Prop :=
  (∃ u, Boxed W B 29 u ∧ W.ownsRow w.heap.size 3 1 u pre.length (pre.map (Value.int .i64)) ∧ ∀ j, u.ownBlock = some j → ¬ O j) ∧ Below w.heap.size w W
theorem own_cells {W : World} {base : Nat} {u : Value} {n : Nat} {xs : List Value} (h : W.ownsRow base 3 1 u n xs) (j : Nat) (e : u.ownBlock = some j) : base ≤ j ∧ j < W.heap.size ∧ ∃ cur, W.heap[j]? = some (.cells cur 3 (0, 0)) := by
  rcases h.2 with ⟨rfl, _⟩ | ⟨g, cap, cur, rfl, hb, hgb, _⟩
  · simp [Value.ownBlock] at e
  · obtain rfl : g = j := by simpa [Value.ownBlock] using e
    exact ⟨hb, blk_lt hgb, cur, hgb⟩
theorem holds1_abides (w : World) (B C : Nat) (hB : B < C) (hw : w.heap.size ≤ B) : AbidesO C (Holds1 w B) := by
  rintro p O O' W W' ⟨⟨u, hb, hr, hn⟩, hbw⟩ hs hO hO'
  have hlt : B < W.heap.size := blk_lt hb
  refine ⟨⟨u, (hs.block B hlt (fun h => by have := (hO B h).1; omega) (fun h => by omega)).trans hb, own_move hr (fun j e => ?_), fun j e h => ?_⟩, ?_⟩
  · obtain ⟨_, h2, cur, h3⟩ := own_cells hr j e
    exact hs.block j h2 (hn j e) (fun _ => ⟨_, h3, rfl⟩)
  · obtain ⟨_, h2, _⟩ := own_cells hr j e
    rcases (hO' j h).1 with h3 | h3
    · exact hn j e h3
    · omega
  · refine hbw.trans ⟨hs.os, hs.tape, hs.output, hs.size, fun k hk => ?_⟩
    have h4 := hbw.size
    exact hs.block k (by omega) (fun h => by have := (hO k h).1; omega) (fun h => by omega)
set_option maxHeartbeats 4000000 in
set_option maxRecDepth 100000 in
theorem appendseq_in (n : Nat) (h1 : 2 ≤ n) (g : Nat) (lb : Array Value) (eg : ∀ args w, (callFunc g args).run Try.prog w = .ok (.enter g args) w) (n₀ : Nat) (K : Nat → Prop) (S Sp : List Int → Prop) (N : Nat) (hN : N ≤ 1048576) (hSN : ∀ xs, S xs → xs.length ≤ N)
    (w : World) (hn₀ : n₀ ≤ w.heap.size) (hK : ∀ k, K k → k < w.heap.size) (hseq : SeqStopsO Fence.wide (n - 1) Try.prog g lb encI n₀ K S Sp N w) :
    CallsIn Fence.wide n Try.prog 76 #[.slice none 0 0, .func (.func g) #[] lb] w fun e w' => ∃ (v : Value) (xs : List Int), e = .returned v ∧ S xs ∧ w'.ownsRow w.heap.size 3 1 v xs.length (xs.map (Value.int .i64)) ∧ Below w.heap.size w w' := by
  have h2 : 1 ≤ n := by omega
  obtain ⟨i0, hi, hz0, hz1, hz2⟩ := info_parts info3
  refine callsIn_of_wp_marks Try.func76 rfl trivial ?_ rfl
  simp only [Try.ntmps76, List.size_toArray, List.length_cons, List.length_nil, Nat.reduceAdd, Nat.reduceSub, Array.replicate_succ, Array.replicate_zero, List.push_toArray, List.append_toArray, List.nil_append, List.cons_append]
  gi_wp2
  have bO := Boxed.new w 29 (.slice none 0 0)
  have hB0 : Below w.heap.size w (w.alloc (.cells #[.slice none 0 0] 29)) := (Below.refl _ w).alloc (Nat.le_refl _) _
  refine wpIn_rangeFunc_ownO rfl h2 (gf := g) (lb := lb) rfl trivial eg (w0 := w) hseq (fun k h => by have := hK k h; simp; omega) (by simp; omega) hB0 (fun _ => rfl)
    (Holds1 w w.heap.size) (fun _ _ _ _ => False) (holds1_abides w _ _ (by simp) (Nat.le_refl _)) (fun _ _ _ _ _ _ hs _ _ _ => hs)
    ⟨⟨_, bO, World.ownsRow_nil _ _ _ _, fun j e => by simp [Value.ownBlock] at e⟩, hB0⟩
    (fun x => { tmps := #[.slice none 0 0, .func (.func g) #[] lb, .pointer (some ⟨w.heap.size, 0, none⟩), undef, .slice none 0 0, .int .i64 x, .func (.func g) #[] lb, .int .i64 x, undef, undef, undef, undef, undef], defers := [] }) ?assign ?body ?done ?stop
  case assign =>
    intro l x W K2 hK2
    gi_wp2
    exact hK2
  case body =>
    rintro l p x O W ⟨⟨u, hv, hrow, hnO⟩, hB⟩ hO hlt
    have hc := hv.cell
    have hsz := hB.size
    gi_wp2_with (gi_at_builtin; refine stopIt ?_)
    unfold Stop
    refine wpListIn_append_own_at _ rfl _ _ 29 rfl w.heap.size 3 i0 (.int .i64 0) 1 8 Try.underlying29 hi hz0 hz1 hz2 rfl (by decide) _ _ _ rfl (hrow.alloc _) ⟨W.heap.size, 0, none⟩ 1 1 [.int .i64 x] rfl rfl (cell_one_new _ _ _) (by simp [Value.oneCell']) (by unfold maxLen; omega) (by omega) (by simp; omega) ?_
    intro v' w1 hown' hgrow _ hat
    obtain ⟨g', cap', rfl⟩ := ownsRow_succ hown'
    obtain ⟨hv1, hv2, hr2, hk2, hb2⟩ := hv.appended (by decide) hrow hB.size (Nat.le_refl _) hown' hgrow
    have hc1 := hv1.cell
    have hf1 := hv1.frozen
    gi_wp2
    have hgr : (W.alloc (.cells #[.int .i64 x] 3)).grownBy w1 u.ownBlock := hgrow
    have hat2 : some g' = u.ownBlock ∨ some g' = some (W.alloc (.cells #[.int .i64 x] 3)).heap.size := hat
    rw [World.size_alloc] at hat2
    have far : ∀ k, k < W.heap.size → k ≠ w.heap.size → some k ≠ u.ownBlock → (w1.setCell ⟨w.heap.size, 0, none⟩ (.slice (some ⟨g', 0, none⟩) (p.length + 1) cap')).heap[k]? = W.heap[k]? := fun k hk hne ho =>
      (Below.heap_setCell _ _ _ k hne).trans ((hgr.block k (by simp; omega) ho).trans (Below.heap_alloc _ _ k hk))
    refine ⟨hk2, hb2.mono hn₀, fun k hk => ?_, ⟨_, hv2, by simpa using hr2, fun j e h => ?_⟩, hB.trans hb2⟩
    · rcases hk with hk | hk
      · have h3 := hO k hk
        simp at h3
        exact far k h3.2 (by omega) (fun e => hnO k e.symm hk)
      · have h3 := hK k hk
        exact far k (by omega) (by omega) (fun e => by have := (own_cells hrow k e.symm).1; omega)
    · have h3 := (hO j h).2
      have h4 : j = g' := by simp [Value.ownBlock] at e; exact e.symm
      rcases hat2 with h5 | h5
      · exact hnO j (by rw [h4, ← h5]) h
      · injection h5 with h5; omega
  case done =>
    rintro D xs O W hD hS ⟨⟨u, hv, hrow, hnO⟩, hB⟩ hO hOD hKD
    have hc := hv.cell
    gi_wp2
    refine ⟨by simp, .inl ⟨_, _, rfl, run_takeDeferred hKD, ?_⟩⟩
    exact ⟨_, results_tmp rfl _ _ _, u, xs, rfl, hS, ownsRow_putObj hrow _ hKD rfl, hB.trans (belowK_b (w := w) (Nat.le_refl _) W D _ _ (by simp at hD; omega) hKD rfl rfl)⟩
  case stop =>
    rintro D c p O W _ _ h _ _
    exact h.elim
set_option maxHeartbeats 4000000 in
set_option maxRecDepth 100000 in
theorem collect_calls (g : Nat) (lb : Array Value) (eg : ∀ args w, (callFunc g args).run Try.prog w = .ok (.enter g args) w) (n₀ : Nat) (K : Nat → Prop) (S Sp : List Int → Prop) (N : Nat) (hN : N ≤ 1048576) (hSN : ∀ xs, S xs → xs.length ≤ N)
    (w : World) (hn₀ : n₀ ≤ w.heap.size) (hK : ∀ k, K k → k < w.heap.size) (hseq : SeqStopsO Fence.wide 8 Try.prog g lb encI n₀ K S Sp N w) :
    Calls Try.prog 40 #[.func (.func g) #[] lb] w fun e w' => ∃ (v : Value) (xs : List Int), e = .returned v ∧ S xs ∧ w'.ownsRow w.heap.size 3 1 v xs.length (xs.map (Value.int .i64)) ∧ Below w.heap.size w w' := by
  have HA := Aside0.mk (callsIn_wide.1 (appendseq_in 9 (by omega) g lb eg n₀ K S Sp N hN hSN w hn₀ hK hseq))
  clear hseq
  go_enter Try.func40, Try.ntmps40
  go_wp2_with (first | (go_at_call 76; refine HA.out.mono ?_; rintro e W1 ⟨v, xs, rfl, hS, hr, hb⟩) | fail)
  go_ret
  exact ⟨v, xs, rfl, hS, hr, hb⟩
theorem enters74 : ∀ args w, (callFunc 74 args).run Try.prog w = .ok (.enter 74 args) w := enters_of Try.func74 (by kernel_rfl) rfl
theorem order_calls (v : Value) (f : Nat → Option S40) (next : Int) (w : World) (h : DocF w v f next) (hg : Good f next) :
    Calls Try.prog 15 #[v] w fun e w' => ∃ u, e = .returned u ∧ Kd.R (Kd.int .i64) 3 w' w.heap.size (fun _ => True) u (pre f 1) ∧ Below w.heap.size w w' := by
  have h1 := blk_new w (.cells #[v] 25)
  have h2 := blk_new (w.alloc (.cells #[v] 25)) (.cells #[.int .i64 1] 3)
  rw [World.size_alloc] at h2
  have h1' := blk_below h1 (below_alloc (Below.refl _ (w.alloc (.cells #[v] 25))) (.cells #[.int .i64 1] 3))
  have hs : ((w.alloc (.cells #[v] 25)).alloc (.cells #[.int .i64 1] 3)).heap.size = w.heap.size + 2 := by simp
  have HC := Aside0.mk (collect_calls 74 _ enters74 _ _ _ _ _ (pre_len hg 1) (fun xs e => by rw [e]; exact Nat.le_refl _) _ (by rw [hs]; omega) (fun k hk => by rw [hs]; omega) (under_seq 8 (by omega) v f next 1 w _ h hg (Below.refl _ _) h1' h2))
  have HU := Aside0.mk (under_calls v f next 1 w h)
  obtain ⟨b, t, rfl, _, _⟩ := h
  clear h1 h2 h1'
  go_enter Try.func15, Try.ntmps15
  go_wp2_with (first
    | (go_at_call 39; refine HU.out.mono ?_; rintro e W1 ⟨rfl, rfl⟩)
    | (go_at_call 40; refine HC.out.mono ?_; rintro e W2 ⟨u, xs, rfl, rfl, hr, hb⟩)
    | fail)
  go_ret
  refine ⟨u, rfl, Kd.R_lower (Kd.R_of_own (enc := Value.int .i64) (h1 := fun _ => rfl) (by simpa [encs] using hr) (fun _ _ => trivial)) (by first | omega | (rw [hs]; omega)), ?_⟩
  exact (below_alloc (below_alloc (Below.refl _ w) _) _).trans (hb.mono (by first | omega | (rw [hs]; omega)))
end Go.Proofs.Ytpnlbmeeihbjaaa.P
end
section
set_option linter.unusedVariables false
set_option linter.unusedSimpArgs false
namespace Go.Proofs.Ytpnlbmeeihbjaaa.P
open Go.RowKit Go.Shelf Go.Maps Go.Proofs.YtpnlbmeeihbjaaaW.PrintWords Go.Proofs.YtpnlbmeeihbjaaaW.PrintLast Go.Proofs.YtpnlbmeeihbjaaaW.PrintMore
attribute [local go_sem] max2_int min2_int max_two min_two max_three min_three max_four min_four Oper.semAt_some
set_option linter.unusedVariables false
set_option linter.unusedSimpArgs false
def firstR (l : List Int) (most : Int) : List Int := if 0 ≤ most ∧ most < l.length then l.take most.toNat else l
theorem seq_not_nil (lb : Array Value) (W : World) : (binOp .eql 64 (.func (.func 74) #[] lb) .nilFunc).run Try.prog W = .ok (.bool false) W := by
  have h : (Op.equal 64 (.func (.func 74) #[] lb) .nilFunc).run Try.prog W = .ok false W := by
    unfold Op.equal
    rw [show Op.maxDepth = (Op.maxDepth - 1) + 1 from rfl]
    unfold Op.equalIn
    simp [go_sem, run_underlying Try.underlying64]
  simp [go_sem, binOp, h]
attribute [local go_sem] seq_not_nil
def Holds2 (w : World) (most : Int) (p : List Int) (O : Nat → Prop) (W : World) : Prop :=
  (∃ u, Boxed W (w.heap.size + 1) 29 u ∧ W.ownsRow (w.heap.size + 4) 3 1 u p.length (p.map (Value.int .i64)) ∧ ∀ j, u.ownBlock = some j → ¬ O j) ∧ Below w.heap.size w W ∧ Boxed W w.heap.size 3 (.int .i64 most) ∧ w.heap.size + 4 ≤ W.heap.size
theorem holds2_abides (w : World) (most : Int) (C : Nat) (hC : w.heap.size + 4 ≤ C) : AbidesO C (Holds2 w most) := by
  rintro p O O' W W' ⟨⟨u, hb, hr, hn⟩, hbw, hm, hsw⟩ hs hO hO'
  have hlt : w.heap.size + 1 < W.heap.size := blk_lt hb
  refine ⟨⟨u, (hs.block _ hlt (fun h => by have := (hO _ h).1; omega) (fun h => by omega)).trans hb, own_move hr (fun j e => ?_), fun j e h => ?_⟩, ?_, (hs.block _ (by omega) (fun h => by have := (hO _ h).1; omega) (fun h => by omega)).trans hm, Nat.le_trans hsw hs.size⟩
  · obtain ⟨_, h2, cur, h3⟩ := own_cells hr j e
    exact hs.block j h2 (hn j e) (fun _ => ⟨_, h3, rfl⟩)
  · obtain ⟨_, h2, _⟩ := own_cells hr j e
    rcases (hO' j h).1 with h3 | h3
    · exact hn j e h3
    · omega
  · refine hbw.trans ⟨hs.os, hs.tape, hs.output, hs.size, fun k hk => ?_⟩
    have h4 := hbw.size
    exact hs.block k (by omega) (fun h => by have := (hO k h).1; omega) (fun h => by omega)
theorem own_slice {W : World} {base : Nat} {u : Value} {n : Nat} {xs : List Value} (h : W.ownsRow base 3 1 u n xs) : ∃ A c, u = .slice A n c := by
  rcases h.2 with ⟨rfl, rfl⟩ | ⟨g, cap, cur, rfl, _⟩
  · exact ⟨_, _, rfl⟩
  · exact ⟨_, _, rfl⟩
set_option maxHeartbeats 8000000 in
set_option maxRecDepth 100000 in
theorem list_calls (v : Value) (f : Nat → Option S40) (next id most : Int) (w : World) (h : DocF w v f next) (hg : Good f next) :
    Calls Try.prog 14 #[v, .int .i64 id, .int .i64 most] w fun e w' => ∃ u, e = .returned u ∧ Kd.R (Kd.int .i64) 3 w' w.heap.size (fun _ => True) u (firstR (pre f id) most) ∧ Below w.heap.size w w' := by
  obtain ⟨i0, hi, hz0, hz1, hz2⟩ := info_parts info3
  refine (callsIn_wide (n := 9)).1 ?_
  refine callsIn_of_wp_marks Try.func14 rfl trivial ?_ rfl
  simp only [Try.ntmps14, List.size_toArray, List.length_cons, List.length_nil, Nat.reduceAdd, Nat.reduceSub, Array.replicate_succ, Array.replicate_zero, List.push_toArray, List.append_toArray, List.nil_append, List.cons_append]
  obtain ⟨W0, hW0⟩ : ∃ W0, W0 = (w.alloc (.cells #[.int .i64 most] 3)).alloc (.cells #[.slice none 0 0] 29) := ⟨_, rfl⟩
  have hb0 : Below w.heap.size w W0 := by rw [hW0]; exact below_alloc (below_alloc (Below.refl _ w) _) _
  have hs0 : W0.heap.size = w.heap.size + 2 := by rw [hW0]; simp
  have hD0 : DocF W0 v f next := h.below hb0
  have HU := Aside0.mk (under_calls v f next id W0 hD0)
  have hL : ∀ WL, WL = (W0.alloc (.cells #[v] 25)).alloc (.cells #[.int .i64 id] 3) → WL.heap.size = w.heap.size + 4 ∧ Below w.heap.size w WL ∧ WL.heap[w.heap.size]? = some (.cells #[.int .i64 most] 3 (0, 0)) ∧ WL.heap[w.heap.size + 1]? = some (.cells #[.slice none 0 0] 29 (0, 0)) ∧
      SeqStopsO Fence.wide 8 Try.prog 74 #[.pointer (some ⟨w.heap.size + 2 + 1, 0, none⟩), .pointer (some ⟨w.heap.size + 2, 0, none⟩)] encI w.heap.size (fun k => k = w.heap.size + 2 + 1 ∨ k = w.heap.size + 2) (fun xs => xs = pre f id) (fun p => p <+: pre f id) (pre f id).length WL := by
    intro WL hWL
    have h1 := blk_new W0 (.cells #[v] 25)
    have h2 := blk_new (W0.alloc (.cells #[v] 25)) (.cells #[.int .i64 id] 3)
    rw [World.size_alloc] at h2
    have h1' := blk_below h1 (below_alloc (Below.refl _ (W0.alloc (.cells #[v] 25))) (.cells #[.int .i64 id] 3))
    have hbL : Below W0.heap.size W0 WL := by rw [hWL]; exact below_alloc (below_alloc (Below.refl _ W0) _) _
    rw [← hWL] at h2 h1'
    have hsL : WL.heap.size = w.heap.size + 4 := by rw [hWL]; simp; omega
    have a1 := blk_new w (.cells #[.int .i64 most] 3)
    have a2 := blk_new (w.alloc (.cells #[.int .i64 most] 3)) (.cells #[.slice none 0 0] 29)
    rw [World.size_alloc] at a2
    have a1' := blk_below a1 (below_alloc (Below.refl _ (w.alloc (.cells #[.int .i64 most] 3))) (.cells #[.slice none 0 0] 29))
    rw [← hW0] at a1' a2
    rw [hs0] at h1' h2
    have hb1 : Below w.heap.size w WL := hb0.trans (hbL.mono (by omega))
    exact ⟨hsL, hb1, blk_below a1' hbL, blk_below a2 hbL, under1_in 8 (by omega) v f next id (w.heap.size + 2) (w.heap.size + 2 + 1) w WL h hg hb1 (blk_cell h1' 0) (blk_cell h2 0) (by omega) (by omega)⟩
  have HL := Aside0.mk (hL _ rfl)
  clear hL hb0 hs0 hD0
  subst hW0
  gi_wp2_with (first | (refine ⟨trivial, ?_⟩; gi_at_call 39; refine (callsIn_wide.2 HU.out).mono ?_; rintro e W1 ⟨rfl, rfl⟩) | fail)
  generalize ((((w.alloc (.cells #[.int .i64 most] 3)).alloc (.cells #[.slice none 0 0] 29)).alloc (.cells #[v] 25)).alloc (.cells #[.int .i64 id] 3)) = WL at HL ⊢
  obtain ⟨hsL, hbL, hm0, hl0, hsq⟩ := HL.out
  refine wpIn_rangeFunc_ownO rfl (by omega) (gf := 74) (lb := #[.pointer (some ⟨w.heap.size + 2 + 1, 0, none⟩), .pointer (some ⟨w.heap.size + 2, 0, none⟩)]) rfl trivial enters74 (w0 := WL) hsq (fun k h => by omega) (by omega) (Below.refl _ _) (fun _ => rfl)
    (fun p O W => Holds2 w most p O W ∧ ¬ (0 ≤ most ∧ most < p.length)) (fun c p O W => Holds2 w most p.dropLast O W ∧ (c = .exit 0 ∧ most = p.dropLast.length ∧ p ≠ [])) ?hI ?hIx ?h0
    (fun x => { tmps := #[v, .int .i64 id, .int .i64 most, undef, undef, .pointer (some ⟨w.heap.size, 0, none⟩), .slice none 0 0, .pointer (some ⟨w.heap.size + 1, 0, none⟩), .func (.func 74) #[] #[.pointer (some ⟨w.heap.size + 2 + 1, 0, none⟩), .pointer (some ⟨w.heap.size + 2, 0, none⟩)], .int .i64 x, v, .int .i64 id, .func (.func 74) #[] #[.pointer (some ⟨w.heap.size + 2 + 1, 0, none⟩), .pointer (some ⟨w.heap.size + 2, 0, none⟩)], .func (.func 74) #[] #[.pointer (some ⟨w.heap.size + 2 + 1, 0, none⟩), .pointer (some ⟨w.heap.size + 2, 0, none⟩)], .bool false, undef, .func (.func 74) #[] #[.pointer (some ⟨w.heap.size + 2 + 1, 0, none⟩), .pointer (some ⟨w.heap.size + 2, 0, none⟩)], .int .i64 x, undef, undef, undef, undef, undef, undef, undef, undef, undef], defers := [] }) ?assign ?body ?done ?stop
  case hI =>
    rintro p O O' W W' ⟨h, hp⟩ hs hO hO'
    exact ⟨holds2_abides w most _ (by omega) p O O' W W' h hs hO hO', hp⟩
  case hIx =>
    rintro c p O O' W W' ⟨h, hp⟩ hs hO hO'
    exact ⟨holds2_abides w most _ (by omega) p.dropLast O O' W W' h hs hO hO', hp⟩
  case h0 =>
    exact ⟨⟨⟨_, hl0, World.ownsRow_nil _ _ _ _, fun j e => by simp [Value.ownBlock] at e⟩, hbL, hm0, by omega⟩, by simp⟩
  case assign =>
    intro l x W K2 hK2
    gi_wp2
    exact hK2
  case body =>
    rintro l p x O W ⟨⟨⟨u, hv, hrow, hnO⟩, hB, hm, hsW⟩, hp⟩ hO hlt
    have hpl := pre_len hg id
    obtain ⟨A, c, rfl⟩ := own_slice hrow
    have hc := hv.cell
    have hcm := blk_cell hm 0
    have hcm' : W.cell? ⟨w.heap.size, 0, none⟩ = some (.int .i64 most) := hcm
    have hsz := hB.size
    have HH := Aside0.mk (And.intro hB (And.intro hO (And.intro hsL hp)))
    have HSW := Aside0.mk hsW
    by_cases c0 : (p.length : Int) = most
    · have d0 : ((p.length : Int) == most) = true := by simp [c0]
      have HC := Aside0.mk c0
      clear hB hO hsL hp c0 hlt hpl hsz hsW
      gi_wp2
      refine ⟨KeepsOthers.refl _, ?_⟩
      show Holds2 w most (p ++ [x]).dropLast O W ∧ _
      rw [List.dropLast_concat]
      exact ⟨⟨⟨_, hv, hrow, hnO⟩, HH.out.1, hm, HSW.out⟩, rfl, HC.out.symm, by simp⟩
    · have d0 : ((p.length : Int) == most) = false := by simp [c0]
      have HC := Aside0.mk c0
      have HLB : Aside0 (p.length + 1 ≤ 1048576 ∧ w.heap.size + 4 ≤ W.heap.size) := ⟨by omega, hsW⟩
      clear hB hO hsL hp c0 hlt hpl hsz hsW
      gi_wp2_with (gi_at_builtin; refine wpListIn_append_own_at _ rfl _ _ 29 rfl (w.heap.size + 4) 3 i0 (.int .i64 0) 1 8 Try.underlying29 hi hz0 hz1 hz2 rfl (by decide) _ _ _ rfl (hrow.alloc _) ⟨W.heap.size, 0, none⟩ 1 1 [.int .i64 x] rfl rfl (cell_one_new _ _ _) (by simp [Value.oneCell']) (by have := HLB.out; unfold maxLen; omega) (by have := HLB.out; omega) (by have := HLB.out; simp; omega) ?_; intro v' w1 hown' hgrow _ hat; obtain ⟨g', cap', rfl⟩ := ownsRow_succ hown'; obtain ⟨hv1, hv2, hr2, hk2, hb2⟩ := hv.appended (by decide) (own_weaken (base' := w.heap.size) hrow (by omega)) HH.out.1.size (by omega) (own_weaken (base' := w.heap.size) hown' (by omega)) hgrow; have hc1 := hv1.cell; have hf1 := hv1.frozen)
      have hsW := HSW.out
      have hgr : (W.alloc (.cells #[.int .i64 x] 3)).grownBy w1 (Value.slice A p.length c).ownBlock := hgrow
      have hat2 : some g' = (Value.slice A p.length c).ownBlock ∨ some g' = some (W.alloc (.cells #[.int .i64 x] 3)).heap.size := hat
      rw [World.size_alloc] at hat2
      have far : ∀ k, k < W.heap.size → k ≠ w.heap.size + 1 → some k ≠ (Value.slice A p.length c).ownBlock → (w1.setCell ⟨w.heap.size + 1, 0, none⟩ (.slice (some ⟨g', 0, none⟩) (p.length + 1) cap')).heap[k]? = W.heap[k]? := fun k hk hne ho =>
        (Below.heap_setCell _ _ _ k hne).trans ((hgr.block k (by simp; omega) ho).trans (Below.heap_alloc _ _ k hk))
      have hO := HH.out.2.1
      have hsL := HH.out.2.2.1
      have hp := HH.out.2.2.2
      have hc0 := HC.out
      refine ⟨hk2, hb2, fun k hk => ?_, ⟨⟨_, hv2, ?_, fun j e h => ?_⟩, HH.out.1.trans hb2, (far _ (by omega) (by omega) (fun e => by have := (own_cells hrow _ e.symm).1; omega)).trans hm, by have := hb2.size; omega⟩, by simp; omega⟩
      · rcases hk with hk | hk
        · have h3 := hO k hk
          exact far k h3.2 (by omega) (fun e => hnO k e.symm hk)
        · exact far k (by omega) (by omega) (fun e => by have := (own_cells hrow k e.symm).1; omega)
      · have h6 := own_move hown' (w1 := w1.setCell ⟨w.heap.size + 1, 0, none⟩ (.slice (some ⟨g', 0, none⟩) (p.length + 1) cap')) (fun k e => Below.heap_setCell _ _ _ k (by have := (own_cells hown' k e).1; show k ≠ w.heap.size + 1; omega))
        simpa using h6
      · have h3 := (hO j h).2
        have h4 : j = g' := by simp [Value.ownBlock] at e; exact e.symm
        rcases hat2 with h5 | h5
        · exact hnO j (by rw [h4, ← h5]) h
        · injection h5 with h5; omega
  case done =>
    rintro D xs O W hD rfl ⟨⟨⟨u, hv, hrow, hnO⟩, hB, hm, hsW⟩, hp⟩ hO hOD hKD
    have hc := hv.cell
    clear HU HL hsq
    gi_wp2
    refine ⟨by simp, .inl ⟨_, _, rfl, run_takeDeferred hKD, ?_⟩⟩
    refine ⟨_, results_tmp rfl _ _ _, u, rfl, ?_, hB.trans (belowK_b (w := WL) (by omega) W D _ _ hD hKD rfl rfl)⟩
    rw [show firstR (pre f id) most = pre f id from if_neg hp]
    exact Kd.R_of_own (enc := Value.int .i64) (h1 := fun _ => rfl) (by simpa [encs] using own_weaken (base' := w.heap.size) (ownsRow_putObj hrow _ hKD rfl) (by omega)) (fun _ _ => trivial)
  case stop =>
    rintro D c p O W hD hSp ⟨⟨⟨u, hv, hrow, hnO⟩, hB, hm, hsW⟩, rfl, hp, hne⟩ hOD hKD
    have hc := hv.cell
    clear HU HL hsq
    gi_wp2
    refine ⟨by simp, .inl ⟨_, _, rfl, run_takeDeferred hKD, ?_⟩⟩
    refine ⟨_, results_tmp rfl _ _ _, u, rfl, ?_, hB.trans (belowK_b (w := WL) (by omega) W D _ _ hD hKD rfl rfl)⟩
    have hfr : firstR (pre f id) most = p.dropLast := by
      obtain ⟨r, hr⟩ := hSp
      have hlen : p.dropLast.length + 1 = p.length := by have := List.length_pos_iff.2 hne; simp; omega
      unfold firstR
      rw [if_pos ⟨by omega, by rw [← hr, List.length_append]; omega⟩, hp, Int.toNat_natCast, ← hr, ← List.dropLast_concat_getLast hne, List.append_assoc, List.dropLast_concat, List.take_left]
    rw [hfr]
    exact Kd.R_of_own (enc := Value.int .i64) (h1 := fun _ => rfl) (by simpa [encs] using own_weaken (base' := w.heap.size) (ownsRow_putObj hrow _ hKD rfl) (by omega)) (fun _ _ => trivial)
end Go.Proofs.Ytpnlbmeeihbjaaa.P
end
section
set_option linter.unusedVariables false
set_option linter.unusedSimpArgs false
namespace Go.Proofs.Ytpnlbmeeihbjaaa.P
open Go.RowKit Go.Shelf Go.Maps Go.Proofs.YtpnlbmeeihbjaaaW.PrintWords Go.Proofs.YtpnlbmeeihbjaaaW.PrintLast Go.Proofs.YtpnlbmeeihbjaaaW.PrintMore
attribute [local go_sem] max2_int min2_int max_two min_two max_three min_three max_four min_four Oper.semAt_some
set_option linter.unusedVariables false
set_option linter.unusedSimpArgs false
theorem idx_here {q r : List Int} {x : Int} (h : x ∉ q) : (q ++ [x] ++ r).idxOf x = q.length := by
  rw [List.append_assoc, List.idxOf_append, if_neg h, List.cons_append, idxOf_same]; omega
theorem idx_past {q r : List Int} {x y : Int} (h : y ∉ q) (hn : y ≠ x) : q.length + 1 ≤ (q ++ [x] ++ r).idxOf y := by
  rw [List.append_assoc, List.idxOf_append, if_neg h, List.cons_append, idxOf_ne (Ne.symm hn)]; omega
structure Cmp3 (w : World) (a b r : Int) (W : World) : Prop where
  h1 : W.heap[w.heap.size]? = some (.cells #[.int .i64 a] 3 (0, 0))
  h2 : W.heap[w.heap.size + 1]? = some (.cells #[.int .i64 b] 3 (0, 0))
  h3 : W.heap[w.heap.size + 2]? = some (.cells #[.int .i64 r] 3 (0, 0))
  hb : Below w.heap.size w W
theorem Cmp3.below {w : World} {a b r : Int} {W W' : World} (h : Cmp3 w a b r W) (hb : Below W.heap.size W W') : Cmp3 w a b r W' :=
  ⟨blk_below h.h1 hb, blk_below h.h2 hb, blk_below h.h3 hb, below_then h.hb h.hb.size hb⟩
theorem cmp3_abides {w : World} {a b r : Int} {C : Nat} (hC : w.heap.size + 3 ≤ C) {O : Nat → Prop} {W W' : World} (h : Cmp3 w a b r W) (hs : IStep C O W W') (hO : ∀ k, O k → C ≤ k ∧ k < W.heap.size) : Cmp3 w a b r W' := by
  obtain ⟨h1, h2, h3, h4⟩ := h
  have l3 := blk_lt h3
  have far : ∀ k, k < w.heap.size + 3 → k < W.heap.size → W'.heap[k]? = W.heap[k]? := fun k hk hl => hs.block k hl (fun h => by have := (hO k h).1; omega) (fun h => by omega)
  exact ⟨(far _ (by omega) (by omega)).trans h1, (far _ (by omega) (by omega)).trans h2, (far _ (by omega) (by omega)).trans h3, h4.trans ⟨hs.os, hs.tape, hs.output, hs.size, fun k hk => far k (by omega) (by have := h4.size; omega)⟩⟩
set_option maxHeartbeats 8000000 in
set_option maxRecDepth 100000 in
theorem cmp_go (v : Value) (f : Nat → Option S40) (next a b : Int) (w : World) (h : DocF w v f next) (hg : Good f next) (hc : ¬ (look f a = none ∨ look f b = none ∨ a = b)) :
    Calls Try.prog 21 #[v, .int .i64 a, .int .i64 b] w fun e w' => e = .returned (.int .i64 (cmpR f a b)) ∧ Below w.heap.size w w' := by
  have hla : ∃ x, look f a = some x := by cases e : look f a with | none => exact absurd (.inl e) hc | some x => exact ⟨x, rfl⟩
  have hlb : ∃ x, look f b = some x := by cases e : look f b with | none => exact absurd (.inr (.inl e)) hc | some x => exact ⟨x, rfl⟩
  have hne : a ≠ b := fun e => hc (.inr (.inr e))
  have d1 : (((ch f a).length : Int) == 0) = false := by obtain ⟨x, hx⟩ := hla; have := ch_pos hg hx; exact beq_false_of_ne (by omega)
  have d2 : (((ch f b).length : Int) == 0) = false := by obtain ⟨x, hx⟩ := hlb; have := ch_pos hg hx; exact beq_false_of_ne (by omega)
  have d3 : (a == b) = false := by simpa using hne
  have hCR := cmp_some hc
  rw [hCR]
  obtain ⟨n1, hn1⟩ : ∃ n1, n1 = (ch f a).length := ⟨_, rfl⟩
  obtain ⟨n2, hn2⟩ : ∃ n2, n2 = (ch f b).length := ⟨_, rfl⟩
  rw [← hn1] at d1
  rw [← hn2] at d2
  have HN := Aside0.mk (And.intro hn1 hn2)
  have HP := Aside0.mk (And.intro ((pre_all hg a).2 hla) (And.intro ((pre_all hg b).2 hlb) hne))
  have HG := Aside0.mk hg
  obtain ⟨R, hR⟩ : ∃ R : Int, R = if (pre f 1).idxOf a < (pre f 1).idxOf b then -1 else 1 := ⟨_, rfl⟩
  rw [← hR]
  have HR := Aside0.mk hR
  have HD := Aside0.mk h
  have b1 := blk_new w (.cells #[.int .i64 a] 3)
  have b2 := blk_new (w.alloc (.cells #[.int .i64 a] 3)) (.cells #[.int .i64 b] 3)
  have b3 := blk_new ((w.alloc (.cells #[.int .i64 a] 3)).alloc (.cells #[.int .i64 b] 3)) (.cells #[.int .i64 0] 3)
  have b2' := blk_below b2 (below_alloc (Below.refl _ _) (.cells #[.int .i64 0] 3))
  have b1' := blk_below b1 (below_alloc (below_alloc (Below.refl _ _) (.cells #[.int .i64 b] 3)) (.cells #[.int .i64 0] 3))
  simp only [World.size_alloc] at b1' b2' b3
  have hb3 : Below w.heap.size w (((w.alloc (.cells #[.int .i64 a] 3)).alloc (.cells #[.int .i64 b] 3)).alloc (.cells #[.int .i64 0] 3)) := below_alloc (below_alloc (below_alloc (Below.refl _ _) _) _) _
  have HC0 : Aside0 (Cmp3 w a b 0 (((w.alloc (.cells #[.int .i64 a] 3)).alloc (.cells #[.int .i64 b] 3)).alloc (.cells #[.int .i64 0] 3))) := ⟨⟨b1', b2', b3, hb3⟩⟩
  clear hla hlb hne hn1 hn2 hg hR h b1 b2 b3 b1' b2' hb3 hCR hc
  refine (callsIn_wide (n := 9)).1 ?_
  refine callsIn_of_wp_marks Try.func21 rfl trivial ?_ rfl
  simp only [Try.ntmps21, List.size_toArray, List.length_cons, List.length_nil, Nat.reduceAdd, Nat.reduceSub, Array.replicate_succ, Array.replicate_zero, List.push_toArray, List.append_toArray, List.nil_append, List.cons_append]
  refine wpIn_wide.2 ?_
  go_upto_region 1 with fail
  generalize (((w.alloc (.cells #[.int .i64 a] 3)).alloc (.cells #[.int .i64 b] 3)).alloc (.cells #[.int .i64 0] 3)) = W0 at HC0 ⊢
  have q1 := blk_cell HC0.out.h1 0
  have q1' : W0.cell? ⟨w.heap.size, 0, none⟩ = some (.int .i64 a) := q1
  have q2' : W0.cell? ⟨w.heap.size + 1, 0, none⟩ = some (.int .i64 b) := blk_cell HC0.out.h2 0
  clear q1
  go_upto_region 3 with (first
    | (go_at_call 18; (with_reducible refine (wdepth_calls v f next a _ (HD.out.below HC0.out.hb) HG.out).mono ?_); rintro e W1 ⟨rfl, hb1⟩; rw [← HN.out.1]; have HC1 : Aside0 (Cmp3 w a b 0 W1) := ⟨HC0.out.below hb1⟩; have q3 : W1.cell? ⟨w.heap.size, 0, none⟩ = some (.int .i64 a) := blk_cell HC1.out.h1 0; have q4 : W1.cell? ⟨w.heap.size + 1, 0, none⟩ = some (.int .i64 b) := blk_cell HC1.out.h2 0; clear hb1)
    | (go_at_call 18; refine (wdepth_calls v f next b _ (HD.out.below HC1.out.hb) HG.out).mono ?_; rintro e W2 ⟨rfl, hb2⟩; rw [← HN.out.2]; have HC2 : Aside0 (Cmp3 w a b 0 W2) := ⟨HC1.out.below hb2⟩; have q5 : W2.cell? ⟨w.heap.size, 0, none⟩ = some (.int .i64 a) := blk_cell HC2.out.h1 0; have q6 : W2.cell? ⟨w.heap.size + 1, 0, none⟩ = some (.int .i64 b) := blk_cell HC2.out.h2 0; clear hb2)
    | fail)
  clear q1' q2' q3 q4 q5 q6 d1 d2 d3
  have hL : ∀ WL, WL = (W2.alloc (.cells #[v] 25)).alloc (.cells #[.int .i64 1] 3) → WL.heap.size = W2.heap.size + 2 ∧ Cmp3 w a b 0 WL ∧ SeqStopsO Fence.wide 8 Try.prog 74 #[.pointer (some ⟨W2.heap.size + 1, 0, none⟩), .pointer (some ⟨W2.heap.size, 0, none⟩)] encI W2.heap.size (fun k => k = W2.heap.size + 1 ∨ k = W2.heap.size) (fun xs => xs = pre f 1) (fun p => p <+: pre f 1) (pre f 1).length WL := by
    intro WL hWL
    have h1 := blk_new W2 (.cells #[v] 25)
    have h2 := blk_new (W2.alloc (.cells #[v] 25)) (.cells #[.int .i64 1] 3)
    rw [World.size_alloc] at h2
    have h1' := blk_below h1 (below_alloc (Below.refl _ (W2.alloc (.cells #[v] 25))) (.cells #[.int .i64 1] 3))
    have hs := under_seq 8 (by omega) v f next 1 W2 _ (HD.out.below HC2.out.hb) HG.out (Below.refl _ _) h1' h2
    rw [← hWL] at hs
    exact ⟨by rw [hWL]; simp, HC2.out.below (by rw [hWL]; exact below_alloc (below_alloc (Below.refl _ _) _) _), hs⟩
  have HL := Aside0.mk (hL _ rfl)
  clear hL
  have HU := Aside0.mk (under_calls v f next 1 W2 (HD.out.below HC2.out.hb))
  go_wp2_with (first | (go_at_call 39; refine HU.out.mono ?_; rintro e W3 ⟨rfl, rfl⟩) | fail)
  generalize (W2.alloc (.cells #[v] 25)).alloc (.cells #[.int .i64 1] 3) = WL at HL ⊢
  obtain ⟨hsL, hcL, hsq⟩ := HL.out
  have hs2 : w.heap.size + 3 ≤ W2.heap.size := by have := blk_lt HC2.out.h3; omega
  refine (wpIn_wide (n := 9)).1 ?_
  refine wpIn_rangeFunc_ownO rfl (by omega) (gf := 74) (lb := #[.pointer (some ⟨W2.heap.size + 1, 0, none⟩), .pointer (some ⟨W2.heap.size, 0, none⟩)]) rfl trivial enters74 (w0 := WL) hsq (fun k h => by omega) (by omega) (Below.refl _ _) (fun _ => rfl)
    (fun p O W => Cmp3 w a b 0 W ∧ (a ∉ p ∧ b ∉ p)) (fun c p O W => (∃ r, Cmp3 w a b r W ∧ (c = .ret ∧ ∃ q x, p = q ++ [x] ∧ a ∉ q ∧ b ∉ q ∧ ((x = a ∧ r = -1) ∨ (x = b ∧ r = 1))))) ?hI ?hIx ?h0
    (fun x => { tmps := #[v, .int .i64 a, .int .i64 b, undef, .pointer (some ⟨w.heap.size, 0, none⟩), .pointer (some ⟨w.heap.size + 1, 0, none⟩), .pointer (some ⟨w.heap.size + 1 + 1, 0, none⟩), .int .i64 x, v, .int .i64 a, .int .i64 n1, .bool false, .bool false, v, .int .i64 b, .int .i64 n2, .bool false, .bool false, .bool false, .int .i64 a, .int .i64 b, .bool false, .bool false, v, .func (.func 74) #[] #[.pointer (some ⟨W2.heap.size + 1, 0, none⟩), .pointer (some ⟨W2.heap.size, 0, none⟩)], .int .i64 x, undef, undef, undef, undef, undef, undef, undef], defers := [] }) ?assign ?body ?done ?stop
  case hI =>
    rintro p O O' W W' ⟨h, hp⟩ hs hO hO'
    exact ⟨cmp3_abides (by omega) h hs hO, hp⟩
  case hIx =>
    rintro c p O O' W W' ⟨r, h, hp⟩ hs hO hO'
    exact ⟨r, cmp3_abides (by omega) h hs hO, hp⟩
  case h0 => exact ⟨hcL, by simp, by simp⟩
  case assign =>
    intro l x W K2 hK2
    gi_wp2
    exact hK2
  case body =>
    rintro l p x O W ⟨h, hap, hbp⟩ hO hlt
    have q1 : W.cell? ⟨w.heap.size, 0, none⟩ = some (.int .i64 a) := blk_cell h.h1 0
    have q2 : W.cell? ⟨w.heap.size + 1, 0, none⟩ = some (.int .i64 b) := blk_cell h.h2 0
    have q3 : W.cell? ⟨w.heap.size + 1 + 1, 0, none⟩ = some (.int .i64 0) := blk_cell h.h3 0
    have q4 : W.frozen? ⟨w.heap.size + 1 + 1, 0, none⟩ = false := blk_frozen h.h3 0
    have HH := Aside0.mk (And.intro h (And.intro hap hbp))
    have hput : ∀ r : Int, Cmp3 w a b r (W.setCell ⟨w.heap.size + 2, 0, none⟩ (.int .i64 r)) := fun r => ⟨(Below.heap_setCell _ _ _ _ (by show w.heap.size ≠ w.heap.size + 2; omega)).trans h.h1, (Below.heap_setCell _ _ _ _ (by show w.heap.size + 1 ≠ w.heap.size + 2; omega)).trans h.h2, blk_put (cs := #[.int .i64 0]) h.h3 0 _ rfl, below_set h.hb (by omega)⟩
    have HPUT := Aside0.mk hput
    clear hput hap hbp h hO hlt hs2 hsL hcL hsq
    by_cases c0 : x = a
    · have d0 : (x == a) = true := by simpa using c0
      have HC := Aside0.mk c0
      clear c0
      gi_wp2
      exact ⟨KeepsOthers.setCell _ _ _, -1, HPUT.out (-1), rfl, p, x, rfl, HH.out.2.1, HH.out.2.2, .inl ⟨HC.out, rfl⟩⟩
    · have d0 : (x == a) = false := by simpa using c0
      by_cases c1 : x = b
      · have d1 : (x == b) = true := by simpa using c1
        have HC := Aside0.mk (And.intro c0 c1)
        clear c0 c1
        gi_wp2
        exact ⟨KeepsOthers.setCell _ _ _, 1, HPUT.out 1, rfl, p, x, rfl, HH.out.2.1, HH.out.2.2, .inr ⟨HC.out.2, rfl⟩⟩
      · have d1 : (x == b) = false := by simpa using c1
        have HC := Aside0.mk (And.intro c0 c1)
        clear c0 c1
        gi_wp2
        exact ⟨KeepsOthers.refl _, Below.refl _ _, fun _ _ => rfl, HH.out.1, fun hm => by rcases List.mem_append.1 hm with h1 | h1; exact HH.out.2.1 h1; exact HC.out.1 (List.mem_singleton.1 h1).symm, fun hm => by rcases List.mem_append.1 hm with h1 | h1; exact HH.out.2.2 h1; exact HC.out.2 (List.mem_singleton.1 h1).symm⟩
  case done =>
    rintro D xs O W hD rfl ⟨h, ha, hb⟩ hO hOD hKD
    exact absurd HP.out.1 ha
  case stop =>
    rintro D c p O W hD hSp ⟨r, h, rfl, q, x, rfl, haq, hbq, hx⟩ hOD hKD
    have hr : R = r := by
      obtain ⟨t, ht⟩ := hSp
      rw [HR.out, ← ht]
      rcases hx with ⟨rfl, rfl⟩ | ⟨rfl, rfl⟩
      · rw [if_pos]
        rw [idx_here haq]
        have := idx_past (r := t) (x := x) hbq (Ne.symm HP.out.2.2)
        omega
      · rw [if_neg]
        rw [idx_here hbq]
        have := idx_past (r := t) (x := x) haq HP.out.2.2
        omega
    clear HU HL hsq
    gi_wp2
    refine ⟨by simp, .inl ⟨_, _, rfl, run_takeDeferred hKD, ?_⟩⟩
    have hcr : W.cell? ⟨w.heap.size + 1 + 1, 0, none⟩ = some (.int .i64 r) := blk_cell h.h3 0
    have hc5 := cell_kept hcr (grownBy_putObj' _ D (.deferred none)) (fun r e => by cases e; exact ⟨_, hKD, rfl⟩)
    refine ⟨.int .i64 r, ?_, by rw [hr], h.hb.trans (belowK_b (w := w) (Nat.le_refl _) W D _ _ (by omega) hKD rfl rfl)⟩
    simp [results, Try.f21, go_sem, hc5]
set_option maxHeartbeats 8000000 in
set_option maxRecDepth 100000 in
theorem cmp_stop (v : Value) (f : Nat → Option S40) (next a b : Int) (w : World) (h : DocF w v f next) (hg : Good f next) (hc : look f a = none ∨ look f b = none ∨ a = b) :
    Calls Try.prog 21 #[v, .int .i64 a, .int .i64 b] w fun e w' => e = .returned (.int .i64 0) ∧ Below w.heap.size w w' := by
  have hnz : ∀ k, look f k ≠ none → (((ch f k).length : Int) == 0) = false := fun k hk => by
    cases e : look f k with
    | none => exact absurd e hk
    | some x => have := ch_pos hg e; exact beq_false_of_ne (by omega)
  have hz : ∀ k, look f k = none → (((ch f k).length : Int) == 0) = true := fun k hk => by rw [ch_none k hk]; rfl
  have h1 : (((ch f a).length : Int) == 0) = true ∨ ((((ch f a).length : Int) == 0) = false ∧ ((((ch f b).length : Int) == 0) = true ∨ ((((ch f b).length : Int) == 0) = false ∧ (a == b) = true))) := by
    by_cases ha : look f a = none
    · exact .inl (hz a ha)
    · by_cases hb : look f b = none
      · exact .inr ⟨hnz a ha, .inl (hz b hb)⟩
      · refine .inr ⟨hnz a ha, .inr ⟨hnz b hb, ?_⟩⟩
        rcases hc with h | h | h
        · exact absurd h ha
        · exact absurd h hb
        · simpa using h
  obtain ⟨n1, hn1⟩ : ∃ n1, n1 = (ch f a).length := ⟨_, rfl⟩
  obtain ⟨n2, hn2⟩ : ∃ n2, n2 = (ch f b).length := ⟨_, rfl⟩
  rw [← hn1, ← hn2] at h1
  have HN := Aside0.mk (And.intro hn1 hn2)
  have HG := Aside0.mk hg
  have HD := Aside0.mk h
  have b1 := blk_new w (.cells #[.int .i64 a] 3)
  have b2 := blk_new (w.alloc (.cells #[.int .i64 a] 3)) (.cells #[.int .i64 b] 3)
  have b3 := blk_new ((w.alloc (.cells #[.int .i64 a] 3)).alloc (.cells #[.int .i64 b] 3)) (.cells #[.int .i64 0] 3)
  have b2' := blk_below b2 (below_alloc (Below.refl _ _) (.cells #[.int .i64 0] 3))
  have b1' := blk_below b1 (below_alloc (below_alloc (Below.refl _ _) (.cells #[.int .i64 b] 3)) (.cells #[.int .i64 0] 3))
  simp only [World.size_alloc] at b1' b2' b3
  have hb3 : Below w.heap.size w (((w.alloc (.cells #[.int .i64 a] 3)).alloc (.cells #[.int .i64 b] 3)).alloc (.cells #[.int .i64 0] 3)) := below_alloc (below_alloc (below_alloc (Below.refl _ _) _) _) _
  have HC0 : Aside0 (Cmp3 w a b 0 (((w.alloc (.cells #[.int .i64 a] 3)).alloc (.cells #[.int .i64 b] 3)).alloc (.cells #[.int .i64 0] 3))) := ⟨⟨b1', b2', b3, hb3⟩⟩
  clear hnz hz hn1 hn2 hg h b1 b2 b3 b1' b2' hb3 hc
  go_enter Try.func21, Try.ntmps21
  go_upto_region 1 with fail
  generalize (((w.alloc (.cells #[.int .i64 a] 3)).alloc (.cells #[.int .i64 b] 3)).alloc (.cells #[.int .i64 0] 3)) = W0 at HC0 ⊢
  have q1' : W0.cell? ⟨w.heap.size, 0, none⟩ = some (.int .i64 a) := blk_cell HC0.out.h1 0
  have q2' : W0.cell? ⟨w.heap.size + 1, 0, none⟩ = some (.int .i64 b) := blk_cell HC0.out.h2 0
  rcases h1 with d1 | ⟨d1, d2 | ⟨d2, d3⟩⟩
  · go_wp2_with (first
    | (go_at_call 18; (with_reducible refine (wdepth_calls v f next a _ (HD.out.below HC0.out.hb) HG.out).mono ?_); rintro e W1 ⟨rfl, hb1⟩; rw [← HN.out.1]; have HC1 : Aside0 (Cmp3 w a b 0 W1) := ⟨HC0.out.below hb1⟩; have q3 : W1.cell? ⟨w.heap.size, 0, none⟩ = some (.int .i64 a) := blk_cell HC1.out.h1 0; have q4 : W1.cell? ⟨w.heap.size + 1, 0, none⟩ = some (.int .i64 b) := blk_cell HC1.out.h2 0; have r3 : W1.cell? ⟨w.heap.size + 1 + 1, 0, none⟩ = some (.int .i64 0) := blk_cell HC1.out.h3 0; have r4 : W1.frozen? ⟨w.heap.size + 1 + 1, 0, none⟩ = false := blk_frozen HC1.out.h3 0; clear hb1)
    | (go_at_call 18; refine (wdepth_calls v f next b _ (HD.out.below HC1.out.hb) HG.out).mono ?_; rintro e W2 ⟨rfl, hb2⟩; rw [← HN.out.2]; have HC2 : Aside0 (Cmp3 w a b 0 W2) := ⟨HC1.out.below hb2⟩; have q5 : W2.cell? ⟨w.heap.size, 0, none⟩ = some (.int .i64 a) := blk_cell HC2.out.h1 0; have q6 : W2.cell? ⟨w.heap.size + 1, 0, none⟩ = some (.int .i64 b) := blk_cell HC2.out.h2 0; have r5 : W2.cell? ⟨w.heap.size + 1 + 1, 0, none⟩ = some (.int .i64 0) := blk_cell HC2.out.h3 0; have r6 : W2.frozen? ⟨w.heap.size + 1 + 1, 0, none⟩ = false := blk_frozen HC2.out.h3 0; clear hb2)
    | fail)
    have hc5 := World.cell?_setCell_same' W1 ⟨w.heap.size + 1 + 1, 0, none⟩ (.int .i64 0) (by rw [r3]; rfl)
    refine bodyPost_ret (v := .int .i64 0) (by simp [results, Try.f21, go_sem, hc5]) rfl ?_
    exact ⟨rfl, below_set HC1.out.hb (by omega)⟩
  · go_wp2_with (first
    | (go_at_call 18; (with_reducible refine (wdepth_calls v f next a _ (HD.out.below HC0.out.hb) HG.out).mono ?_); rintro e W1 ⟨rfl, hb1⟩; rw [← HN.out.1]; have HC1 : Aside0 (Cmp3 w a b 0 W1) := ⟨HC0.out.below hb1⟩; have q3 : W1.cell? ⟨w.heap.size, 0, none⟩ = some (.int .i64 a) := blk_cell HC1.out.h1 0; have q4 : W1.cell? ⟨w.heap.size + 1, 0, none⟩ = some (.int .i64 b) := blk_cell HC1.out.h2 0; have r3 : W1.cell? ⟨w.heap.size + 1 + 1, 0, none⟩ = some (.int .i64 0) := blk_cell HC1.out.h3 0; have r4 : W1.frozen? ⟨w.heap.size + 1 + 1, 0, none⟩ = false := blk_frozen HC1.out.h3 0; clear hb1)
    | (go_at_call 18; refine (wdepth_calls v f next b _ (HD.out.below HC1.out.hb) HG.out).mono ?_; rintro e W2 ⟨rfl, hb2⟩; rw [← HN.out.2]; have HC2 : Aside0 (Cmp3 w a b 0 W2) := ⟨HC1.out.below hb2⟩; have q5 : W2.cell? ⟨w.heap.size, 0, none⟩ = some (.int .i64 a) := blk_cell HC2.out.h1 0; have q6 : W2.cell? ⟨w.heap.size + 1, 0, none⟩ = some (.int .i64 b) := blk_cell HC2.out.h2 0; have r5 : W2.cell? ⟨w.heap.size + 1 + 1, 0, none⟩ = some (.int .i64 0) := blk_cell HC2.out.h3 0; have r6 : W2.frozen? ⟨w.heap.size + 1 + 1, 0, none⟩ = false := blk_frozen HC2.out.h3 0; clear hb2)
    | fail)
    have hc5 := World.cell?_setCell_same' W2 ⟨w.heap.size + 1 + 1, 0, none⟩ (.int .i64 0) (by rw [r5]; rfl)
    refine bodyPost_ret (v := .int .i64 0) (by simp [results, Try.f21, go_sem, hc5]) rfl ?_
    exact ⟨rfl, below_set HC2.out.hb (by omega)⟩
  · go_wp2_with (first
    | (go_at_call 18; (with_reducible refine (wdepth_calls v f next a _ (HD.out.below HC0.out.hb) HG.out).mono ?_); rintro e W1 ⟨rfl, hb1⟩; rw [← HN.out.1]; have HC1 : Aside0 (Cmp3 w a b 0 W1) := ⟨HC0.out.below hb1⟩; have q3 : W1.cell? ⟨w.heap.size, 0, none⟩ = some (.int .i64 a) := blk_cell HC1.out.h1 0; have q4 : W1.cell? ⟨w.heap.size + 1, 0, none⟩ = some (.int .i64 b) := blk_cell HC1.out.h2 0; have r3 : W1.cell? ⟨w.heap.size + 1 + 1, 0, none⟩ = some (.int .i64 0) := blk_cell HC1.out.h3 0; have r4 : W1.frozen? ⟨w.heap.size + 1 + 1, 0, none⟩ = false := blk_frozen HC1.out.h3 0; clear hb1)
    | (go_at_call 18; refine (wdepth_calls v f next b _ (HD.out.below HC1.out.hb) HG.out).mono ?_; rintro e W2 ⟨rfl, hb2⟩; rw [← HN.out.2]; have HC2 : Aside0 (Cmp3 w a b 0 W2) := ⟨HC1.out.below hb2⟩; have q5 : W2.cell? ⟨w.heap.size, 0, none⟩ = some (.int .i64 a) := blk_cell HC2.out.h1 0; have q6 : W2.cell? ⟨w.heap.size + 1, 0, none⟩ = some (.int .i64 b) := blk_cell HC2.out.h2 0; have r5 : W2.cell? ⟨w.heap.size + 1 + 1, 0, none⟩ = some (.int .i64 0) := blk_cell HC2.out.h3 0; have r6 : W2.frozen? ⟨w.heap.size + 1 + 1, 0, none⟩ = false := blk_frozen HC2.out.h3 0; clear hb2)
    | fail)
    have hc5 := World.cell?_setCell_same' W2 ⟨w.heap.size + 1 + 1, 0, none⟩ (.int .i64 0) (by rw [r5]; rfl)
    refine bodyPost_ret (v := .int .i64 0) (by simp [results, Try.f21, go_sem, hc5]) rfl ?_
    exact ⟨rfl, below_set HC2.out.hb (by omega)⟩
theorem wcmp_calls (v : Value) (f : Nat → Option S40) (next a b : Int) (w : World) (h : DocF w v f next) (hg : Good f next) :
    Calls Try.prog 21 #[v, .int .i64 a, .int .i64 b] w fun e w' => e = .returned (.int .i64 (cmpR f a b)) ∧ Below w.heap.size w w' := by
  by_cases c : look f a = none ∨ look f b = none ∨ a = b
  · rw [cmp_no c]; exact cmp_stop v f next a b w h hg c
  · exact cmp_go v f next a b w h hg c
end Go.Proofs.Ytpnlbmeeihbjaaa.P
end
