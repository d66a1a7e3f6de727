/- WalkOnce: for every input the law returns true, and each argument reads behind the call as it read before. -/
import Derived.Test.YtpnlbmeeihbjaaaZWC7
import Derived.Test.YtpnlbmeeihbjaaaZWC13
import Derived.Test.YtpnlbmeeihbjaaaZWC14
import Derived.Test.YtpnlbmeeihbjaaaZWC19
import Derived.Test.YtpnlbmeeihbjaaaZWC23
import Derived.Test.YtpnlbmeeihbjaaaZWC28
import Derived.Deep.LoopGhost
import Derived.Deep.QuietTactic
import Derived.BigQuiet
section
set_option linter.unusedVariables false
set_option linter.unusedSimpArgs false
namespace Go.Proofs.Ytpnlbmeeihbjaaa.P
open Go.RowKit Go.Proofs.YtpnlbmeeihbjaaaW.PrintWords Go.Proofs.YtpnlbmeeihbjaaaW.PrintLast Go.Proofs.YtpnlbmeeihbjaaaW.PrintMore
attribute [local go_sem] max2_int min2_int max_two min_two max_three min_three max_four min_four
set_option linter.unusedVariables false
set_option linter.unusedSimpArgs false
theorem light_some (l : List S52) (m : Int) (hl : l.length ≤ 9223372036854775807) : ∃ k b, gouacheref07_Light.f k l m = some b := by
  have key : ∀ (d i : Nat) (n : Int), i + d = l.length → ∃ b, gouacheref07_Light.l0 (d + 1) m n l (l.length : Int) (i : Int) = some b := by
    intro d
    induction d with
    | zero =>
      intro i n h
      refine ⟨true, ?_⟩
      simp only [gouacheref07_Light.l0]
      rw [if_neg (by omega)]
    | succ d ih =>
      intro i n h
      unfold gouacheref07_Light.l0
      rw [if_pos (by omega), if_pos (by omega), if_pos (by omega)]
      split
      · exact ⟨false, rfl⟩
      · rw [show wrap64 ((i : Int) + 1) = ((i + 1 : Nat) : Int) by unfold wrap64; omega]
        exact ih (i + 1) _ (by omega)
  obtain ⟨b, hb⟩ := key l.length 0 0 (by omega)
  exact ⟨l.length + 1, b, hb⟩
theorem attrV_self {l : List S70} (h : SortA l) {i : Nat} (hi : i < l.length) : attrV l l[i].f0 = (l[i].f1, true) := by
  have hh : hasA l l[i].f0 = true := (hasA_mem h).2 ⟨l[i], List.getElem_mem hi, rfl⟩
  obtain ⟨hp, he⟩ := hasA_at hh
  have e : posA l l[i].f0 = i := by
    rcases Nat.lt_trichotomy (posA l l[i].f0) i with h1 | h1 | h1
    · have := h.lt h1 hi; rw [he, lessS_irrefl] at this; cases this
    · exact h1
    · have := h.lt h1 hp; rw [he, lessS_irrefl] at this; cases this
  unfold attrV
  rw [if_pos hh, e, rd_get l i hi]
def runA (s : (Nat → Option S40) × Int) (l : List S52) : (Nat → Option S40) × Int := l.foldl (fun s a => (actF s.1 s.2 a, actN s.1 s.2 a)) s
theorem good_run : ∀ (l : List S52) (s : (Nat → Option S40) × Int), Good s.1 s.2 → Good (runA s l).1 (runA s l).2
  | [], _, h => h
  | a :: r, s, h => good_run r (actF s.1 s.2 a, actN s.1 s.2 a) (good_act h a)
theorem run_snoc (s : (Nat → Option S40) × Int) (l : List S52) (i : Nat) (h : i < l.length) : runA s (l.take (i + 1)) = (actF (runA s (l.take i)).1 (runA s (l.take i)).2 (rd_T52 l (i : Nat)), actN (runA s (l.take i)).1 (runA s (l.take i)).2 (rd_T52 l (i : Nat))) := by
  rw [List.take_succ_eq_append_getElem h]
  unfold runA
  rw [List.foldl_append]
  have e : rd_T52 l (i : Nat) = l[i] := by unfold rd_T52; simp [List.getD_eq_getElem?_getD, List.getElem?_eq_getElem h]
  rw [e]; rfl
def tree0 : (Nat → Option S40) × Int := (newF ⟨#[97]⟩, 2)
theorem good_tree (l : List S52) : Good (runA tree0 l).1 (runA tree0 l).2 := good_run l tree0 (good_new _)
end Go.Proofs.Ytpnlbmeeihbjaaa.P
end
section
set_option linter.unusedVariables false
set_option linter.unusedSimpArgs false
namespace Go.Proofs.Ytpnlbmeeihbjaaa.P
open Go.RowKit Go.Proofs.YtpnlbmeeihbjaaaW.PrintWords Go.Proofs.YtpnlbmeeihbjaaaW.PrintLast Go.Proofs.YtpnlbmeeihbjaaaW.PrintMore
attribute [local go_sem] max2_int min2_int max_two min_two max_three min_three max_four min_four
set_option linter.unusedVariables false
set_option linter.unusedSimpArgs false
def RD (w : World) (v : Value) (f : Nat → Option S40) (next : Int) : Prop := RDoc w v (lst f next.toNat) next
theorem RD.below {w w1 : World} {v : Value} {f : Nat → Option S40} {next : Int} (h : RD w v f next) (hb : Below w.heap.size w w1) : RD w1 v f next := RDoc.below h hb
def RDocO (ok : Nat → Prop) (w : World) (v : Value) (L : List S40) (next : Int) : Prop := ∃ b A c, v = .pointer (some ⟨b, 0, none⟩) ∧ ok b ∧ w.heap[b]? = some (.cells #[.slice A L.length c, .int .i64 next] 104 (0, 0)) ∧ L.length ≤ c ∧ Kd.F k40 w ok A L.length L
def RDO (ok : Nat → Prop) (w : World) (v : Value) (f : Nat → Option S40) (next : Int) : Prop := RDocO ok w v (lst f next.toNat) next
section
variable {ok ok' : Nat → Prop} {w w1 : World} {v : Value} {f : Nat → Option S40} {L : List S40} {next : Int}
theorem RDocO.doc (h : RDocO ok w v L next) : RDoc w v L next := by
  obtain ⟨b, A, c, hv, _, hb, hc, hF⟩ := h
  exact ⟨b, A, c, hv, hb, hc, Kd.F_now hF⟩
theorem RDocO.step (h : RDocO ok w v L next) (hs : ∀ k, ok k → k < w.heap.size → w1.heap[k]? = w.heap[k]?) (hk : ∀ k, ok k → k < w.heap.size → ok' k) : RDocO ok' w1 v L next := by
  obtain ⟨b, A, c, hv, ho, hb, hc, hF⟩ := h
  exact ⟨b, A, c, hv, hk b ho (blk_lt hb), (hs b ho (blk_lt hb)).trans hb, hc, Kd.F_mono (Kd.F_step (Kd.F_bound hF) (fun k hk hlt => hs k hk.1 hlt)) (fun k h => hk k h.1 h.2)⟩
theorem RDocO.below (h : RDocO ok w v L next) (hb : Below w.heap.size w w1) : RDocO ok w1 v L next := h.step (fun k _ hk => hb.block k hk) (fun _ h _ => h)
theorem RDO.rd (h : RDO ok w v f next) : RD w v f next := RDocO.doc h
theorem RDO.step (h : RDO ok w v f next) (hs : ∀ k, ok k → k < w.heap.size → w1.heap[k]? = w.heap[k]?) (hk : ∀ k, ok k → k < w.heap.size → ok' k) : RDO ok' w1 v f next := RDocO.step h hs hk
theorem RDO.below (h : RDO ok w v f next) (hb : Below w.heap.size w w1) : RDO ok w1 v f next := RDocO.below h hb
end
set_option maxHeartbeats 16000000 in
set_option maxRecDepth 100000 in
theorem rdepth_calls (v : Value) (f : Nat → Option S40) (next id : Int) (w : World) (h : RD w v f next) (hg : Good f next) :
    Calls Try.prog 19 #[v, .int .i64 id] w fun e w' => e = .returned (.int .i64 (ch f id).length) ∧ Below w.heap.size w w' := by
  have HD := Aside0.mk h
  have HG := Aside0.mk hg
  have HLE := Aside0.mk (ch_le hg id)
  have hu40 := Try.underlying40
  obtain ⟨R, hR⟩ : ∃ R : Nat, R = (ch f id).length := ⟨_, rfl⟩
  rw [← hR] at HLE ⊢
  have HR := Aside0.mk hR
  clear h hg hR
  go_enter Try.func19, Try.ntmps19
  go_wp2_with fail
  go_loopg [1, 5] (R + 1) (fun kq v1 v5 w' => ∃ (j : Int) (k : Nat), v1 = .int .i64 j ∧ v5 = .int .i64 k ∧ Aside0 (k + (ch f j).length = R) ∧ Aside0 (k + kq = R + 1) ∧ Aside0 (Below w.heap.size w w'))
  case atStart => exact ⟨id, 0, rfl, rfl, ⟨by rw [HR.out]; omega⟩, ⟨by omega⟩, ⟨Below.refl _ _⟩⟩
  case round =>
    obtain ⟨j, k, rfl, rfl, HK, HGK, HB⟩ := hrel
    cases gk with
    | zero => exact absurd HGK.out (by have := HK.out; omega)
    | succ g0 =>
      have HNODE : Aside0 (Calls Try.prog 38 #[v, .int .i64 j] wr (CopyPost wr (look f j))) := ⟨rnode_calls v f next j wr (HD.out.below HB.out) HG.out⟩
      cases hl : look f j with
      | none =>
        rw [hl] at HNODE
        have HEQ : Aside0 (k = R) := ⟨by have := HK.out; rw [ch_none j hl] at this; simpa using this⟩
        clear hl
        go_wp2_with (first | (go_at_call 38; refine HNODE.out.mono ?_; rintro e W2 ⟨cs, rfl, hM, hb2⟩; obtain ⟨A3, c3, A4, c4, rfl⟩ := k40_cellsM (x := z40) hM; have HB2 := Aside0.mk (below_alloc (below_then HB.out HB.out.size hb2) (.cells #[.int .i64 z40.f0, .string z40.f1, .int .i64 z40.f2, .slice A3 z40.f3.length c3, .slice A4 z40.f4.length c4] 40)); clear hM hb2) | fail)
        go_ret
        exact ⟨by rw [HEQ.out]; rfl, HB2.out⟩
      | some x =>
        rw [hl] at HNODE
        have HST : Aside0 ((ch f j).length = (ch f x.f2).length + 1) := ⟨HG.out.depc hl⟩
        clear hl
        go_upto_region 3 with (first | (go_at_call 38; refine HNODE.out.mono ?_; rintro e W2 ⟨cs, rfl, hM, hb2⟩; obtain ⟨A3, c3, A4, c4, rfl⟩ := k40_cellsM (x := x) hM; have HB2 := Aside0.mk (below_then HB.out HB.out.size hb2); clear hM hb2) | fail)
        have HB3 : Aside0 (Below w.heap.size w (W2.alloc (.cells #[.int .i64 x.f0, .string x.f1, .int .i64 x.f2, .slice A3 x.f3.length c3, .slice A4 x.f4.length c4] 40))) := ⟨below_alloc HB2.out _⟩
        have q2 : (W2.alloc (.cells #[.int .i64 x.f0, .string x.f1, .int .i64 x.f2, .slice A3 x.f3.length c3, .slice A4 x.f4.length c4] 40)).cell? ⟨W2.heap.size, 2, none⟩ = some (.int .i64 x.f2) := (blk_cell (blk_new W2 _) 2).trans rfl
        generalize W2.alloc (.cells #[.int .i64 x.f0, .string x.f1, .int .i64 x.f2, .slice A3 x.f3.length c3, .slice A4 x.f4.length c4] 40) = W3 at HB3 q2 ⊢
        generalize W2.heap.size = g at q2 ⊢
        go_wp2_with fail
        go_roundg g0
        case measure => have := HGK.out; omega
        case rel => exact ⟨x.f2, k + 1, rfl, (by have := HK.out; have := HST.out; have := HLE.out; congr 1; unfold wrap64; omega), ⟨by have := HK.out; have := HST.out; omega⟩, ⟨by have := HGK.out; omega⟩, HB3⟩
set_option maxHeartbeats 16000000 in
set_option maxRecDepth 100000 in
theorem rbelow_calls (v : Value) (f : Nat → Option S40) (next id top : Int) (w : World) (h : RD w v f next) (hg : Good f next) (ht : ∃ y, look f top = some y) :
    Calls Try.prog 97 #[v, .int .i64 id, .int .i64 top] w fun e w' => e = .returned (.bool (decide (top ∈ ch f id))) ∧ Below w.heap.size w w' := by
  have HD := Aside0.mk h
  have HG := Aside0.mk hg
  have HT := Aside0.mk ht
  have hu40 := Try.underlying40
  obtain ⟨R, hR⟩ : ∃ R : Bool, R = decide (top ∈ ch f id) := ⟨_, rfl⟩
  rw [← hR]
  have HR := Aside0.mk hR
  clear h hg hR ht
  go_enter Try.func97, Try.ntmps97
  go_wp2_with fail
  go_loopg [1] ((ch f id).length + 1) (fun kq v1 w' => ∃ (j : Int), v1 = .int .i64 j ∧ Aside0 (R = decide (top ∈ ch f j)) ∧ Aside0 (kq = (ch f j).length + 1) ∧ Aside0 (Below w.heap.size w w'))
  case atStart => exact ⟨id, rfl, HR, ⟨rfl⟩, ⟨Below.refl _ _⟩⟩
  case round =>
    obtain ⟨j, rfl, HK, HGK, HB⟩ := hrel
    cases gk with
    | zero => exact absurd HGK.out (by omega)
    | succ g0 =>
      have HNODE : Aside0 (Calls Try.prog 38 #[v, .int .i64 j] wr (CopyPost wr (look f j))) := ⟨rnode_calls v f next j wr (HD.out.below HB.out) HG.out⟩
      by_cases et : j = top
      · have d0 : (j == top) = true := by simpa using et
        have HRT : Aside0 (R = true) := ⟨by
          obtain ⟨y, hy⟩ := HT.out
          rw [HK.out, et]
          exact decide_eq_true (ch_self HG.out hy)⟩
        clear et
        go_wp2_with fail
        go_ret
        exact ⟨by rw [HRT.out]; rfl, HB.out⟩
      · have d0 : (j == top) = false := by simpa using et
        have HET := Aside0.mk et
        clear et
        cases hl : look f j with
        | none =>
          rw [hl] at HNODE
          have HEQ : Aside0 (R = false) := ⟨by rw [HK.out, ch_none j hl]; rfl⟩
          clear hl
          go_wp2_with (first | (go_at_call 38; refine HNODE.out.mono ?_; rintro e W2 ⟨cs, rfl, hM, hb2⟩; obtain ⟨A3, c3, A4, c4, rfl⟩ := k40_cellsM (x := z40) hM; have HB2 := Aside0.mk (below_alloc (below_then HB.out HB.out.size hb2) (.cells #[.int .i64 z40.f0, .string z40.f1, .int .i64 z40.f2, .slice A3 z40.f3.length c3, .slice A4 z40.f4.length c4] 40)); clear hM hb2) | fail)
          go_ret
          exact ⟨by rw [HEQ.out]; rfl, HB2.out⟩
        | some x =>
          rw [hl] at HNODE
          have HST : Aside0 ((ch f j).length = (ch f x.f2).length + 1) := ⟨HG.out.depc hl⟩
          have HRN : Aside0 (R = decide (top ∈ ch f x.f2)) := ⟨by
            rw [HK.out]
            have := ch_kid HG.out hl top
            have h2 : (top ∈ ch f j) ↔ (top ∈ ch f x.f2) := this.trans ⟨fun h => h.elim (fun e => absurd e.symm HET.out) (fun h => h), .inr⟩
            exact decide_eq_decide.2 h2⟩
          clear hl
          go_upto_region 4 with (first | (go_at_call 38; refine HNODE.out.mono ?_; rintro e W2 ⟨cs, rfl, hM, hb2⟩; obtain ⟨A3, c3, A4, c4, rfl⟩ := k40_cellsM (x := x) hM; have HB2 := Aside0.mk (below_then HB.out HB.out.size hb2); clear hM hb2) | fail)
          have HB3 : Aside0 (Below w.heap.size w (W2.alloc (.cells #[.int .i64 x.f0, .string x.f1, .int .i64 x.f2, .slice A3 x.f3.length c3, .slice A4 x.f4.length c4] 40))) := ⟨below_alloc HB2.out _⟩
          have q2 : (W2.alloc (.cells #[.int .i64 x.f0, .string x.f1, .int .i64 x.f2, .slice A3 x.f3.length c3, .slice A4 x.f4.length c4] 40)).cell? ⟨W2.heap.size, 2, none⟩ = some (.int .i64 x.f2) := (blk_cell (blk_new W2 _) 2).trans rfl
          generalize W2.alloc (.cells #[.int .i64 x.f0, .string x.f1, .int .i64 x.f2, .slice A3 x.f3.length c3, .slice A4 x.f4.length c4] 40) = W3 at HB3 q2 ⊢
          generalize W2.heap.size = g at q2 ⊢
          go_wp2_with fail
          go_roundg g0
          case measure => have := HGK.out; omega
          case rel => exact ⟨x.f2, rfl, HRN, ⟨by have := HGK.out; have := HST.out; omega⟩, HB3⟩
theorem attrV_at {l : List S70} (hs : SortA l) {s : ByteArray} (i : Nat) (hi : i < l.length) (he : (rd_T70 l (i : Nat)).f0 = s) : attrV l s = ((rd_T70 l (i : Nat)).f1, true) := by
  rw [rd_get l i hi] at he ⊢
  rw [← he]
  exact attrV_self hs hi
theorem attrV_no {l : List S70} (hs : SortA l) {s : ByteArray} (hn : ∀ j : Nat, j < l.length → (rd_T70 l (j : Nat)).f0 ≠ s) : attrV l s = (⟨#[]⟩, false) := by
  unfold attrV
  rw [if_neg]
  intro h
  obtain ⟨x, hx, e⟩ := (hasA_mem hs).1 h
  obtain ⟨j, hj, e2⟩ := List.getElem_of_mem hx
  exact hn j hj (by rw [rd_get l j hj, e2]; exact e)
set_option maxHeartbeats 16000000 in
set_option maxRecDepth 100000 in
theorem rattr_calls (v : Value) (f : Nat → Option S40) (next id : Int) (s : ByteArray) (w : World) (h : RD w v f next) (hg : Good f next) :
    Calls Try.prog 99 #[v, .int .i64 id, .string s] w fun e w' => e = .returned (.tuple #[.string (attrV ((look f id).getD z40).f4 s).1, .bool (attrV ((look f id).getD z40).f4 s).2]) ∧ Below w.heap.size w w' := by
  have HNODE : Aside0 (Calls Try.prog 38 #[v, .int .i64 id] w (CopyPost w (look f id))) := ⟨rnode_calls v f next id w h hg⟩
  obtain ⟨o, ho⟩ : ∃ o, o = look f id := ⟨_, rfl⟩
  obtain ⟨x, hx⟩ : ∃ x, x = o.getD z40 := ⟨_, rfl⟩
  have HS : Aside0 (SortA x.f4 ∧ x.f4.length ≤ 16) := ⟨by
    rw [hx, ho]
    cases e : look f id with
    | none => exact ⟨List.Pairwise.nil, by show 0 ≤ 16; omega⟩
    | some y => exact hg.att id y e⟩
  rw [← ho] at HNODE ⊢
  rw [← hx]
  have HX := Aside0.mk hx
  have hu40 := Try.underlying40
  have hu38 := Try.underlying38
  have hu70 := Try.underlying70
  obtain ⟨r1, hr1⟩ : ∃ r, r = (attrV x.f4 s).1 := ⟨_, rfl⟩
  obtain ⟨r2, hr2⟩ : ∃ r, r = (attrV x.f4 s).2 := ⟨_, rfl⟩
  rw [← hr1, ← hr2]
  have HR := Aside0.mk (And.intro hr1 hr2)
  clear h hg ho hx hr1 hr2
  go_enter Try.func99, Try.ntmps99
  go_upto_region 2 with (first | (go_at_call 38; refine HNODE.out.mono ?_; rintro e W2 ⟨cs, rfl, hM, hb2⟩; rw [← HX.out] at hM; obtain ⟨A3, c3, A4, c4, hcs, l3, g3, l4, g4⟩ := k40_open (k40.K_of_M hM); obtain ⟨cl⟩ := cs; simp only at hcs; subst hcs; have HC4 := Aside0.mk g4; have HB2 := Aside0.mk hb2; clear hM hb2 l3 g3 l4 g4) | fail)
  have HB3 : Aside0 (Below w.heap.size w (W2.alloc (.cells #[.int .i64 x.f0, .string x.f1, .int .i64 x.f2, .slice A3 x.f3.length c3, .slice A4 x.f4.length c4] 40))) := ⟨below_alloc HB2.out _⟩
  have HC5 : Aside0 (Kd.C k70 (W2.alloc (.cells #[.int .i64 x.f0, .string x.f1, .int .i64 x.f2, .slice A3 x.f3.length c3, .slice A4 x.f4.length c4] 40)) A4 x.f4.length x.f4) := ⟨Kd.C_below HC4.out (below_alloc (Below.refl _ _) _)⟩
  have q4 : (W2.alloc (.cells #[.int .i64 x.f0, .string x.f1, .int .i64 x.f2, .slice A3 x.f3.length c3, .slice A4 x.f4.length c4] 40)).cell? ⟨W2.heap.size, 4, none⟩ = some (.slice A4 x.f4.length c4) := (blk_cell (blk_new W2 _) 4).trans rfl
  clear HC4
  generalize W2.alloc (.cells #[.int .i64 x.f0, .string x.f1, .int .i64 x.f2, .slice A3 x.f3.length c3, .slice A4 x.f4.length c4] 40) = W3 at HB3 HC5 q4 ⊢
  generalize W2.heap.size = g at q4 ⊢
  go_wp2_with fail
  go_loopg [21] (x.f4.length + 1) (fun kq v21 w' => ∃ (i : Nat), v21 = .int .i64 i ∧ Aside0 (i + kq = x.f4.length + 1) ∧ Aside0 (i ≤ x.f4.length) ∧ Aside0 (∀ j : Nat, j < i → (rd_T70 x.f4 (j : Nat)).f0 ≠ s) ∧ Aside0 (Below W3.heap.size W3 w'))
  case atStart => exact ⟨0, rfl, ⟨by omega⟩, ⟨Nat.zero_le _⟩, ⟨fun j hj => absurd hj (Nat.not_lt_zero _)⟩, ⟨Below.refl _ _⟩⟩
  case round =>
    clear q4
    obtain ⟨i, rfl, HK, HI, HN, HB⟩ := hrel
    cases gk with
    | zero => exact absurd HK.out (by have := HI.out; omega)
    | succ g0 =>
      by_cases c0 : i < x.f4.length
      · obtain ⟨ad, rfl, k0, k1⟩ := at_T70 (Kd.C_below HC5.out HB.out) (i : Int) (by omega) (by omega)
        rw [Int.toNat_natCast] at k0 k1
        obtain ⟨a, ha⟩ : ∃ a, rd_T70 x.f4 (i : Nat) = a := ⟨_, rfl⟩
        rw [ha] at k0 k1
        have HA := Aside0.mk ha
        have HI0 := Aside0.mk c0
        have c1 : decide (i < x.f4.length) = true := decide_eq_true c0
        have c2 : decide ((i : Int) < (x.f4.length : Int)) = true := decide_eq_true (by omega)
        have z0 : (0 ≤ (i : Int)) = True := eq_true (by omega)
        have z1 : ((i : Int) < (x.f4.length : Int)) = True := eq_true (by omega)
        have q0 := (blk_cell (blk_new wr (.cells #[.string a.f0, .string a.f1] 70)) 0).trans (show _ = some (.string a.f0) from rfl)
        have q1 := (blk_cell (blk_new wr (.cells #[.string a.f0, .string a.f1] 70)) 1).trans (show _ = some (.string a.f1) from rfl)
        have HBA : Aside0 (Below W3.heap.size W3 (wr.alloc (.cells #[.string a.f0, .string a.f1] 70))) := ⟨below_alloc HB.out _⟩
        clear c0 ha
        by_cases e : a.f0 = s
        · have d0 : (a.f0.toList == s.toList) = true := (eqS_iff _ _).2 e
          have HV : Aside0 (attrV x.f4 s = (a.f1, true)) := ⟨by rw [← HA.out]; exact attrV_at HS.out.1 i HI0.out (by rw [HA.out]; exact e)⟩
          have HR1 : Aside0 (r1 = a.f1) := ⟨by rw [HR.out.1, HV.out]⟩
          have HR2 : Aside0 (r2 = true) := ⟨by rw [HR.out.2, HV.out]⟩
          clear e
          go_wp2_with fail
          go_ret2
          exact ⟨by rw [HR1.out, HR2.out]; rfl, below_then HB3.out HB3.out.size HBA.out⟩
        · have d0 : (a.f0.toList == s.toList) = false := by
            cases hq : (a.f0.toList == s.toList) with
            | false => rfl
            | true => exact absurd ((eqS_iff _ _).1 hq) e
          have HN2 : Aside0 (∀ j : Nat, j < i + 1 → (rd_T70 x.f4 (j : Nat)).f0 ≠ s) := ⟨fun j hj => by
            by_cases ej : j = i
            · rw [ej, HA.out]; exact e
            · exact HN.out j (by omega)⟩
          clear e
          go_wp2_with fail
          go_roundg g0
          case measure => have := HK.out; omega
          case rel => exact ⟨i + 1, (by have := HI0.out; have := HS.out.2; congr 1; unfold wrap64; omega), ⟨by have := HK.out; omega⟩, ⟨HI0.out⟩, HN2, HBA⟩
      · have c1 : decide (i < x.f4.length) = false := decide_eq_false c0
        have c2 : decide ((i : Int) < (x.f4.length : Int)) = false := decide_eq_false (by omega)
        have HV : Aside0 (attrV x.f4 s = (⟨#[]⟩, false)) := ⟨attrV_no HS.out.1 (fun j hj => HN.out j (by omega))⟩
        have HR1 : Aside0 (r1 = ⟨#[]⟩) := ⟨by rw [HR.out.1, HV.out]⟩
        have HR2 : Aside0 (r2 = false) := ⟨by rw [HR.out.2, HV.out]⟩
        clear c0
        go_wp2_with fail
        go_ret2
        exact ⟨by rw [HR1.out, HR2.out]; rfl, below_then HB3.out HB3.out.size HB.out⟩
end Go.Proofs.Ytpnlbmeeihbjaaa.P
end
section
set_option linter.unusedVariables false
set_option linter.unusedSimpArgs false
namespace Go.Proofs.Ytpnlbmeeihbjaaa.P
open Go.RowKit Go.Proofs.YtpnlbmeeihbjaaaW.PrintWords Go.Proofs.YtpnlbmeeihbjaaaW.PrintLast Go.Proofs.YtpnlbmeeihbjaaaW.PrintMore
attribute [local go_sem] max2_int min2_int max_two min_two max_three min_three max_four min_four
set_option linter.unusedVariables false
set_option linter.unusedSimpArgs false
theorem info40_ : (Try.prog.info? 40).map (fun i => (i.zero, i.size, i.bytes)) = some (some (.agg #[(.int .i64 0), (.string ⟨#[]⟩), (.int .i64 0), (.slice none 0 0), (.slice none 0 0)]), 5, 80) := by kernel_rfl
def RDN (P : Nat → Prop) (w0 w : World) (g : Nat) (L : List S40) (next : Int) : Prop := ∃ v, w.heap[g]? = some (.cells #[v, .int .i64 next] 104 (0, 0)) ∧ w0.heap.size ≤ g ∧ Kd.N k40 40 w w0.heap.size (fun k => k ≠ g ∧ P k) v L ∧ Below w0.heap.size w0 w
theorem RDN.doc {P : Nat → Prop} {w0 w : World} {g : Nat} {L : List S40} {next : Int} (h : RDN P w0 w g L next) : RDoc w (.pointer (some ⟨g, 0, none⟩)) L next := by
  obtain ⟨v, hg, _, hN, _⟩ := h
  obtain ⟨A, c, rfl, hc, hC⟩ := Kd.N_reads hN
  exact ⟨g, A, c, rfl, hg, hc, hC⟩
theorem RDN.step {P : Nat → Prop} {w0 w w1 : World} {g : Nat} {L : List S40} {next : Int} (h : RDN P w0 w g L next) (hb : Below w.heap.size w w1) : RDN P w0 w1 g L next := by
  obtain ⟨v, hg, hle, hN, hB⟩ := h
  exact ⟨v, blk_below hg hb, hle, Kd.N_below hN hb, below_then hB hB.size hb⟩
theorem RDN.docO {P : Nat → Prop} {w0 w : World} {g : Nat} {L : List S40} {next : Int} (h : RDN P w0 w g L next) (hP : ∀ k, w0.heap.size ≤ k → P k) : RDocO P w (.pointer (some ⟨g, 0, none⟩)) L next := by
  obtain ⟨v, hg, hle, hN, _⟩ := h
  obtain ⟨A, c, rfl, hc, hC⟩ := Kd.N_reads hN
  exact ⟨g, A, c, rfl, hP g hle, hg, hc, fun W' hs => (Kd.N_reads' (Kd.N_step (ok := fun k => k ≠ g ∧ P k) hN (fun k hk hlt => hs k hk.2 hlt))).2.2⟩
theorem lst_look {f : Nat → Option S40} (h : Num f) (n : Nat) (i : Nat) (hi : i < (lst f n).length) : look f ((lst f n)[i]).f0 = some (lst f n)[i] := by
  obtain ⟨j, hj, e⟩ := (lst_mem f n _).1 (List.getElem_mem hi)
  rw [h _ _ e]; exact e
set_option maxHeartbeats 16000000 in
set_option maxRecDepth 100000 in
theorem rcopy_calls (P : Nat → Prop) (v : Value) (f : Nat → Option S40) (next : Int) (w : World) (hP : ∀ k, w.heap.size ≤ k → P k) (h : RD w v f next) (hg : Good f next) :
    Calls Try.prog 95 #[v] w fun e w' => ∃ g, e = .returned (.pointer (some ⟨g, 0, none⟩)) ∧ RDN P w w' g (lst f next.toNat) next := by
  have HP := Aside0.mk hP
  clear hP
  have HD := Aside0.mk h
  have HG := Aside0.mk hg
  have HLL : Aside0 ((lst f next.toNat).length ≤ 1048576) := ⟨by have := lst_len f next.toNat; have := hg.hi; omega⟩
  have HLK : Aside0 (∀ i : Nat, i < (lst f next.toNat).length → look f (rd_T40 (lst f next.toNat) (i : Nat)).f0 = some (rd_T40 (lst f next.toNat) (i : Nat))) := ⟨fun i hi => by
    have e : rd_T40 (lst f next.toNat) (i : Nat) = (lst f next.toNat)[i] := by unfold rd_T40; simp [List.getD_eq_getElem?_getD, List.getElem?_eq_getElem hi]
    rw [e]; exact lst_look hg.numf _ i hi⟩
  have HNODE : Aside0 (∀ (n : Int) (W : World), Below w.heap.size w W → Calls Try.prog 38 #[v, .int .i64 n] W (CopyPost W (look f n))) := ⟨fun n W hW => rnode_calls v f next n W (h.below hW) hg⟩
  have hu40 := Try.underlying40
  have hu104 := Try.underlying104
  have hu102 := Try.underlying102
  obtain ⟨b, A, c, hv, hb, hc, hC⟩ := h
  obtain ⟨L, hL⟩ : ∃ L, L = lst f next.toNat := ⟨_, rfl⟩
  rw [← hL] at HLL HLK hb hC hc ⊢
  have HB := Aside0.mk hb
  have HC := Aside0.mk hC
  have HV := Aside0.mk hv
  have a0 := (blk_cell hb 0).trans (show _ = some (.slice A L.length c) from rfl)
  have a1 := (blk_cell hb 1).trans (show _ = some (.int .i64 next) from rfl)
  subst hv
  clear hg hL hb hC
  go_enter Try.func95, Try.ntmps95
  go_upto_region 2 with (fail)
  have HX0 : Aside0 (RDN P w (w.alloc (.cells #[.slice none 0 0, .int .i64 next] 104)) w.heap.size [] next) := ⟨⟨.slice none 0 0, blk_new _ _, Nat.le_refl _, Kd.N_nil _ _ _ _ _, below_alloc (Below.refl _ _) _⟩⟩
  generalize w.alloc (.cells #[.slice none 0 0, .int .i64 next] 104) = W0 at HX0 ⊢
  have HB0 : Aside0 (Below w.heap.size w W0) := ⟨HX0.out.choose_spec.2.2.2⟩
  have s0 := pw_cell_below HB0.out a0
  clear a0 a1
  go_wp2_with fail
  go_loopg [19] (L.length + 1) (fun kq v19 w' => ∃ (i : Nat), v19 = .int .i64 i ∧ Aside0 (i + kq = L.length + 1) ∧ Aside0 (i ≤ L.length) ∧ Aside0 (RDN P w w' w.heap.size (L.take i) next))
  case atStart => exact ⟨0, rfl, ⟨by omega⟩, ⟨Nat.zero_le _⟩, HX0⟩
  case round =>
    clear HX0 HB0 s0
    obtain ⟨i, rfl, HK, HI, HX⟩ := hrel
    cases gk with
    | zero => exact absurd HK.out (by have := HI.out; omega)
    | succ g0 =>
      have HBW : Aside0 (Below w.heap.size w wr) := ⟨HX.out.choose_spec.2.2.2⟩
      by_cases c0 : i < L.length
      · obtain ⟨ad, A3, c3, A4, c4, rfl, k0, k1, k2, k3, k4, _, _, _, _⟩ := at_T40 (Kd.C_below HC.out HBW.out) (i : Int) (by omega) (by omega)
        rw [Int.toNat_natCast] at k0 k1 k2 k3 k4
        have hlk := HLK.out i c0
        have HTK : Aside0 (L.take (i + 1) = L.take i ++ [rd_T40 L (i : Nat)]) := ⟨by
          rw [List.take_succ_eq_append_getElem c0]
          have e : rd_T40 L (i : Nat) = L[i] := by unfold rd_T40; simp [List.getD_eq_getElem?_getD, List.getElem?_eq_getElem c0]
          rw [e]⟩
        generalize rd_T40 L (i : Nat) = x at k0 k1 k2 k3 k4 hlk HTK
        have HLX := Aside0.mk hlk
        have HI0 := Aside0.mk c0
        have c1 : decide (i < L.length) = true := decide_eq_true c0
        have c2 : decide ((i : Int) < (L.length : Int)) = true := decide_eq_true (by omega)
        have z0 : (0 ≤ (i : Int)) = True := eq_true (by omega)
        have z1 : ((i : Int) < (L.length : Int)) = True := eq_true (by omega)
        clear c0 hlk
        go_upto_region 5 with (fail)
        have HX1 : Aside0 (RDN P w (wr.alloc (.cells #[.int .i64 x.f0, .string x.f1, .int .i64 x.f2, .slice A3 x.f3.length c3, .slice A4 x.f4.length c4] 40)) w.heap.size (L.take i) next) := ⟨HX.out.step (below_alloc (Below.refl _ _) _)⟩
        have HB1 : Aside0 (Below w.heap.size w (wr.alloc (.cells #[.int .i64 x.f0, .string x.f1, .int .i64 x.f2, .slice A3 x.f3.length c3, .slice A4 x.f4.length c4] 40))) := ⟨below_alloc HBW.out _⟩
        have q0 : (wr.alloc (.cells #[.int .i64 x.f0, .string x.f1, .int .i64 x.f2, .slice A3 x.f3.length c3, .slice A4 x.f4.length c4] 40)).cell? ⟨wr.heap.size, 0, none⟩ = some (.int .i64 x.f0) := (blk_cell (blk_new wr _) 0).trans rfl
        clear k0 k1 k2 k3 k4
        generalize wr.alloc (.cells #[.int .i64 x.f0, .string x.f1, .int .i64 x.f2, .slice A3 x.f3.length c3, .slice A4 x.f4.length c4] 40) = W1 at HX1 HB1 q0 ⊢
        generalize wr.heap.size = g5 at q0 ⊢
        go_upto_region 6 with (first | (go_at_call 38; refine (HNODE.out _ _ HB1.out).mono ?_; rintro e W2 ⟨cs, rfl, hM, hb2⟩; rw [HLX.out] at hM ⊢; obtain ⟨B3, d3, B4, d4, rfl⟩ := k40_cellsM (x := x) hM; have HM2 := Aside0.mk (show k40.M W2 W1.heap.size (fun _ => True) x [.int .i64 x.f0, .string x.f1, .int .i64 x.f2, .slice B3 x.f3.length d3, .slice B4 x.f4.length d4] from hM); have HB2 := Aside0.mk hb2; clear hM hb2) | fail)
        have mixed : Try.prog.follows Departure.mixedOrders = true := by kernel_rfl
        have HLN : Aside0 (((L.take i).length + 1) * 80 ≤ 140737488355328) := ⟨by have := HLL.out; rw [List.length_take]; omega⟩
        obtain ⟨T, hT⟩ : ∃ T, T = L.take i := ⟨_, rfl⟩
        rw [← hT] at HX1 HTK HLN
        obtain ⟨vL, hgx1, hle, hN1, hBx1⟩ := HX1.out
        obtain ⟨A, c0', rfl⟩ := Kd.N_slice hN1
        have hlt1 := blk_lt hgx1
        have hown1 := Kd.N_lt hN1
        have hb13 : Below W1.heap.size W1 (W2.alloc (.cells #[.int .i64 x.f0, .string x.f1, .int .i64 x.f2, .slice B3 x.f3.length d3, .slice B4 x.f4.length d4] 40)) := below_alloc HB2.out _
        have HN : Aside0 (Kd.N k40 40 (W2.alloc (.cells #[.int .i64 x.f0, .string x.f1, .int .i64 x.f2, .slice B3 x.f3.length d3, .slice B4 x.f4.length d4] 40)) w.heap.size (fun k => k ≠ w.heap.size ∧ P k) (.slice A T.length c0') T) := ⟨Kd.N_below hN1 hb13⟩
        have HGX : Aside0 ((W2.alloc (.cells #[.int .i64 x.f0, .string x.f1, .int .i64 x.f2, .slice B3 x.f3.length d3, .slice B4 x.f4.length d4] 40)).heap[w.heap.size]? = some (.cells #[.slice A T.length c0', .int .i64 next] 104 (0, 0))) := ⟨blk_below hgx1 hb13⟩
        have HBX : Aside0 (Below w.heap.size w (W2.alloc (.cells #[.int .i64 x.f0, .string x.f1, .int .i64 x.f2, .slice B3 x.f3.length d3, .slice B4 x.f4.length d4] 40))) := ⟨below_then hBx1 hBx1.size hb13⟩
        have HM3 : Aside0 (k40.M (W2.alloc (.cells #[.int .i64 x.f0, .string x.f1, .int .i64 x.f2, .slice B3 x.f3.length d3, .slice B4 x.f4.length d4] 40)) W1.heap.size (fun k => k ≠ W2.heap.size) x [.int .i64 x.f0, .string x.f1, .int .i64 x.f2, .slice B3 x.f3.length d3, .slice B4 x.f4.length d4]) := ⟨k40.M_mono (fun k hk => hk.2) (Kd.M_types (Kd.M_below HM2.out (below_alloc (Below.refl _ _) _)) (blk_new _ _) k40_types)⟩
        have HG6 : Aside0 ((W2.alloc (.cells #[.int .i64 x.f0, .string x.f1, .int .i64 x.f2, .slice B3 x.f3.length d3, .slice B4 x.f4.length d4] 40)).heap[W2.heap.size]? = some (.cells #[.int .i64 x.f0, .string x.f1, .int .i64 x.f2, .slice B3 x.f3.length d3, .slice B4 x.f4.length d4] 40 (0, 0))) := ⟨blk_new _ _⟩
        clear HM2 HX1 q0 hb13
        generalize W2.alloc (.cells #[.int .i64 x.f0, .string x.f1, .int .i64 x.f2, .slice B3 x.f3.length d3, .slice B4 x.f4.length d4] 40) = W3 at HN HGX HBX HM3 HG6 ⊢
        generalize W2.heap.size = g6 at HM3 HG6 ⊢
        have u0 := (blk_cell HGX.out 0).trans (show _ = some _ from rfl)
        have u0f := blk_frozen HGX.out 0
        have m0 := (blk_cell HG6.out 0).trans (show _ = some _ from rfl)
        have m1 := (blk_cell HG6.out 1).trans (show _ = some _ from rfl)
        have m2 := (blk_cell HG6.out 2).trans (show _ = some _ from rfl)
        have m3 := (blk_cell HG6.out 3).trans (show _ = some _ from rfl)
        have m4 := (blk_cell HG6.out 4).trans (show _ = some _ from rfl)
        have n0 : ∀ o, (W3.alloc o).cell? ⟨w.heap.size, 0, none⟩ = some (.slice A T.length c0') := fun o => pw_cell_below (below_alloc (Below.refl _ _) o) u0
        have HFK : Aside0 (∀ W : World, Below W3.heap.size W3 W → Kd.FK k40 W (fun k => (k ≠ w.heap.size ∧ P k) ∧ some k ≠ (Value.slice A T.length c0').ownBlock) x [.int .i64 x.f0, .string x.f1, .int .i64 x.f2, .slice B3 x.f3.length d3, .slice B4 x.f4.length d4]) := ⟨fun W hW => Kd.FK_of_M (k40.M_mono (fun k hk => ⟨⟨by have := hk.2.1; omega, HP.out k (by have h1 := hk.2.1; have h2 := HB1.out.size; omega)⟩, fun e => by have := hown1 k e.symm; have := hk.2.1; omega⟩) (Kd.M_below (k40.M_bound HM3.out) hW))⟩
        have HFR : Aside0 (∀ W : World, Below W3.heap.size W3 W → ∀ k, W.heap.size ≤ k → k ≠ w.heap.size ∧ P k) := ⟨fun W hW k hk => ⟨by have := blk_lt HGX.out; have := hW.size; omega, HP.out k (by have h1 := HBX.out.size; have h2 := hW.size; omega)⟩⟩
        have HNE : Aside0 (some w.heap.size ≠ (Value.slice A T.length c0').ownBlock) := ⟨fun e => (hN1.1 _ e.symm).1 rfl⟩
        clear hT hgx1 hN1 hBx1 hlt1 hown1 hle
        go_region_law_o (refine Kd.N_append_step k40 (w0 := w) (W := W3.drew) w.heap.size (by rfl) (.tmp 34) (.tmp 36) 102 40 (.agg #[(.int .i64 0), (.string ⟨#[]⟩), (.int .i64 0), (.slice none 0 0), (.slice none 0 0)]) 80 (by rfl) Try.underlying102 info40_ rfl (by decide) (by decide) (.slice A T.length c0') T x [.int .i64 x.f0, .string x.f1, .int .i64 x.f2, .slice B3 x.f3.length d3, .slice B4 x.f4.length d4] (fun k => k ≠ w.heap.size ∧ P k) _ (by rfl) (by rfl) (HFK.out _ (by repeat (first | exact Below.refl _ _ | apply below_drew1 | apply pw_below_drewN))) (fun _ hk => hk) (HFR.out _ (by repeat (first | exact Below.refl _ _ | apply below_drew1 | apply pw_below_drewN))) (by repeat (first | exact HN.out | apply Kd.N_drew)) (by repeat (first | exact HBX.out | apply below_drew1 | apply pw_below_drewN)) HBX.out.size HLN.out ?_; intro v1 w1 hN1 hb1 hg1 hat1; obtain ⟨A1, c1', rfl⟩ := Kd.N_slice hN1; have hgx1 := (hg1.block w.heap.size (blk_lt HGX.out) HNE.out).trans HGX.out; have HGX1 := Aside0.mk hgx1; have w1c := (blk_cell hgx1 0).trans (show _ = some _ from rfl); have w1f := blk_frozen hgx1 0; have HN1 := Aside0.mk hN1; have HB1 := Aside0.mk hb1; clear hN1 hb1 hg1 hat1 hgx1)
        all_goals
          go_wp2_with fail
          go_roundg g0
          case measure => have := HK.out; omega
          case rel =>
            refine ⟨i + 1, (by have := HI0.out; have := HLL.out; congr 1; unfold wrap64; omega), ⟨by have := HK.out; omega⟩, ⟨HI0.out⟩, ⟨?_⟩⟩
            have hN2 := HN1.out
            rw [show (T ++ [x]).length = T.length + 1 by simp] at hN2
            rw [HTK.out]
            exact ⟨_, blk_put (cs := #[.slice A T.length c0', .int .i64 next]) HGX1.out 0 _ rfl, Nat.le_refl _, Kd.N_far hN2 (fun k hk => hk.1) _, below_set HB1.out (Nat.le_refl _)⟩
      · have c1 : decide (i < L.length) = false := decide_eq_false c0
        have c2 : decide ((i : Int) < (L.length : Int)) = false := decide_eq_false (by omega)
        have HTK : L.take i = L := List.take_of_length_le (by omega)
        rw [HTK] at HX
        clear c0 HTK
        go_wp2_with fail
        go_ret
        exact ⟨_, rfl, HX.out⟩
end Go.Proofs.Ytpnlbmeeihbjaaa.P
end
section
set_option linter.unusedVariables false
set_option linter.unusedSimpArgs false
namespace Go.Proofs.Ytpnlbmeeihbjaaa.P
open Go.RowKit Go.Proofs.YtpnlbmeeihbjaaaW.PrintWords Go.Proofs.YtpnlbmeeihbjaaaW.PrintLast Go.Proofs.YtpnlbmeeihbjaaaW.PrintMore
attribute [local go_sem] max2_int min2_int max_two min_two max_three min_three max_four min_four
set_option linter.unusedVariables false
set_option linter.unusedSimpArgs false
theorem C_pre {α : Type} {d : Kd α} {w : World} {A : Option Addr} {l : List α} (h : d.C w A l.length l) (i : Nat) (hi : i ≤ l.length) : d.C w A i (l.take i) := by
  obtain ⟨_, h1, h2⟩ := h
  refine ⟨by rw [List.length_take]; omega, by omega, fun hp => ?_⟩
  obtain ⟨ad, e, hc⟩ := h2 (by omega)
  refine ⟨ad, e, fun j p hj => hc j p ?_⟩
  rw [List.getElem?_take] at hj
  split at hj
  · exact hj
  · cases hj
theorem C_suf {α : Type} {d : Kd α} {w : World} {A : Option Addr} {l : List α} (h : d.C w A l.length l) (i c : Nat) (hi : i ≤ l.length) (hc : l.length ≤ c) : d.C w (if c = i then A else A.map fun x => x.add (i * d.sz)) (l.length - i) (l.drop i) := by
  obtain ⟨_, h1, h2⟩ := h
  refine ⟨by rw [List.length_drop], by omega, fun hp => ?_⟩
  obtain ⟨ad, e, hcc⟩ := h2 (by omega)
  rw [if_neg (by omega), e]
  refine ⟨ad.add (i * d.sz), rfl, fun j p hj => ?_⟩
  rw [List.getElem?_drop] at hj
  obtain ⟨c', hl, hR, hx⟩ := hcc (i + j) p hj
  refine ⟨c', hl, hR, fun k u hk => ?_⟩
  have := hx k u hk
  rw [Go.Deep.add_add, show i * d.sz + (j * d.sz + k) = (i + j) * d.sz + k by rw [Nat.add_mul]; omega]
  exact this
set_option maxHeartbeats 8000000 in
set_option maxRecDepth 100000 in
theorem rwith_calls (l : List Int) (A : Option Addr) (c i : Nat) (id : Int) (w : World) (hC : Kd.C (Kd.int .i64) w A l.length l) (hc : l.length ≤ c) (hi : i ≤ l.length) (hl : l.length ≤ 1099511627776) :
    Calls Try.prog 96 #[.slice A l.length c, .int .i64 i, .int .i64 id] w fun e w' => ∃ v, e = .returned v ∧ Kd.R (Kd.int .i64) 3 w' w.heap.size (fun _ => True) v (l.take i ++ [id] ++ l.drop i) ∧ Below w.heap.size w w' := by
  have HP := Aside0.mk (C_pre hC i hi)
  have HSF := Aside0.mk (C_suf hC i c hi hc)
  obtain ⟨t, ht⟩ : ∃ t, t = l.take i := ⟨_, rfl⟩
  obtain ⟨q, hq⟩ : ∃ q, q = l.drop i := ⟨_, rfl⟩
  have HTL : Aside0 (t.length = i ∧ q.length = l.length - i) := ⟨by rw [ht, hq]; simp; omega⟩
  rw [← ht] at HP
  rw [← hq] at HSF
  rw [← ht, ← hq]
  have HL := Aside0.mk (And.intro hi hl)
  have hu29 := Try.underlying29
  have z0 : (0 : Int) ≤ (i : Int) := by omega
  have z1 : (i : Int) ≤ (c : Int) := by omega
  have z2 : (i : Int) ≤ (l.length : Int) := by omega
  clear ht hq hC hc hi hl
  go_enter Try.func96, Try.ntmps96
  go_upto_region 2 with (first
    | ((with_reducible refine gate_dst (N := 8) rfl ?_); refine Kd.R_lit (Kd.int .i64) _ 3 ?hg (N := 8) ?hd (xs := ([] : List Int)) (inner := []) (ok := fun _ => True) (okp := fun _ => True) ?hr ?hp (fun _ hk => hk) trivial (Below.refl _ _) (Nat.le_refl _) (by simp) ?_; (case hd => rfl); (case hg => rfl); (case hr => first | (go_simp; done) | (go_simp; rfl)); (case hp => exact ⟨rfl, fun j p hj => by simp at hj⟩); intro v5 w5 hR hb5 hg5 hown; have HR5 := Aside0.mk hR; have HB5 := Aside0.mk hb5; clear hR hb5 hg5 hown)
    | ((with_reducible refine gate_builtin (b := .append) rfl ?_); at_builtin; refine Kd.R_append_row (w0 := w) (Value.int .i64) (0 : Int) (h1 := fun _ => rfl) w.heap.size rfl (.tmp 8) (.tmp 11) 29 3 (.int .i64 0) 8 rfl Try.underlying29 info3 rfl (by decide) v5 [] t A i c (fun _ => True) rfl rfl (fun _ _ => trivial) HR5.out (Kd.C_below HP.out HB5.out) HB5.out HB5.out.size (by have := HL.out; simp; omega) ?_; intro v7 w7 hR hb7 _ _; have HR7 := Aside0.mk (show Kd.R (Kd.int .i64) 3 w7 w.heap.size (fun _ => True) v7 t from hR); have HB7 := Aside0.mk hb7; clear hR hb7)
    | fail)
  go_upto_region 3 with (first
    | ((with_reducible refine gate_builtin (b := .append) rfl ?_); at_builtin; refine Kd.R_append (Kd.int .i64) (w0 := w) w.heap.size rfl (.tmp 13) (.tmp 15) 29 3 (.int .i64 0) 8 rfl Try.underlying29 info3 rfl (by decide) (by decide) v7 t id [.int .i64 id] (fun _ => True) (fun _ => False) rfl rfl rfl (fun _ h => h.elim) (fun _ _ => trivial) HR7.out HB7.out HB7.out.size (by have := HL.out; have := HTL.out; omega) ?_; intro v9 w9 hR hb9 _ _; have HR9 := Aside0.mk hR; have HB9 := Aside0.mk hb9; clear hR hb9)
    | fail)
  go_upto_region 4 with (first
    | ((with_reducible refine gate_builtin (b := .append) rfl ?_); at_builtin; refine Kd.R_append_row (w0 := w) (Value.int .i64) (0 : Int) (h1 := fun _ => rfl) w.heap.size rfl (.tmp 17) (.tmp 20) 29 3 (.int .i64 0) 8 rfl Try.underlying29 info3 rfl (by decide) v9 (t ++ [id]) q _ (l.length - i) _ (fun _ => True) rfl rfl (fun _ _ => trivial) HR9.out (Kd.C_below (w := w) (by have h := HSF.out; simp only [show (Kd.int IntKind.i64).sz = 1 from rfl, Nat.mul_one] at h; first | exact h | (simp only [if_pos ‹c = i›] at h; exact h) | (simp only [if_neg ‹¬ c = i›, Option.map_some, Option.map_none] at h; exact h)) HB9.out) HB9.out HB9.out.size (by have := HL.out; have := HTL.out; simp; omega) ?_; intro v11 w11 hR hb11 _ _; have HR11 := Aside0.mk (show Kd.R (Kd.int .i64) 3 w11 w.heap.size (fun _ => True) v11 (t ++ [id] ++ q) from hR); have HB11 := Aside0.mk hb11; clear hR hb11)
    | fail)
  all_goals first
    | (refine ⟨_, rfl, ?_, HB11.out⟩; have h := HR11.out; rw [List.append_assoc] at h; exact h)
    | (go_ret; refine ⟨_, rfl, ?_, HB11.out⟩; have h := HR11.out; rw [List.append_assoc] at h; exact h)
    | trace_state
end Go.Proofs.Ytpnlbmeeihbjaaa.P
end
section
set_option linter.unusedVariables false
set_option linter.unusedSimpArgs false
namespace Go.Proofs.Ytpnlbmeeihbjaaa.P
open Go.RowKit Go.Proofs.YtpnlbmeeihbjaaaW.PrintWords Go.Proofs.YtpnlbmeeihbjaaaW.PrintLast Go.Proofs.YtpnlbmeeihbjaaaW.PrintMore
attribute [local go_sem] max2_int min2_int max_two min_two max_three min_three max_four min_four
set_option linter.unusedVariables false
set_option linter.unusedSimpArgs false
theorem RDN.elem {P : Nat → Prop} {w0 w : World} {g : Nat} {L : List S40} {next : Int} (h : RDN P w0 w g L next) (hP : ∀ k, w0.heap.size ≤ k → P k) (i : Nat) (hi : i < L.length) : ∃ gL c A3 c3 A4 c4,
    w.heap[g]? = some (.cells #[.slice (some ⟨gL, 0, none⟩) L.length c, .int .i64 next] 104 (0, 0)) ∧ gL ≠ g ∧ w0.heap.size ≤ gL ∧ gL < w.heap.size ∧ L.length ≤ c ∧
    w.cell? ⟨gL, i * 5 + 2, none⟩ = some (.int .i64 (L.getD i z40).f2) ∧ w.cell? ⟨gL, i * 5 + 3, none⟩ = some (.slice A3 (L.getD i z40).f3.length c3) ∧ w.cell? ⟨gL, i * 5 + 4, none⟩ = some (.slice A4 (L.getD i z40).f4.length c4) ∧
    (∀ j, w.frozen? ⟨gL, i * 5 + j, none⟩ = false) ∧
    (L.getD i z40).f3.length ≤ c3 ∧ Kd.C (Kd.int .i64) w A3 (L.getD i z40).f3.length (L.getD i z40).f3 ∧
    (∀ (W : World) (B : Option Addr) (d : Nat) (l : List Int), Below w.heap.size w W → Kd.R (Kd.int .i64) 3 W w.heap.size (fun _ => True) (.slice B l.length d) l → RDN P w0 (W.setCell ⟨gL, i * 5 + 3, none⟩ (.slice B l.length d)) g (L.set i { L.getD i z40 with f3 := l }) next) ∧
    (∀ (W : World) (B : Option Addr) (d : Nat) (l : List S70), Below w.heap.size w W → (∃ ok : Nat → Prop, (∀ k, ok k → k ≠ g ∧ k ≠ gL ∧ P k) ∧ Kd.F k70 W ok B l.length l ∧ l.length ≤ d) → RDN P w0 (W.setCell ⟨gL, i * 5 + 4, none⟩ (.slice B l.length d)) g (L.set i { L.getD i z40 with f4 := l }) next) ∧
    (∀ (W : World) (p : Int), Below w.heap.size w W → RDN P w0 (W.setCell ⟨gL, i * 5 + 2, none⟩ (.int .i64 p)) g (L.set i { L.getD i z40 with f2 := p }) next) := by
  obtain ⟨v, hg, hle, hN, hB⟩ := h
  obtain ⟨gL, cap, rfl, hbase, hlt, _⟩ := Kd.N_form hN (by omega)
  have hne : gL ≠ g := (hN.1 gL rfl).1
  obtain ⟨cs, hcl, hFK, hcell, hfr⟩ := Kd.N_elem hN z40 (i : Int) (by omega) (by omega)
  rw [Int.toNat_natCast] at hFK hcell hfr
  obtain ⟨x, hx⟩ : ∃ x, x = L.getD i z40 := ⟨_, rfl⟩
  rw [← hx] at hFK ⊢
  obtain ⟨A3, c3, A4, c4, hcs, l3, F3, l4, F4⟩ := k40_openF hFK
  subst hcs
  have e5 : k40.sz = 5 := rfl
  rw [e5] at hcell hfr
  have hcap := (Kd.N_reads' hN).2.1
  have put : ∀ (W : World) (j : Nat) (u : Value) (x' : S40) (cs' : List Value), Below w.heap.size w W → j < 5 → cs' = ([.int .i64 x.f0, .string x.f1, .int .i64 x.f2, .slice A3 x.f3.length c3, .slice A4 x.f4.length c4] : List Value).take j ++ [u] ++ ([.int .i64 x.f0, .string x.f1, .int .i64 x.f2, .slice A3 x.f3.length c3, .slice A4 x.f4.length c4] : List Value).drop (j + 1) →
      Kd.FK k40 W (fun k => (k ≠ g ∧ P k) ∧ k ≠ gL) x' cs' → RDN P w0 (W.setCell ⟨gL, i * 5 + j, none⟩ u) g (L.set i x') next := by
    intro W j u x' cs' hW hj hcs' hF
    have hNW := Kd.N_below hN hW
    have hcW : ∀ m v, ([.int .i64 x.f0, .string x.f1, .int .i64 x.f2, .slice A3 x.f3.length c3, .slice A4 x.f4.length c4] : List Value)[m]? = some v → W.cell? ⟨gL, ((i : Nat) : Int).toNat * k40.sz + m, none⟩ = some v := fun m v hm => by
      rw [Int.toNat_natCast, e5]
      exact pw_cell_below hW (hcell m v hm)
    have h2 := (Kd.N_seg hNW (i : Int) (by omega) (by omega) (c := [.int .i64 x.f0, .string x.f1, .int .i64 x.f2, .slice A3 x.f3.length c3, .slice A4 x.f4.length c4]) (seg := [u]) (j := j) rfl hcW (by show j + 1 ≤ 5; omega) (x' := x') (okp := fun k => (k ≠ g ∧ P k) ∧ k ≠ gL) (by rw [hcs'] at hF; exact hF) (fun k hk => ⟨hk.1, hk.2⟩)).1
    rw [Int.toNat_natCast, e5] at h2
    refine ⟨.slice (some ⟨gL, 0, none⟩) L.length cap, (heap_setCell_other W ⟨gL, i * 5 + j, none⟩ g u (Ne.symm hne)).trans (blk_below hg hW), hle, ?_, below_low (below_then hB hB.size hW) hbase _ _⟩
    exact h2
  have FW : ∀ {W : World}, Below w.heap.size w W → (Kd.F (Kd.int .i64) W (fun k => (k ≠ g ∧ P k) ∧ k ≠ gL) A3 x.f3.length x.f3 ∧ Kd.F k70 W (fun k => (k ≠ g ∧ P k) ∧ k ≠ gL) A4 x.f4.length x.f4) := fun {W} hW => ⟨Kd.F_below F3 hW, Kd.F_below F4 hW⟩
  refine ⟨gL, cap, A3, c3, A4, c4, hg, hne, hbase, hlt, hcap, hcell 2 _ rfl, hcell 3 _ rfl, hcell 4 _ rfl, hfr, l3, Kd.F_now F3, ?_, ?_, ?_⟩
  · intro W B d l hW hR
    have hd := (Kd.R_reads' hR).2.1
    refine put W 3 _ _ [.int .i64 x.f0, .string x.f1, .int .i64 x.f2, .slice B l.length d, .slice A4 x.f4.length c4] hW (by omega) rfl ?_
    refine k40_mkF W _ { x with f3 := l } hd ?_ l4 (FW hW).2
    refine Kd.F_mono (Kd.R_F (cc := d) (ok := fun k => w.heap.size ≤ k) (d := Kd.int .i64) (e := 3) (base := w.heap.size) ?_) (fun k hk => ⟨⟨by have := blk_lt hg; omega, hP k (by have := hB.size; omega)⟩, by omega⟩)
    exact Kd.R_of_own (enc := Value.int .i64) (h1 := fun _ => rfl) (Kd.own_of_R hR) (fun k hk => own_ge (Kd.own_of_R hR) k hk)
  · rintro W B d l hW ⟨ok, hok, hF, hd⟩
    refine put W 4 _ _ [.int .i64 x.f0, .string x.f1, .int .i64 x.f2, .slice A3 x.f3.length c3, .slice B l.length d] hW (by omega) rfl ?_
    exact k40_mkF W _ { x with f4 := l } l3 (FW hW).1 hd (Kd.F_mono hF (fun k hk => ⟨⟨(hok k hk).1, (hok k hk).2.2⟩, (hok k hk).2.1⟩))
  · intro W p hW
    refine put W 2 _ _ [.int .i64 x.f0, .string x.f1, .int .i64 p, .slice A3 x.f3.length c3, .slice A4 x.f4.length c4] hW (by omega) rfl ?_
    exact k40_mkF W _ { x with f2 := p } l3 (FW hW).1 l4 (FW hW).2
theorem rwithout_eq (l : List Int) (id : Int) (hl : l.length ≤ 1099511627776) : ∃ k, gouacheref07_without.f k l id = some (l.filter fun k => !(k == id)) := by
  have key : ∀ (d i : Nat) (out : List Int), i + d = l.length → out.length ≤ i → gouacheref07_without.l0 (d + 1) id out l (l.length : Int) (i : Int) = some (out ++ (l.drop i).filter fun k => !(k == id)) := by
    intro d
    induction d with
    | zero =>
      intro i out h ho
      unfold gouacheref07_without.l0
      rw [if_neg (by omega), List.drop_of_length_le (by omega)]
      simp
    | succ d ih =>
      intro i out h ho
      have hi : i < l.length := by omega
      unfold gouacheref07_without.l0
      rw [if_pos (by omega), if_pos (by omega), if_pos (by omega)]
      rw [show wrap64 ((i : Int) + 1) = ((i + 1 : Nat) : Int) by unfold wrap64; omega]
      have e : rd l (i : Int) = l[i] := by unfold rd; rw [Int.toNat_natCast, List.getD_eq_getElem?_getD, List.getElem?_eq_getElem hi]; rfl
      rw [List.drop_eq_getElem_cons hi, e, List.filter_cons]
      by_cases c : l[i] = id
      · rw [if_pos c, ih (i + 1) out (by omega) (by omega)]
        simp [c]
      · rw [if_neg c, if_pos (by omega), ih (i + 1) _ (by omega) (by simp; omega)]
        simp [c]
  refine ⟨l.length + 1, ?_⟩
  have h := key l.length 0 [] (by omega) (by simp)
  simpa [gouacheref07_without.f] using h
theorem rname_eq (s : ByteArray) (hs : s.size ≤ 140737488355328) : ∃ k, gouacheref01_Name.f k s = some (nameB s) := by
  have key : ∀ (m pos : Nat), s.size - pos < m → pos ≤ s.size → gouacheref01_Name.l0 m s (pos : Int) = some (((List.range' pos (s.size - pos)).all fun j => nameC j ((s.get! j).toNat : Int)) && (!s.toList.isEmpty && decide ((s.size : Int) ≤ 64))) := by
    intro m
    induction m with
    | zero => intro pos hm; omega
    | succ m ih =>
      intro pos hm hp
      unfold gouacheref01_Name.l0
      by_cases c : pos < s.size
      · rw [if_pos (by omega), if_pos (by omega)]
        obtain ⟨n, hn⟩ : ∃ n, s.size - pos = n + 1 := ⟨s.size - pos - 1, by omega⟩
        have ih' := ih (pos + 1) (by omega) (by omega)
        rw [show s.size - (pos + 1) = n by omega] at ih'
        rw [hn, List.range'_succ, List.all_cons, show wrap64 ((pos : Int) + 1) = ((pos + 1 : Nat) : Int) by unfold wrap64; omega, ih']
        have hb : bt s (pos : Int) = ((s.get! pos).toNat : Int) := by rw [getb_at c, ← bt_at s (pos : Int) (by rw [Int.toNat_natCast]; exact c)]; rfl
        rw [hb]
        generalize ((s.get! pos).toNat : Int) = b
        generalize (List.all (List.range' (pos + 1) n) fun j => nameC j ((s.get! j).toNat : Int)) = R
        generalize (!s.toList.isEmpty && decide ((s.size : Int) ≤ 64)) = Q
        unfold nameC btw
        have hz : decide (0 < pos) = !decide ((pos : Int) = 0) := by
          by_cases h : (pos : Int) = 0
          · rw [decide_eq_false (by omega), decide_eq_true h]; rfl
          · rw [decide_eq_true (by omega), decide_eq_false h]; rfl
        rw [hz]
        by_cases h1 : b ≥ 97 <;> by_cases h2 : b ≤ 122 <;> by_cases h3 : pos = 0 <;> by_cases h4 : b ≥ 48 <;> by_cases h5 : b ≤ 57 <;> by_cases h6 : b = 45 <;> by_cases h7 : b = 95 <;> first | (exfalso; omega) | simp [h1, h2, h3, h4, h5, h6, h7]
      · rw [if_neg (by omega), show s.size - pos = 0 by omega]
        have he : s.toList.isEmpty = decide (s.size = 0) := by
          have e : s.toList.length = s.size := by rw [ByteArray.toList_eq, Array.length_toList]; rfl
          cases h : s.toList with
          | nil => rw [h] at e; rw [decide_eq_true (show s.size = 0 from e.symm)]; rfl
          | cons x t => rw [h] at e; rw [decide_eq_false (by simp at e; omega)]; rfl
        rw [he]
        by_cases h : (s.size : Int) ≥ 1
        · rw [if_pos h, decide_eq_false (show ¬ s.size = 0 by omega)]; simp
        · rw [if_neg h, decide_eq_true (show s.size = 0 by omega)]; simp
  refine ⟨s.size + 1, ?_⟩
  have h := key (s.size + 1) 0 (by omega) (by omega)
  exact h
end Go.Proofs.Ytpnlbmeeihbjaaa.P
end
section
set_option linter.unusedVariables false
set_option linter.unusedSimpArgs false
namespace Go.Proofs.Ytpnlbmeeihbjaaa.P
open Go.RowKit Go.Proofs.YtpnlbmeeihbjaaaW.PrintWords Go.Proofs.YtpnlbmeeihbjaaaW.PrintLast Go.Proofs.YtpnlbmeeihbjaaaW.PrintMore
attribute [local go_sem] max2_int min2_int max_two min_two max_three min_three max_four min_four
set_option linter.unusedVariables false
set_option linter.unusedSimpArgs false
set_option maxHeartbeats 8000000 in
set_option maxRecDepth 100000 in
theorem rins_no (v : Value) (f : Nat → Option S40) (next p i : Int) (tag : ByteArray) (w : World) (h : RD w v f next) (hg : Good f next) (ht : tag.size ≤ 140737488355328) (he : insE f next p i (nameB tag) (ch f p).length ≠ 0) :
    Calls Try.prog 68 #[v, .int .i64 p, .int .i64 i, .string tag] w fun e w' => e = .returned (.tuple #[v, .int .i64 0, .int .i64 (insE f next p i (nameB tag) (ch f p).length)]) ∧ Below w.heap.size w w' := by
  obtain ⟨kn, hkn⟩ := rname_eq tag ht
  have HNM := Aside0.mk hkn
  obtain ⟨dep, hdep⟩ : ∃ dep : Int, dep = (ch f p).length := ⟨_, rfl⟩
  have HDEP := Aside0.mk hdep
  rw [← hdep] at he ⊢
  obtain ⟨E, hE⟩ : ∃ E, E = insE f next p i (nameB tag) dep := ⟨_, rfl⟩
  rw [← hE] at he ⊢
  clear hkn hdep
  have HD := Aside0.mk h
  have HG := Aside0.mk hg
  have HNODE : Aside0 (Calls Try.prog 38 #[v, .int .i64 p] w (CopyPost w (look f p))) := ⟨rnode_calls v f next p w h hg⟩
  have hu40 := Try.underlying40
  have hu104 := Try.underlying104
  have hu102 := Try.underlying102
  obtain ⟨x, hx⟩ : ∃ x, x = (look f p).getD z40 := ⟨_, rfl⟩
  have HX := Aside0.mk hx
  obtain ⟨b, A, c, rfl, hb, _, _⟩ := h
  have HB := Aside0.mk hb
  clear hx hb hg
  go_enter Try.func68, Try.ntmps68
  go_upto_region 2 with (first | (go_at_call 38; refine HNODE.out.mono ?_; rintro e W2 ⟨cs, rfl, hM, hb2⟩; rw [← HX.out] at hM; obtain ⟨A3, c3, A4, c4, hcs, l3, g3, l4, g4⟩ := k40_open (k40.K_of_M hM); obtain ⟨cl⟩ := cs; simp only at hcs; subst hcs; have HC3a := Aside0.mk (And.intro l3 g3); have HB2 := Aside0.mk hb2; clear hM hb2 l3 g3 l4 g4) | fail)
  have HB3 : Aside0 (Below w.heap.size w (W2.alloc (.cells #[.int .i64 x.f0, .string x.f1, .int .i64 x.f2, .slice A3 x.f3.length c3, .slice A4 x.f4.length c4] 40))) := ⟨below_alloc HB2.out _⟩
  have HC3 : Aside0 (x.f3.length ≤ c3 ∧ Kd.C (Kd.int .i64) (W2.alloc (.cells #[.int .i64 x.f0, .string x.f1, .int .i64 x.f2, .slice A3 x.f3.length c3, .slice A4 x.f4.length c4] 40)) A3 x.f3.length x.f3) := ⟨⟨HC3a.out.1, Kd.C_below HC3a.out.2 (below_alloc (Below.refl _ _) _)⟩⟩
  have q3 : (W2.alloc (.cells #[.int .i64 x.f0, .string x.f1, .int .i64 x.f2, .slice A3 x.f3.length c3, .slice A4 x.f4.length c4] 40)).cell? ⟨W2.heap.size, 3, none⟩ = some (.slice A3 x.f3.length c3) := (blk_cell (blk_new W2 _) 3).trans rfl
  clear HC3a
  generalize W2.alloc (.cells #[.int .i64 x.f0, .string x.f1, .int .i64 x.f2, .slice A3 x.f3.length c3, .slice A4 x.f4.length c4] 40) = W3 at HB3 HC3 q3 ⊢
  generalize W2.heap.size = g11 at q3 ⊢
  unfold insE at hE
  cases hl : look f p with
  | none =>
    rw [hl] at hE
    obtain rfl : E = 1 := hE
    have hs : (none : Option S40).isSome = false := rfl
    clear hl he
    go_wp2_with fail
    go_ret3
    exact ⟨rfl, HB3.out⟩
  | some x' =>
    have hs : (some x').isSome = true := rfl
    rw [hl] at hE
    have hxx := HX.out
    rw [hl] at hxx
    obtain rfl : x = x' := hxx
    clear hl
    simp only at hE
    by_cases c1 : i < 0 ∨ (x.f3.length : Int) < i
    · rw [if_pos c1] at hE
      obtain rfl : E = 3 := hE
      clear he
      by_cases c2 : i < 0
      · have d2 : decide (i < 0) = true := decide_eq_true c2
        clear c1 c2
        go_wp2_with fail
        go_ret3
        exact ⟨rfl, HB3.out⟩
      · have d2 : decide (i < 0) = false := decide_eq_false c2
        have d3 : decide ((x.f3.length : Int) < i) = true := decide_eq_true (c1.resolve_left c2)
        clear c1 c2
        go_wp2_with fail
        go_ret3
        exact ⟨rfl, HB3.out⟩
    · rw [if_neg c1] at hE
      have d2 : decide (i < 0) = false := decide_eq_false (fun e => c1 (Or.inl e))
      have d3 : decide ((x.f3.length : Int) < i) = false := decide_eq_false (fun e => c1 (Or.inr e))
      clear c1
      cases hnm : nameB tag with
      | false =>
        rw [hnm, if_pos rfl] at hE
        have hq := HNM.out
        rw [hnm] at hq
        have HNQ := Aside0.mk hq
        clear hq hnm
        obtain rfl : E = 7 := hE
        clear he
        go_loud (go_wp2_with (first | (go_at_call 94; go_loud (refine (gouacheref01_Name.calls kn tag _ _ HNQ.out).mono ?_; rintro e W4 ⟨rfl, hdr⟩; have hb4 : Below W3.heap.size W3 W4 := (by obtain ⟨m, rfl⟩ := hdr; repeat (first | exact Below.refl _ _ | apply below_drew1 | apply pw_below_drewN)); have HB34 := Aside0.mk hb4; have HB4 := Aside0.mk (below_then HB3.out HB3.out.size hb4); have q34 := pw_cell_below hb4 q3; have nx4 := (blk_cell (blk_below HB.out HB4.out) 1).trans (show _ = some (.int .i64 next) from rfl); clear hb4 hdr)) | fail))
        all_goals
          go_ret3
          exact ⟨rfl, HB4.out⟩
      | true =>
        rw [hnm, if_neg (by decide)] at hE
        have hq := HNM.out
        rw [hnm] at hq
        have HNQ := Aside0.mk hq
        clear hq hnm
        by_cases c4 : 1048576 ≤ next ∨ 512 ≤ dep
        · rw [if_pos c4] at hE
          obtain rfl : E = 5 := hE
          clear he
          by_cases c5 : 512 ≤ dep
          · have d5 : decide (512 ≤ dep) = true := decide_eq_true c5
            clear c4 c5
            go_wp2_with (first | (go_at_call 94; go_loud (refine (gouacheref01_Name.calls kn tag _ _ HNQ.out).mono ?_; rintro e W4 ⟨rfl, hdr⟩; have hb4 : Below W3.heap.size W3 W4 := (by obtain ⟨m, rfl⟩ := hdr; repeat (first | exact Below.refl _ _ | apply below_drew1 | apply pw_below_drewN)); have HB34 := Aside0.mk hb4; have HB4 := Aside0.mk (below_then HB3.out HB3.out.size hb4); have q34 := pw_cell_below hb4 q3; have nx4 := (blk_cell (blk_below HB.out HB4.out) 1).trans (show _ = some (.int .i64 next) from rfl); clear hb4 hdr)) | (go_at_call 19; refine (rdepth_calls _ f next p _ (HD.out.below HB4.out) HG.out).mono ?_; rintro e W5 ⟨rfl, hb5⟩; rw [← HDEP.out]; have HB45 := Aside0.mk hb5; have HB5 := Aside0.mk (below_then HB4.out HB4.out.size hb5); have q35 := pw_cell_below hb5 q34; have nx5 := (blk_cell (blk_below HB.out HB5.out) 1).trans (show _ = some (.int .i64 next) from rfl); clear hb5) | fail)
            all_goals
              go_ret3
              exact ⟨rfl, HB5.out⟩
          · have d5 : decide (512 ≤ dep) = false := decide_eq_false c5
            have d6 : decide (1048576 ≤ next) = true := decide_eq_true (c4.resolve_right c5)
            clear c4 c5
            go_wp2_with (first | (go_at_call 94; go_loud (refine (gouacheref01_Name.calls kn tag _ _ HNQ.out).mono ?_; rintro e W4 ⟨rfl, hdr⟩; have hb4 : Below W3.heap.size W3 W4 := (by obtain ⟨m, rfl⟩ := hdr; repeat (first | exact Below.refl _ _ | apply below_drew1 | apply pw_below_drewN)); have HB34 := Aside0.mk hb4; have HB4 := Aside0.mk (below_then HB3.out HB3.out.size hb4); have q34 := pw_cell_below hb4 q3; have nx4 := (blk_cell (blk_below HB.out HB4.out) 1).trans (show _ = some (.int .i64 next) from rfl); clear hb4 hdr)) | (go_at_call 19; refine (rdepth_calls _ f next p _ (HD.out.below HB4.out) HG.out).mono ?_; rintro e W5 ⟨rfl, hb5⟩; rw [← HDEP.out]; have HB45 := Aside0.mk hb5; have HB5 := Aside0.mk (below_then HB4.out HB4.out.size hb5); have q35 := pw_cell_below hb5 q34; have nx5 := (blk_cell (blk_below HB.out HB5.out) 1).trans (show _ = some (.int .i64 next) from rfl); clear hb5) | fail)
            all_goals
              go_ret3
              exact ⟨rfl, HB5.out⟩
        · rw [if_neg c4] at hE
          exact absurd hE he
theorem RDN.next {P : Nat → Prop} {w0 w : World} {g : Nat} {L : List S40} {next : Int} (h : RDN P w0 w g L next) (n' : Int) : RDN P w0 (w.setCell ⟨g, 1, none⟩ (.int .i64 n')) g L n' := by
  obtain ⟨v, hg, hle, hN, hB⟩ := h
  exact ⟨v, blk_put (cs := #[v, .int .i64 next]) hg 1 _ rfl, hle, Kd.N_far hN (fun k hk => hk.1) _, below_set hB hle⟩
theorem lst_ins {f : Nat → Option S40} {next : Int} (h : Good f next) {p : Int} {y : S40} (hp : look f p = some y) (hnx : next < 1048576) (i : Nat) (tag : ByteArray) {k : Nat} (hk : idxR (lst f next.toNat) p = (k : Int)) :
    lst (insF f next p i tag) (next + 1).toNat = (lst f next.toNat).set k (gainA i next y) ++ [el next tag p] := by
  have hlo := h.lo
  have hd := h.dom p y hp
  rw [show (next + 1).toNat = next.toNat + 1 by omega, lst_succ]
  have e1 : look (insF f next p i tag) (next.toNat : Int) = some (el next tag p) := by
    rw [look_ins h hp hnx, if_pos (by omega)]
  rw [e1]
  have e2 : lst (insF f next p i tag) next.toNat = lst (putF f p (some (gainA i next y))) next.toNat := lst_same _ (fun j hj => by
    rw [look_ins h hp hnx, if_neg (by omega), look_put _ _ _ _ (by omega) (by omega)])
  rw [e2, lst_put h.numf (by omega) hp (by omega) (by omega) hk]
set_option maxHeartbeats 16000000 in
set_option maxRecDepth 100000 in
theorem rins_yes (ok : Nat → Prop) (v : Value) (f : Nat → Option S40) (next p : Int) (i : Nat) (tag : ByteArray) (w : World) (hfresh : ∀ k, w.heap.size ≤ k → ok k) (h : RDO ok w v f next) (hg : Good f next) (ht : tag.size ≤ 140737488355328) (he : insE f next p (i : Int) (nameB tag) (ch f p).length = 0) :
    Calls Try.prog 68 #[v, .int .i64 p, .int .i64 (i : Int), .string tag] w fun e w' => ∃ u, e = .returned (.tuple #[u, .int .i64 next, .int .i64 0]) ∧ RDO ok w' u (insF f next p i tag) (next + 1) ∧ Below w.heap.size w w' := by
  obtain ⟨kn, hkn⟩ := rname_eq tag ht
  obtain ⟨y, hl, hi0, hi1, hnm, hnx, hdp⟩ := insE_zero he
  rw [hnm] at hkn
  have HNQ := Aside0.mk hkn
  obtain ⟨dep, hdep⟩ : ∃ dep : Int, dep = (ch f p).length := ⟨_, rfl⟩
  have HDEP := Aside0.mk hdep
  rw [← hdep] at hdp
  have HSZ := Aside0.mk (hg.sizes p)
  have d2 : decide ((i : Int) < 0) = false := decide_eq_false (by omega)
  have d3 : decide ((y.f3.length : Int) < (i : Int)) = false := decide_eq_false (by omega)
  have d3' : decide (y.f3.length < i) = false := decide_eq_false (by omega)
  have d5 : decide (512 ≤ dep) = false := decide_eq_false (by omega)
  have d6 : decide (1048576 ≤ next) = false := decide_eq_false (by omega)
  have HHI := Aside0.mk (And.intro hnx hi1)
  have HHL := Aside0.mk hl
  obtain ⟨k, hk, hkx, hki⟩ := idx_at hg.numf (n := next.toNat) hl (by have := hg.dom p y hl; omega) (by have := hg.dom p y hl; omega)
  have HK := Aside0.mk (And.intro hk hki)
  have HKX : Aside0 ((lst f next.toNat).getD k z40 = y) := ⟨by rw [List.getD_eq_getElem?_getD, List.getElem?_eq_getElem hk, hkx]; rfl⟩
  have HLST := Aside0.mk (lst_ins hg hl hnx i tag hki)
  have HLL : Aside0 ((lst f next.toNat).length ≤ 1048576) := ⟨by have := lst_len f next.toNat; omega⟩
  clear hkn hdep he hi0 hi1 hnm hdp hnx hk hkx hki
  have HP := Aside0.mk hfresh
  replace h := h.rd
  clear hfresh
  have HD := Aside0.mk h
  have HG := Aside0.mk hg
  have HNODE : Aside0 (Calls Try.prog 38 #[v, .int .i64 p] w (CopyPost w (look f p))) := ⟨rnode_calls v f next p w h hg⟩
  have hu40 := Try.underlying40
  have hu104 := Try.underlying104
  have hu102 := Try.underlying102
  obtain ⟨x, hx⟩ : ∃ x, x = (look f p).getD z40 := ⟨_, rfl⟩
  have HX := Aside0.mk hx
  obtain ⟨b, A, c, rfl, hb, _, _⟩ := h
  have HB := Aside0.mk hb
  clear hx hb hg
  go_enter Try.func68, Try.ntmps68
  go_upto_region 2 with (first | (go_at_call 38; refine HNODE.out.mono ?_; rintro e W2 ⟨cs, rfl, hM, hb2⟩; rw [← HX.out] at hM; obtain ⟨A3, c3, A4, c4, hcs, l3, g3, l4, g4⟩ := k40_open (k40.K_of_M hM); obtain ⟨cl⟩ := cs; simp only at hcs; subst hcs; have HC3a := Aside0.mk (And.intro l3 g3); have HB2 := Aside0.mk hb2; clear hM hb2 l3 g3 l4 g4) | fail)
  have HB3 : Aside0 (Below w.heap.size w (W2.alloc (.cells #[.int .i64 x.f0, .string x.f1, .int .i64 x.f2, .slice A3 x.f3.length c3, .slice A4 x.f4.length c4] 40))) := ⟨below_alloc HB2.out _⟩
  have HC3 : Aside0 (x.f3.length ≤ c3 ∧ Kd.C (Kd.int .i64) (W2.alloc (.cells #[.int .i64 x.f0, .string x.f1, .int .i64 x.f2, .slice A3 x.f3.length c3, .slice A4 x.f4.length c4] 40)) A3 x.f3.length x.f3) := ⟨⟨HC3a.out.1, Kd.C_below HC3a.out.2 (below_alloc (Below.refl _ _) _)⟩⟩
  have q3 : (W2.alloc (.cells #[.int .i64 x.f0, .string x.f1, .int .i64 x.f2, .slice A3 x.f3.length c3, .slice A4 x.f4.length c4] 40)).cell? ⟨W2.heap.size, 3, none⟩ = some (.slice A3 x.f3.length c3) := (blk_cell (blk_new W2 _) 3).trans rfl
  clear HC3a
  generalize W2.alloc (.cells #[.int .i64 x.f0, .string x.f1, .int .i64 x.f2, .slice A3 x.f3.length c3, .slice A4 x.f4.length c4] 40) = W3 at HB3 HC3 q3 ⊢
  generalize W2.heap.size = g11 at q3 ⊢
  have hs : (look f p).isSome = true := by rw [HHL.out]; rfl
  have hxx := HX.out
  rw [HHL.out] at hxx
  obtain rfl : x = y := hxx
  generalize (look f p).isSome = bs at hs ⊢
  subst hs
  go_upto_region 11 with (first | (go_at_call 94; go_loud (refine (gouacheref01_Name.calls kn tag _ _ HNQ.out).mono ?_; rintro e W4 ⟨rfl, hdr⟩; have hb4 : Below W3.heap.size W3 W4 := (by obtain ⟨m, rfl⟩ := hdr; repeat (first | exact Below.refl _ _ | apply below_drew1 | apply pw_below_drewN)); have HB34 := Aside0.mk hb4; have HB4 := Aside0.mk (below_then HB3.out HB3.out.size hb4); have q34 := pw_cell_below hb4 q3; have nx4 := (blk_cell (blk_below HB.out HB4.out) 1).trans (show _ = some (.int .i64 next) from rfl); clear hb4 hdr)) | (go_at_call 19; refine (rdepth_calls _ f next p _ (HD.out.below HB4.out) HG.out).mono ?_; rintro e W5 ⟨rfl, hb5⟩; rw [← HDEP.out]; have HB45 := Aside0.mk hb5; have HB5 := Aside0.mk (below_then HB4.out HB4.out.size hb5); have q35 := pw_cell_below hb5 q34; have nx5 := (blk_cell (blk_below HB.out HB5.out) 1).trans (show _ = some (.int .i64 next) from rfl); clear hb5) | (go_at_call 95; refine (rcopy_calls ok _ f next _ (fun k hk => HP.out k (Nat.le_trans HB5.out.size hk)) (HD.out.below HB5.out) HG.out).mono ?_; rintro e W6 ⟨gx, rfl, hrd⟩; have HRD := Aside0.mk hrd; clear hrd) | fail)
  obtain ⟨l, hl⟩ : ∃ l, l = lst f next.toNat := ⟨_, rfl⟩
  rw [← hl] at HK HKX HLST HLL HRD
  clear hl
  obtain ⟨gL, cc, B3, e3, B4, e4, hgx, hne, hle, hlt, hcap, k2, k3, k4, kfr, _, _, p3, p4, p2⟩ := HRD.out.elem (fun k hk => HP.out k (Nat.le_trans HB5.out.size hk)) k HK.out.1
  rw [HKX.out] at k2 k3 k4 p3 p4 p2
  have HGX := Aside0.mk hgx
  have HKF := Aside0.mk kfr
  have HP2 := Aside0.mk p2
  have HP3 := Aside0.mk p3
  have HP4 := Aside0.mk p4
  have HNE := Aside0.mk hne
  have HLT : Aside0 (gL < W6.heap.size) := ⟨hlt⟩
  have HLE := Aside0.mk hle
  have r0 := (blk_cell hgx 0).trans (show _ = some (.slice (some ⟨gL, 0, none⟩) l.length cc) from rfl)
  have r1 := (blk_cell hgx 1).trans (show _ = some (.int .i64 next) from rfl)
  have HB56 : Aside0 (Below W5.heap.size W5 W6) := ⟨HRD.out.choose_spec.2.2.2⟩
  have HBW6 : Aside0 (Below w.heap.size w W6) := ⟨below_then HB5.out HB5.out.size HB56.out⟩
  have kf2 := kfr 2
  have kf3 := kfr 3
  have kf4 := kfr 4
  have z0 : (0 ≤ (k : Int)) = True := eq_true (by omega)
  have z1 : ((k : Int) < (l.length : Int)) = True := eq_true (by have := HK.out.1; omega)
  clear hgx kfr p2 p3 p4 hne hle hlt hcap
  have q36 := pw_cell_below HB56.out q35
  have HAT : Aside0 (∀ W : World, Below W6.heap.size W6 W → Calls Try.prog 73 #[.pointer (some ⟨gx, 0, none⟩), .int .i64 p] W fun e w' => e = .returned (.int .i64 (k : Int)) ∧ Below W.heap.size W w') := ⟨fun W hW => by
    have h := at_calls _ l next p W ((HRD.out.step hW).doc)
    rw [HK.out.2] at h
    exact h⟩
  have HWITH : Aside0 (∀ W : World, Below W6.heap.size W6 W → Calls Try.prog 96 #[.slice A3 x.f3.length c3, .int .i64 (i : Int), .int .i64 next] W fun e w' => ∃ B d, e = .returned (.slice B (x.f3.length + 1) d) ∧ Kd.R (Kd.int .i64) 3 w' W6.heap.size (fun _ => True) (.slice B (x.f3.length + 1) d) (gainA i next x).f3 ∧ Below W.heap.size W w') := ⟨fun W hW => by
    have hC := Kd.C_below HC3.out.2 (below_then HB34.out HB34.out.size (below_then HB45.out HB45.out.size (below_then HB56.out HB56.out.size hW)))
    refine (rwith_calls x.f3 A3 c3 i next W hC HC3.out.1 (by have := HHI.out.2; omega) (by have h := HSZ.out.1; rw [HHL.out] at h; exact h)).mono ?_
    rintro e w' ⟨v', rfl, hR, hb⟩
    obtain ⟨B, d, rfl⟩ := Kd.R_slice hR
    have el : (x.f3.take i ++ [next] ++ x.f3.drop i).length = x.f3.length + 1 := by have := HHI.out.2; simp; omega
    rw [el] at hR ⊢
    exact ⟨B, d, rfl, Kd.R_lower hR hW.size, hb⟩⟩
  have hne1 : gL ≠ gx := HNE.out
  have hne2 : gL ≠ g11 := by have := World.block_lt_of_cell? _ _ q35; have := HLE.out; show gL ≠ g11; simp only at *; omega
  go_region_held3 (fun w' => w'.cell? ⟨gx, 0, none⟩ = some (.slice (some ⟨gL, 0, none⟩) l.length cc) ∧ w'.cell? ⟨gx, 1, none⟩ = some (.int .i64 next) ∧ w'.cell? ⟨g11, 3, none⟩ = some (.slice A3 x.f3.length c3)) (first | go_keep | exact ⟨pw_cell_below HB8.out r0, pw_cell_below HB8.out r1, pw_cell_below HB8.out q36⟩ | exact ⟨pw_cell_below HB7.out r0, pw_cell_below HB7.out r1, pw_cell_below HB7.out q36⟩) (first
      | (go_at_call 73; (with_reducible refine (HAT.out _ (by repeat (first | exact Below.refl _ _ | apply below_alloc | apply below_drew1 | apply pw_below_drewN))).mono ?_); rintro e W7 ⟨rfl, hb7⟩; have HB7 := Aside0.mk (show Below W6.heap.size W6 W7 from ⟨hb7.os, hb7.tape, hb7.output, hb7.size, hb7.block⟩); clear hb7)
      | (go_at_call 96; (with_reducible refine (HWITH.out _ (by repeat (first | exact HB7.out | apply below_alloc | apply below_drew1 | apply pw_below_drewN))).mono ?_); rintro e W8 ⟨B, d, rfl, hR, hb8⟩; have HR8 := Aside0.mk hR; have HB8 := Aside0.mk (below_then HB7.out HB7.out.size (show Below W7.heap.size W7 W8 from ⟨hb8.os, hb8.tape, hb8.output, hb8.size, hb8.block⟩)); have k38 := pw_cell_below HB8.out k3; have kf38 := (HB8.out.frozen HLT.out).trans kf3; clear hR hb8)
      | fail)
  have mixed : Try.prog.follows Departure.mixedOrders = true := by kernel_rfl
  have el3 : (gainA i next x).f3.length = x.f3.length + 1 := by
    show (x.f3.take i ++ [next] ++ x.f3.drop i).length = _
    have := HHI.out.2; simp; omega
  have HD11 : Aside0 (RDN ok W5 (W8.setCell ⟨gL, k * 5 + 3, none⟩ (.slice B (x.f3.length + 1) d)) gx (l.set k (gainA i next x)) next) := ⟨by
    have h := HP3.out W8 B d (gainA i next x).f3 HB8.out (by rw [el3]; exact HR8.out)
    rw [el3] at h
    exact h⟩
  generalize (W8.setCell ⟨gL, k * 5 + 3, none⟩ (.slice B (x.f3.length + 1) d)) = W11 at HD11 ⊢
  obtain ⟨T, hT⟩ : ∃ T, T = (l.set k (gainA i next x)) := ⟨_, rfl⟩
  have HTL : Aside0 ((T.length + 1) * 80 ≤ 140737488355328) := ⟨by rw [hT, List.length_set]; have := HLL.out; omega⟩
  have HTE := Aside0.mk hT
  rw [← hT] at HD11
  clear hT k38 kf38 r0 r1 q36 q35 k2 k3 k4 kf2 kf3 kf4 el3 hne1 hne2
  obtain ⟨vL, hgx1, hle, hN1, hBx1⟩ := HD11.out
  obtain ⟨A, c0', rfl⟩ := Kd.N_slice hN1
  have HN := Aside0.mk hN1
  have HGX1 := Aside0.mk hgx1
  have HBX := Aside0.mk hBx1
  have HLE2 := Aside0.mk hle
  have u0 := (blk_cell hgx1 0).trans (show _ = some (.slice A T.length c0') from rfl)
  have u1 := (blk_cell hgx1 1).trans (show _ = some (.int .i64 next) from rfl)
  have u0f := blk_frozen hgx1 0
  have n0 : ∀ o, (W11.alloc o).cell? ⟨gx, 0, none⟩ = some (.slice A T.length c0') := fun o => pw_cell_below (below_alloc (Below.refl _ _) o) u0
  have HFR : Aside0 (∀ W : World, Below W11.heap.size W11 W → ∀ k, W.heap.size ≤ k → k ≠ gx ∧ ok k) := ⟨fun W hW k hk => ⟨by have := blk_lt HGX1.out; have := hW.size; omega, HP.out k (by have h1 := HBX.out.size; have h2 := hW.size; have h3 := HB5.out.size; omega)⟩⟩
  have HNE2 : Aside0 (some gx ≠ (Value.slice A T.length c0').ownBlock) := ⟨fun e => (hN1.1 _ e.symm).1 rfl⟩
  clear hgx1 hN1 hBx1 hle
  go_upto_region 12 with (fail)
  go_region_law_o (refine Kd.N_append_step k40 (w0 := W5) (W := W11.drew) W5.heap.size (by rfl) (.tmp 76) (.tmp 84) 102 40 (.agg #[(.int .i64 0), (.string ⟨#[]⟩), (.int .i64 0), (.slice none 0 0), (.slice none 0 0)]) 80 (by rfl) Try.underlying102 info40_ rfl (by decide) (by decide) (.slice A T.length c0') T (el next tag p) [.int .i64 next, .string tag, .int .i64 p, .slice none 0 0, .slice none 0 0] (fun k => k ≠ gx ∧ ok k) _ (by rfl) (by rfl) (fun W2 _ => el_K W2 next tag p) (fun _ hk => hk) (HFR.out _ (by repeat (first | exact Below.refl _ _ | apply below_drew1 | apply pw_below_drewN))) (by repeat (first | exact HN.out | apply Kd.N_drew)) (by repeat (first | exact HBX.out | apply below_drew1 | apply pw_below_drewN)) HBX.out.size HTL.out ?_; intro v1 w1 hN1 hb1 hg1 hat1; obtain ⟨A1, c1', rfl⟩ := Kd.N_slice hN1; have hgx1 := (hg1.block gx (blk_lt HGX1.out) HNE2.out).trans HGX1.out; have HGX2 := Aside0.mk hgx1; have w1c := (blk_cell hgx1 0).trans (show _ = some _ from rfl); have w1f := blk_frozen hgx1 0; have HN1 := Aside0.mk hN1; have HB1 := Aside0.mk hb1; clear hN1 hb1 hg1 hat1 hgx1)
  all_goals
    have HD12 : Aside0 (RDN ok W5 (w1.setCell ⟨gx, 0, none⟩ (.slice A1 (T.length + 1) c1')) gx (T ++ [el next tag p]) next) := ⟨by
      have hN2 := HN1.out
      rw [show (T ++ [el next tag p]).length = T.length + 1 by simp] at hN2
      exact ⟨_, blk_put (cs := #[.slice A T.length c0', .int .i64 next]) HGX2.out 0 _ rfl, HLE2.out, Kd.N_far hN2 (fun k hk => hk.1) _, below_set HB1.out HLE2.out⟩⟩
    generalize w1.setCell ⟨gx, 0, none⟩ (.slice A1 (T.length + 1) c1') = W12 at HD12 ⊢
    clear w1c w1f u0 u1 u0f n0
    obtain ⟨v12, hgx12, _⟩ := HD12.out
    have u1 := (blk_cell hgx12 1).trans (show _ = some (.int .i64 next) from rfl)
    have u1f := blk_frozen hgx12 1
    have HD13 := Aside0.mk (HD12.out.next (wrap64 (next + 1)))
    clear hgx12
    go_upto_region 14 with (fail)
    generalize W12.setCell ⟨gx, 1, none⟩ (.int .i64 (wrap64 (next + 1))) = W13 at HD13 ⊢
    have HBF : Aside0 (Below w.heap.size w W13) := ⟨below_then HB5.out HB5.out.size HD13.out.choose_spec.2.2.2⟩
    have nx13 := (blk_cell (blk_below HB.out HBF.out) 1).trans (show _ = some (.int .i64 next) from rfl)
    clear u1 u1f nx4 nx5
    go_region_with (fail)
    all_goals
      go_wp2_with fail
      go_ret3
      have hw : wrap64 (next + 1) = next + 1 := by have := HHI.out.1; have := HG.out.lo; unfold wrap64; omega
      have hd := HD13.out.docO (fun k hk => HP.out k (Nat.le_trans HB5.out.size hk))
      rw [hw, HTE.out, ← HLST.out] at hd
      exact ⟨_, rfl, RDocO.below hd (by repeat (first | exact Below.refl _ _ | apply below_drew1 | apply pw_below_drewN)), (by repeat (first | exact HBF.out | apply below_drew1 | apply pw_below_drewN))⟩
end Go.Proofs.Ytpnlbmeeihbjaaa.P
end
section
set_option linter.unusedVariables false
set_option linter.unusedSimpArgs false
namespace Go.Proofs.Ytpnlbmeeihbjaaa.P
open Go.RowKit Go.Proofs.YtpnlbmeeihbjaaaW.PrintWords Go.Proofs.YtpnlbmeeihbjaaaW.PrintLast Go.Proofs.YtpnlbmeeihbjaaaW.PrintMore
attribute [local go_sem] max2_int min2_int max_two min_two max_three min_three max_four min_four
set_option linter.unusedVariables false
set_option linter.unusedSimpArgs false
theorem attrV_has (l : List S70) (s : ByteArray) : (attrV l s).2 = hasA l s := by
  unfold attrV
  cases hasA l s <;> rfl
theorem drop_filter {l : List S70} (h : SortA l) {s : ByteArray} (hs : hasA l s = true) : l.take (posA l s) ++ l.drop (posA l s + 1) = l.filter fun a => !decide (a.f0 = s) := by
  obtain ⟨hp, he⟩ := hasA_at hs
  have hl : l = l.take (posA l s) ++ (l[posA l s] :: l.drop (posA l s + 1)) := by
    rw [← List.drop_eq_getElem_cons hp, List.take_append_drop]
  have h1 : (l.take (posA l s)).filter (fun a => !decide (a.f0 = s)) = l.take (posA l s) := List.filter_eq_self.2 (fun a ha => by
    obtain ⟨j, hj, e⟩ := List.getElem_of_mem ha
    rw [List.length_take] at hj
    rw [List.getElem_take] at e
    have := h.lt (show j < posA l s by omega) hp
    rw [e, he] at this
    have hne : a.f0 ≠ s := fun e2 => by rw [e2, lessS_irrefl] at this; cases this
    simp [hne])
  have h2 : (l.drop (posA l s + 1)).filter (fun a => !decide (a.f0 = s)) = l.drop (posA l s + 1) := List.filter_eq_self.2 (fun a ha => by
    obtain ⟨j, hj, e⟩ := List.getElem_of_mem ha
    rw [List.length_drop] at hj
    rw [List.getElem_drop] at e
    have := h.lt (show posA l s < posA l s + 1 + j by omega) (show posA l s + 1 + j < l.length by omega)
    rw [e, he] at this
    have hne : a.f0 ≠ s := fun e2 => by rw [e2, lessS_irrefl] at this; cases this
    simp [hne])
  conv => rhs; rw [hl]
  rw [List.filter_append, List.filter_cons, h1, h2, if_neg (by simp [he])]
set_option maxHeartbeats 16000000 in
set_option maxRecDepth 100000 in
theorem rdrp_calls (ok : Nat → Prop) (v : Value) (f : Nat → Option S40) (next id : Int) (s : ByteArray) (w : World) (hfresh : ∀ k, w.heap.size ≤ k → ok k) (h : RDO ok w v f next) (hg : Good f next) :
    Calls Try.prog 72 #[v, .int .i64 id, .string s] w fun e w' => ∃ u, e = .returned (.tuple #[u, .int .i64 (drpE f id s)]) ∧ RDO ok w' u (if drpE f id s = 0 then drpF f id s else f) next ∧ Below w.heap.size w w' := by
  have hu70 := Try.underlying70
  have hu38 := Try.underlying38
  obtain ⟨E, hE⟩ : ∃ E, E = drpE f id s := ⟨_, rfl⟩
  rw [← hE]
  unfold drpE at hE
  have HPK := Aside0.mk hfresh
  have HO := Aside0.mk h
  replace h := h.rd
  clear hfresh
  have HD := Aside0.mk h
  have HG := Aside0.mk hg
  have HNODE : Aside0 (Calls Try.prog 38 #[v, .int .i64 id] w (CopyPost w (look f id))) := ⟨rnode_calls v f next id w h hg⟩
  have hu40 := Try.underlying40
  have hu104 := Try.underlying104
  have hu102 := Try.underlying102
  obtain ⟨x, hx⟩ : ∃ x, x = (look f id).getD z40 := ⟨_, rfl⟩
  have HX := Aside0.mk hx
  obtain ⟨b, A, c, rfl, hb, _, _⟩ := h
  have HB := Aside0.mk hb
  clear hx hb hg
  go_enter Try.func72, Try.ntmps72
  go_upto_region 2 with (first | (go_at_call 38; refine HNODE.out.mono ?_; rintro e W2 ⟨cs, rfl, hM, hb2⟩; rw [← HX.out] at hM; obtain ⟨A3, c3, A4, c4, hcs, l3, g3, l4, g4⟩ := k40_open (k40.K_of_M hM); obtain ⟨cl⟩ := cs; simp only at hcs; subst hcs; have HC3a := Aside0.mk (And.intro l3 (And.intro g3 (And.intro l4 g4))); have HB2 := Aside0.mk hb2; clear hM hb2 l3 g3 l4 g4) | fail)
  have HB3 : Aside0 (Below w.heap.size w (W2.alloc (.cells #[.int .i64 x.f0, .string x.f1, .int .i64 x.f2, .slice A3 x.f3.length c3, .slice A4 x.f4.length c4] 40))) := ⟨below_alloc HB2.out _⟩
  have HC3 : Aside0 (x.f3.length ≤ c3 ∧ Kd.C (Kd.int .i64) (W2.alloc (.cells #[.int .i64 x.f0, .string x.f1, .int .i64 x.f2, .slice A3 x.f3.length c3, .slice A4 x.f4.length c4] 40)) A3 x.f3.length x.f3) := ⟨⟨HC3a.out.1, Kd.C_below HC3a.out.2.1 (below_alloc (Below.refl _ _) _)⟩⟩
  have q3 : (W2.alloc (.cells #[.int .i64 x.f0, .string x.f1, .int .i64 x.f2, .slice A3 x.f3.length c3, .slice A4 x.f4.length c4] 40)).cell? ⟨W2.heap.size, 3, none⟩ = some (.slice A3 x.f3.length c3) := (blk_cell (blk_new W2 _) 3).trans rfl
  have HC4 : Aside0 (x.f4.length ≤ c4 ∧ Kd.C k70 (W2.alloc (.cells #[.int .i64 x.f0, .string x.f1, .int .i64 x.f2, .slice A3 x.f3.length c3, .slice A4 x.f4.length c4] 40)) A4 x.f4.length x.f4) := ⟨⟨HC3a.out.2.2.1, Kd.C_below HC3a.out.2.2.2 (below_alloc (Below.refl _ _) _)⟩⟩
  have q2 : (W2.alloc (.cells #[.int .i64 x.f0, .string x.f1, .int .i64 x.f2, .slice A3 x.f3.length c3, .slice A4 x.f4.length c4] 40)).cell? ⟨W2.heap.size, 2, none⟩ = some (.int .i64 x.f2) := (blk_cell (blk_new W2 _) 2).trans rfl
  have q4 : (W2.alloc (.cells #[.int .i64 x.f0, .string x.f1, .int .i64 x.f2, .slice A3 x.f3.length c3, .slice A4 x.f4.length c4] 40)).cell? ⟨W2.heap.size, 4, none⟩ = some (.slice A4 x.f4.length c4) := (blk_cell (blk_new W2 _) 4).trans rfl
  clear HC3a
  generalize W2.alloc (.cells #[.int .i64 x.f0, .string x.f1, .int .i64 x.f2, .slice A3 x.f3.length c3, .slice A4 x.f4.length c4] 40) = W3 at HB3 HC3 HC4 q2 q3 q4 ⊢
  generalize W2.heap.size = g11 at q2 q3 q4 ⊢
  go_upto_region 3 with (first | (go_at_call 99; refine (rattr_calls _ f next id s _ (HD.out.below HB3.out) HG.out).mono ?_; rintro e W4 ⟨rfl, hb4⟩; rw [← HX.out]; have HB34 := Aside0.mk hb4; have HB4 := Aside0.mk (below_then HB3.out HB3.out.size hb4); have q42 := pw_cell_below hb4 q2; have q43 := pw_cell_below hb4 q3; have q44 := pw_cell_below hb4 q4; clear hb4) | fail)
  clear q2 q3 q4
  have HAV : Aside0 ((attrV x.f4 s).2 = hasA x.f4 s) := ⟨attrV_has _ _⟩
  cases hl : look f id with
  | none =>
    rw [hl] at hE
    obtain rfl : E = 1 := hE
    have hs : (none : Option S40).isSome = false := rfl
    clear hl
    go_wp2_with fail
    go_ret2
    exact ⟨_, rfl, HO.out.below HB4.out, HB4.out⟩
  | some x' =>
    have hs : (some x').isSome = true := rfl
    rw [hl] at hE
    have hxx := HX.out
    rw [hl] at hxx
    obtain rfl : x = x' := hxx
    have HL := Aside0.mk hl
    clear hl
    simp only at hE
    cases hh : hasA x.f4 s with
    | false =>
      rw [hh, if_pos rfl] at hE
      obtain rfl : E = 7 := hE
      have ha : (attrV x.f4 s).2 = false := HAV.out.trans hh
      clear hh
      go_wp2_with fail
      go_ret2
      exact ⟨_, rfl, HO.out.below HB4.out, HB4.out⟩
    | true =>
      rw [hh, if_neg (by decide)] at hE
      obtain rfl : E = 0 := hE
      have ha : (attrV x.f4 s).2 = true := HAV.out.trans hh
      have HS : Aside0 (SortA x.f4 ∧ x.f4.length ≤ 16) := ⟨HG.out.att id x HL.out⟩
      have HDF := Aside0.mk (drop_filter HS.out.1 hh)
      have HC4b : Aside0 (Kd.C k70 W4 A4 x.f4.length x.f4) := ⟨Kd.C_below HC4.out.2 HB34.out⟩
      obtain ⟨P, hP⟩ : ∃ P : S70 → Bool, P = fun a => !decide (a.f0 = s) := ⟨_, rfl⟩
      rw [← hP] at HDF
      have HP : Aside0 (∀ a : S70, P a = !decide (a.f0 = s)) := ⟨fun a => by rw [hP]⟩
      clear hh hP HAV
      generalize (some x).isSome = bs at hs ⊢
      subst hs
      generalize (attrV x.f4 s).2 = r2 at ha ⊢
      subst ha
      generalize (attrV x.f4 s).1 = r1
      go_upto_region 8 with (fail)
      go_wp2_with fail
      go_loopg [12, 40] (x.f4.length + 1) (fun kq v12 v40 w' => ∃ (vo : Value) (i : Nat), vo = v12 ∧ v40 = .int .i64 i ∧ Aside0 (i + kq = x.f4.length + 1) ∧ Aside0 (i ≤ x.f4.length) ∧ Aside0 (Kd.R k70 70 w' W4.heap.size (fun _ => True) vo ((x.f4.take i).filter P)) ∧ Aside0 (Below W4.heap.size W4 w'))
      case atStart => exact ⟨_, 0, rfl, rfl, ⟨by omega⟩, ⟨Nat.zero_le _⟩, ⟨by rw [List.take_zero]; exact Kd.R_nil _ _ _ _ _⟩, ⟨Below.refl _ _⟩⟩
      case round =>
        clear q42 q43 q44
        obtain ⟨vo, i, rfl, rfl, HK, HI, HR, HB⟩ := hrel
        cases gk with
        | zero => exact absurd HK.out (by have := HI.out; omega)
        | succ g0 =>
          by_cases c0 : i < x.f4.length
          · obtain ⟨ad, rfl, k0, k1⟩ := at_T70 (Kd.C_below HC4b.out HB.out) (i : Int) (by omega) (by omega)
            rw [Int.toNat_natCast] at k0 k1
            have HTK : Aside0 ((x.f4.take (i + 1)).filter P = (x.f4.take i).filter P ++ (if P (rd_T70 x.f4 (i : Nat)) then [rd_T70 x.f4 (i : Nat)] else [])) := ⟨by
              rw [List.take_succ_eq_append_getElem c0, List.filter_append, rd_get _ i c0]
              cases h : P x.f4[i] <;> simp [h]⟩
            obtain ⟨a, ha'⟩ : ∃ a, rd_T70 x.f4 (i : Nat) = a := ⟨_, rfl⟩
            rw [ha'] at k0 k1 HTK
            have HI0 := Aside0.mk c0
            have c1 : decide (i < x.f4.length) = true := decide_eq_true c0
            have c2 : decide ((i : Int) < (x.f4.length : Int)) = true := decide_eq_true (by omega)
            have z0 : (0 ≤ (i : Int)) = True := eq_true (by omega)
            have z1 : ((i : Int) < (x.f4.length : Int)) = True := eq_true (by omega)
            have HLT : Aside0 (((x.f4.take i).filter P).length ≤ 16) := ⟨by have := List.length_filter_le P (x.f4.take i); have := HS.out.2; rw [List.length_take] at *; omega⟩
            have q0 := (blk_cell (blk_new wr (.cells #[.string a.f0, .string a.f1] 70)) 0).trans (show _ = some (.string a.f0) from rfl)
            have q1 := (blk_cell (blk_new wr (.cells #[.string a.f0, .string a.f1] 70)) 1).trans (show _ = some (.string a.f1) from rfl)
            have HBA : Aside0 (Below W4.heap.size W4 (wr.alloc (.cells #[.string a.f0, .string a.f1] 70))) := ⟨below_alloc HB.out _⟩
            have HRA : Aside0 (Kd.R k70 70 (wr.alloc (.cells #[.string a.f0, .string a.f1] 70)) W4.heap.size (fun _ => True) vo ((x.f4.take i).filter P)) := ⟨Kd.R_below HR.out (below_alloc (Below.refl _ _) _)⟩
            clear c0 ha'
            by_cases e : a.f0 = s
            · have d0 : (a.f0.toList == s.toList) = true := (eqS_iff _ _).2 e
              have HPA : Aside0 (P a = false) := ⟨by rw [HP.out]; simp [e]⟩
              clear e
              go_wp2_with fail
              go_roundg g0
              case measure => have := HK.out; omega
              case rel => exact ⟨_, i + 1, rfl, (by have := HI0.out; have := HS.out.2; congr 1; unfold wrap64; omega), ⟨by have := HK.out; omega⟩, ⟨HI0.out⟩, ⟨by have h := HRA.out; rw [HTK.out, HPA.out]; simpa using h⟩, HBA⟩
            · have d0 : (a.f0.toList == s.toList) = false := by
                cases hq : (a.f0.toList == s.toList) with
                | false => rfl
                | true => exact absurd ((eqS_iff _ _).1 hq) e
              have HPA : Aside0 (P a = true) := ⟨by rw [HP.out]; simp [e]⟩
              clear e
              go_upto_region 12 with (fail)
              generalize wr.alloc (.cells #[.string a.f0, .string a.f1] 70) = WA at q0 q1 HBA HRA ⊢
              generalize wr.heap.size = gA at q0 q1 ⊢
              generalize (x.f4.take i).filter P = out at HRA HTK HLT
              clear k0 k1
              go_wp2_with (first
                | ((with_reducible refine gate_builtin (b := .append) rfl ?_); at_builtin; refine Kd.R_append k70 (w0 := W4) W4.heap.size rfl (.tmp 48) (.tmp 50) 38 70 (.agg #[(.string ⟨#[]⟩), (.string ⟨#[]⟩)]) 32 rfl Try.underlying38 info70_ rfl (by decide) (by decide) vo out a [.string a.f0, .string a.f1] (fun _ => True) (fun _ => False) rfl rfl (k70_mkM _ _ _ _) (fun _ h => h.elim) (fun _ _ => trivial) HRA.out HBA.out HBA.out.size (by have := HLT.out; omega) ?_; intro v51 w51 hR hb51 _ _; have HR51 := Aside0.mk hR; have HB51 := Aside0.mk hb51; clear hR hb51)
                | fail)
              go_roundg g0
              case measure => have := HK.out; omega
              case rel => exact ⟨_, i + 1, rfl, (by have := HI0.out; have := HS.out.2; congr 1; unfold wrap64; omega), ⟨by have := HK.out; omega⟩, ⟨HI0.out⟩, ⟨by have h := HR51.out; rw [HTK.out, HPA.out]; exact h⟩, HB51⟩
          · have c1 : decide (i < x.f4.length) = false := decide_eq_false c0
            have c2 : decide ((i : Int) < (x.f4.length : Int)) = false := decide_eq_false (by omega)
            have HTK : x.f4.take i = x.f4 := List.take_of_length_le (by omega)
            rw [HTK, ← HDF.out] at HR
            have HB5 := Aside0.mk (below_then HB4.out HB4.out.size HB.out)
            clear c0 HTK
            obtain ⟨kk, hk, hkx, hki⟩ := idx_at HG.out.numf (n := next.toNat) HL.out (by have := HG.out.dom id x HL.out; omega) (by have := HG.out.dom id x HL.out; omega)
            have HK := Aside0.mk (And.intro hk hki)
            have HKX : Aside0 ((lst f next.toNat).getD kk z40 = x) := ⟨by rw [List.getD_eq_getElem?_getD, List.getElem?_eq_getElem hk, hkx]; rfl⟩
            have HLST : Aside0 (lst (drpF f id s) next.toNat = (lst f next.toNat).set kk (dropA (posA x.f4 s) x)) := ⟨by
              have hd := HG.out.dom id x HL.out
              have := HG.out.hi
              have e : drpF f id s = putF f id (some (dropA (posA x.f4 s) x)) := by unfold drpF; rw [HL.out]; rfl
              rw [e, lst_put HG.out.numf (by omega) HL.out (by omega) (by omega) hki]⟩
            obtain ⟨B, d, rfl⟩ := Kd.R_slice HR.out
            have HF : Aside0 (∃ okq : Nat → Prop, (∀ k, okq k → k < wr.heap.size ∧ ok k) ∧ Kd.F k70 wr okq B (x.f4.take (posA x.f4 s) ++ x.f4.drop (posA x.f4 s + 1)).length (x.f4.take (posA x.f4 s) ++ x.f4.drop (posA x.f4 s + 1)) ∧ (x.f4.take (posA x.f4 s) ++ x.f4.drop (posA x.f4 s + 1)).length ≤ d) := ⟨⟨_, fun k hk => ⟨hk.2, HPK.out k (by have h1 := hk.1.2.1; have h2 := HB4.out.size; omega)⟩, Kd.F_bound (Kd.R_F (Kd.R_bound HR.out)), (Kd.R_reads' HR.out).2.1⟩⟩
            obtain ⟨Q, hQ⟩ : ∃ Q, Q = x.f4.take (posA x.f4 s) ++ x.f4.drop (posA x.f4 s + 1) := ⟨_, rfl⟩
            rw [← hQ] at HF ⊢
            have HQ := Aside0.mk hQ
            clear hQ hk hkx hki
            go_upto_region 15 with (first | (go_at_call 95; refine (rcopy_calls ok _ f next _ (fun k hk => HPK.out k (Nat.le_trans HB5.out.size hk)) (HD.out.below HB5.out) HG.out).mono ?_; rintro e W6 ⟨gx, rfl, hrd⟩; have HRD := Aside0.mk hrd; clear hrd) | fail)
            obtain ⟨l, hl⟩ : ∃ l, l = lst f next.toNat := ⟨_, rfl⟩
            rw [← hl] at HK HKX HLST HRD
            clear hl
            obtain ⟨gL, cc, B3, e3, B4, e4, hgx, hne, hle, hlt, hcap, k2, k3, k4, kfr, _, _, p3, p4, p2⟩ := HRD.out.elem (fun k hk => HPK.out k (Nat.le_trans HB5.out.size hk)) kk HK.out.1
            rw [HKX.out] at k2 k3 k4 p3 p4 p2
            have HB56 : Aside0 (Below wr.heap.size wr W6) := ⟨HRD.out.choose_spec.2.2.2⟩
            have HP4 := Aside0.mk p4
            have HLT : Aside0 (gL < W6.heap.size) := ⟨hlt⟩
            have HGE : Aside0 (wr.heap.size ≤ gL ∧ wr.heap.size ≤ gx) := ⟨hle, HRD.out.choose_spec.2.1⟩
            have r0 := (blk_cell hgx 0).trans (show _ = some (.slice (some ⟨gL, 0, none⟩) l.length cc) from rfl)
            have hne1 : gL ≠ gx := hne
            have kf4 := kfr 4
            have z0 : (0 ≤ (kk : Int)) = True := eq_true (by omega)
            have z1 : ((kk : Int) < (l.length : Int)) = True := eq_true (by have := HK.out.1; omega)
            clear hgx kfr p2 p3 p4 hne hle hlt hcap k2 k3
            have HAT : Aside0 (∀ W : World, Below W6.heap.size W6 W → Calls Try.prog 73 #[.pointer (some ⟨gx, 0, none⟩), .int .i64 id] W fun e w' => e = .returned (.int .i64 (kk : Int)) ∧ Below W.heap.size W w') := ⟨fun W hW => by
              have h := at_calls _ l next id W ((HRD.out.step hW).doc)
              rw [HK.out.2] at h
              exact h⟩
            go_region_held3 (fun w' => w'.cell? ⟨gx, 0, none⟩ = some (.slice (some ⟨gL, 0, none⟩) l.length cc)) (first | go_keep | exact pw_cell_below HB7.out r0) (first
              | (go_at_call 73; (with_reducible refine (HAT.out _ (by repeat (first | exact Below.refl _ _ | apply below_alloc | apply below_drew1 | apply pw_below_drewN))).mono ?_); rintro e W7 ⟨rfl, hb7⟩; have HB7 := Aside0.mk (show Below W6.heap.size W6 W7 from ⟨hb7.os, hb7.tape, hb7.output, hb7.size, hb7.block⟩); have k47 := pw_cell_below HB7.out k4; have kf47 := (HB7.out.frozen HLT.out).trans kf4; clear hb7)
              | fail)
            have HD8 : Aside0 (RDN ok wr (W7.setCell ⟨gL, kk * 5 + 4, none⟩ (.slice B Q.length d)) gx (l.set kk { x with f4 := Q }) next) := ⟨by
              refine HP4.out W7 B d Q HB7.out ?_
              obtain ⟨okq, hok, hF, hd⟩ := HF.out
              exact ⟨okq, fun k hk => ⟨by have := (hok k hk).1; have := HGE.out.2; omega, by have := (hok k hk).1; have := HGE.out.1; omega, (hok k hk).2⟩, Kd.F_below hF (below_then HB56.out HB56.out.size HB7.out), hd⟩⟩
            generalize W7.setCell ⟨gL, kk * 5 + 4, none⟩ (.slice B Q.length d) = W8 at HD8 ⊢
            have hd := HD8.out.docO (fun k hk => HPK.out k (Nat.le_trans HB5.out.size hk))
            rw [HQ.out] at hd
            have HDD : Aside0 (RDO ok W8 (.pointer (some ⟨gx, 0, none⟩)) (drpF f id s) next) := ⟨by show RDocO _ _ _ (lst _ _) _; rw [HLST.out]; exact hd⟩
            have HBF : Aside0 (Below w.heap.size w W8) := ⟨below_then HB5.out HB5.out.size HD8.out.choose_spec.2.2.2⟩
            clear hd
            go_wp2_with fail
            go_ret2
            exact ⟨_, rfl, HDD.out, HBF.out⟩
end Go.Proofs.Ytpnlbmeeihbjaaa.P
end
section
set_option linter.unusedVariables false
set_option linter.unusedSimpArgs false
namespace Go.Proofs.Ytpnlbmeeihbjaaa.P
open Go.RowKit Go.Proofs.YtpnlbmeeihbjaaaW.PrintWords Go.Proofs.YtpnlbmeeihbjaaaW.PrintLast Go.Proofs.YtpnlbmeeihbjaaaW.PrintMore
attribute [local go_sem] max2_int min2_int max_two min_two max_three min_three max_four min_four
set_option linter.unusedVariables false
set_option linter.unusedSimpArgs false
def outS (L : List S70) (s t : ByteArray) (i : Nat) : List S70 := if posA L s < i then L.take (posA L s) ++ [⟨s, t⟩] ++ ((L.take i).drop (posA L s)).filter (fun a => !decide (a.f0 = s)) else L.take i
theorem outS_low {L : List S70} (h : SortA L) (s t : ByteArray) {i : Nat} (hi : i < posA L s) (hl : i < L.length) : outS L s t (i + 1) = outS L s t i ++ [L[i]] ∧ lessS L[i].f0 s = true := by
  unfold outS
  rw [if_neg (by omega), if_neg (by omega), List.take_succ_eq_append_getElem hl]
  refine ⟨rfl, (pos_split h s).1 _ ?_⟩
  rw [List.mem_take_iff_getElem]
  exact ⟨i, by omega, rfl⟩
theorem outS_high {L : List S70} (h : SortA L) (s t : ByteArray) {i : Nat} (hi : posA L s ≤ i) (hl : i < L.length) : outS L s t (i + 1) = (if posA L s < i then outS L s t i else outS L s t i ++ [⟨s, t⟩]) ++ (if L[i].f0 = s then [] else [L[i]]) ∧ lessS L[i].f0 s = false := by
  have hless : lessS L[i].f0 s = false := (pos_split h s).2 _ (by
    rw [List.mem_drop_iff_getElem]
    exact ⟨i - posA L s, by omega, by congr 1; omega⟩)
  refine ⟨?_, hless⟩
  unfold outS
  rw [if_pos (by omega)]
  have e1 : (L.take (i + 1)).drop (posA L s) = (L.take i).drop (posA L s) ++ [L[i]] := by
    rw [List.take_succ_eq_append_getElem hl, List.drop_append_of_le_length (by rw [List.length_take]; omega)]
  rw [e1, List.filter_append]
  have e2 : [L[i]].filter (fun a => !decide (a.f0 = s)) = if L[i].f0 = s then [] else [L[i]] := by
    by_cases e : L[i].f0 = s <;> simp [e]
  rw [e2]
  by_cases c : posA L s < i
  · rw [if_pos c, if_pos c, ← List.append_assoc]
  · have e : posA L s = i := by omega
    rw [if_neg c, if_neg c, e, List.drop_of_length_le (by rw [List.length_take]; omega)]
    simp
theorem outS_end {L : List S70} (h : SortA L) (s t : ByteArray) (x : S40) (hx : x.f4 = L) : (setA (posA L s) (hasA L s) s t x).f4 = if posA L s < L.length then outS L s t L.length else outS L s t L.length ++ [⟨s, t⟩] := by
  subst hx
  unfold outS
  rw [List.take_length]
  have hp := posA_le x.f4 s
  by_cases c : posA x.f4 s < x.f4.length
  · rw [if_pos c, if_pos c]
    have hd : x.f4.drop (posA x.f4 s) = x.f4[posA x.f4 s] :: x.f4.drop (posA x.f4 s + 1) := List.drop_eq_getElem_cons c
    have hrest : (x.f4.drop (posA x.f4 s + 1)).filter (fun a => !decide (a.f0 = s)) = x.f4.drop (posA x.f4 s + 1) := List.filter_eq_self.2 (fun a ha => by
      obtain ⟨j, hj, e⟩ := List.getElem_of_mem ha
      rw [List.length_drop] at hj
      rw [List.getElem_drop] at e
      have h1 := h.lt (show posA x.f4 s < posA x.f4 s + 1 + j by omega) (show posA x.f4 s + 1 + j < x.f4.length by omega)
      have h2 : lessS x.f4[posA x.f4 s].f0 s = false := (outS_high h s t (Nat.le_refl _) c).2
      rw [e] at h1
      have hne : a.f0 ≠ s := fun e2 => by rw [e2] at h1; rw [h1] at h2; cases h2
      simp [hne])
    cases hh : hasA x.f4 s with
    | true =>
      obtain ⟨_, he⟩ := hasA_at hh
      show (x.f4.set (posA x.f4 s) ⟨(x.f4.getD (posA x.f4 s) z70).f0, t⟩) = _
      have e0 : (x.f4.getD (posA x.f4 s) z70).f0 = s := by rw [List.getD_eq_getElem?_getD, List.getElem?_eq_getElem c]; exact he
      rw [e0, hd, List.filter_cons, if_neg (by simp [he]), hrest, List.set_eq_take_append_cons_drop, if_pos c]
      simp
    | false =>
      have hne : x.f4[posA x.f4 s].f0 ≠ s := fun e => by
        rw [(hasA_mem h).2 ⟨_, List.getElem_mem c, e⟩] at hh; cases hh
      show ((x.f4.take (posA x.f4 s) ++ [(⟨s, ⟨#[]⟩⟩ : S70)] ++ x.f4.drop (posA x.f4 s)).set (posA x.f4 s) ⟨((x.f4.take (posA x.f4 s) ++ [(⟨s, ⟨#[]⟩⟩ : S70)] ++ x.f4.drop (posA x.f4 s)).getD (posA x.f4 s) z70).f0, t⟩) = _
      have hl : (x.f4.take (posA x.f4 s)).length = posA x.f4 s := by rw [List.length_take]; omega
      rw [hd, List.filter_cons, if_pos (by simp [hne]), hrest, ← hd]
      generalize x.f4.take (posA x.f4 s) = T at hl ⊢
      generalize x.f4.drop (posA x.f4 s) = D
      rw [← hl]
      simp [List.getD_eq_getElem?_getD]
  · have e : posA x.f4 s = x.f4.length := by omega
    rw [if_neg c, if_neg (by omega)]
    have hh : hasA x.f4 s = false := by
      cases hh : hasA x.f4 s with
      | false => rfl
      | true => have := hasA_lt hh; omega
    rw [hh, e]
    show ((x.f4.take x.f4.length ++ [(⟨s, ⟨#[]⟩⟩ : S70)] ++ x.f4.drop x.f4.length).set x.f4.length ⟨((x.f4.take x.f4.length ++ [(⟨s, ⟨#[]⟩⟩ : S70)] ++ x.f4.drop x.f4.length).getD x.f4.length z70).f0, t⟩) = _
    rw [List.take_length, List.drop_length, List.append_nil]
    generalize x.f4 = T
    simp [List.getD_eq_getElem?_getD]
theorem outS_len (L : List S70) (s t : ByteArray) (i : Nat) : (outS L s t i).length ≤ L.length + 1 + i := by
  unfold outS
  split
  · have := List.length_filter_le (fun a : S70 => !decide (a.f0 = s)) ((L.take i).drop (posA L s))
    simp only [List.length_append, List.length_take, List.length_drop, List.length_cons, List.length_nil] at *
    omega
  · rw [List.length_take]; omega
set_option maxHeartbeats 32000000 in
set_option maxRecDepth 100000 in
theorem rset_calls (ok : Nat → Prop) (v : Value) (f : Nat → Option S40) (next id : Int) (s t : ByteArray) (w : World) (hfresh : ∀ k, w.heap.size ≤ k → ok k) (h : RDO ok w v f next) (hg : Good f next) (hts : s.size ≤ 140737488355328) :
    Calls Try.prog 71 #[v, .int .i64 id, .string s, .string t] w fun e w' => ∃ u, e = .returned (.tuple #[u, .int .i64 (setE f id s t (nameB s))]) ∧ RDO ok w' u (if setE f id s t (nameB s) = 0 then setF f id s t else f) next ∧ Below w.heap.size w w' := by
  have hu70 := Try.underlying70
  have hu38 := Try.underlying38
  obtain ⟨kn, hkn⟩ := rname_eq s hts
  have HNM := Aside0.mk hkn
  obtain ⟨E, hE⟩ : ∃ E, E = setE f id s t (nameB s) := ⟨_, rfl⟩
  rw [← hE]
  clear hkn
  unfold setE at hE
  have HPK := Aside0.mk hfresh
  have HO := Aside0.mk h
  replace h := h.rd
  clear hfresh
  have HD := Aside0.mk h
  have HG := Aside0.mk hg
  have HNODE : Aside0 (Calls Try.prog 38 #[v, .int .i64 id] w (CopyPost w (look f id))) := ⟨rnode_calls v f next id w h hg⟩
  have hu40 := Try.underlying40
  have hu104 := Try.underlying104
  have hu102 := Try.underlying102
  obtain ⟨x, hx⟩ : ∃ x, x = (look f id).getD z40 := ⟨_, rfl⟩
  have HX := Aside0.mk hx
  obtain ⟨b, A, c, rfl, hb, _, _⟩ := h
  have HB := Aside0.mk hb
  clear hx hb hg
  go_enter Try.func71, Try.ntmps71
  go_upto_region 2 with (first | (go_at_call 38; refine HNODE.out.mono ?_; rintro e W2 ⟨cs, rfl, hM, hb2⟩; rw [← HX.out] at hM; obtain ⟨A3, c3, A4, c4, hcs, l3, g3, l4, g4⟩ := k40_open (k40.K_of_M hM); obtain ⟨cl⟩ := cs; simp only at hcs; subst hcs; have HC3a := Aside0.mk (And.intro l3 (And.intro g3 (And.intro l4 g4))); have HB2 := Aside0.mk hb2; clear hM hb2 l3 g3 l4 g4) | fail)
  have HB3 : Aside0 (Below w.heap.size w (W2.alloc (.cells #[.int .i64 x.f0, .string x.f1, .int .i64 x.f2, .slice A3 x.f3.length c3, .slice A4 x.f4.length c4] 40))) := ⟨below_alloc HB2.out _⟩
  have HC3 : Aside0 (x.f3.length ≤ c3 ∧ Kd.C (Kd.int .i64) (W2.alloc (.cells #[.int .i64 x.f0, .string x.f1, .int .i64 x.f2, .slice A3 x.f3.length c3, .slice A4 x.f4.length c4] 40)) A3 x.f3.length x.f3) := ⟨⟨HC3a.out.1, Kd.C_below HC3a.out.2.1 (below_alloc (Below.refl _ _) _)⟩⟩
  have q3 : (W2.alloc (.cells #[.int .i64 x.f0, .string x.f1, .int .i64 x.f2, .slice A3 x.f3.length c3, .slice A4 x.f4.length c4] 40)).cell? ⟨W2.heap.size, 3, none⟩ = some (.slice A3 x.f3.length c3) := (blk_cell (blk_new W2 _) 3).trans rfl
  have HC4 : Aside0 (x.f4.length ≤ c4 ∧ Kd.C k70 (W2.alloc (.cells #[.int .i64 x.f0, .string x.f1, .int .i64 x.f2, .slice A3 x.f3.length c3, .slice A4 x.f4.length c4] 40)) A4 x.f4.length x.f4) := ⟨⟨HC3a.out.2.2.1, Kd.C_below HC3a.out.2.2.2 (below_alloc (Below.refl _ _) _)⟩⟩
  have q2 : (W2.alloc (.cells #[.int .i64 x.f0, .string x.f1, .int .i64 x.f2, .slice A3 x.f3.length c3, .slice A4 x.f4.length c4] 40)).cell? ⟨W2.heap.size, 2, none⟩ = some (.int .i64 x.f2) := (blk_cell (blk_new W2 _) 2).trans rfl
  have q4 : (W2.alloc (.cells #[.int .i64 x.f0, .string x.f1, .int .i64 x.f2, .slice A3 x.f3.length c3, .slice A4 x.f4.length c4] 40)).cell? ⟨W2.heap.size, 4, none⟩ = some (.slice A4 x.f4.length c4) := (blk_cell (blk_new W2 _) 4).trans rfl
  clear HC3a
  generalize W2.alloc (.cells #[.int .i64 x.f0, .string x.f1, .int .i64 x.f2, .slice A3 x.f3.length c3, .slice A4 x.f4.length c4] 40) = W3 at HB3 HC3 HC4 q2 q3 q4 ⊢
  generalize W2.heap.size = g11 at q2 q3 q4 ⊢
  go_upto_region 3 with (first | (go_at_call 99; refine (rattr_calls _ f next id s _ (HD.out.below HB3.out) HG.out).mono ?_; rintro e W4 ⟨rfl, hb4⟩; rw [← HX.out]; have HB34 := Aside0.mk hb4; have HB4 := Aside0.mk (below_then HB3.out HB3.out.size hb4); have q42 := pw_cell_below hb4 q2; have q43 := pw_cell_below hb4 q3; have q44 := pw_cell_below hb4 q4; clear hb4) | fail)
  clear q2 q3 q4
  have HAV : Aside0 ((attrV x.f4 s).2 = hasA x.f4 s) := ⟨attrV_has _ _⟩
  obtain ⟨r2, hr2⟩ : ∃ r, r = (attrV x.f4 s).2 := ⟨_, rfl⟩
  obtain ⟨r1, hr1⟩ : ∃ r, r = (attrV x.f4 s).1 := ⟨_, rfl⟩
  rw [← hr1, ← hr2]
  rw [← hr2] at HAV
  clear hr1 hr2
  cases hl : look f id with
  | none =>
    rw [hl] at hE
    obtain rfl : E = 1 := hE
    have hs : (none : Option S40).isSome = false := rfl
    clear hl
    go_wp2_with fail
    go_ret2
    exact ⟨_, rfl, HO.out.below HB4.out, HB4.out⟩
  | some x' =>
    have hs : (some x').isSome = true := rfl
    rw [hl] at hE
    have hxx := HX.out
    rw [hl] at hxx
    obtain rfl : x = x' := hxx
    have HL := Aside0.mk hl
    clear hl
    generalize (some x).isSome = bs at hs ⊢
    subst hs
    simp only at hE
    cases hnm : nameB s with
    | false =>
      rw [hnm, if_pos rfl] at hE
      obtain rfl : E = 7 := hE
      have hq := HNM.out
      rw [hnm] at hq
      have HNQ := Aside0.mk hq
      clear hq hnm
      go_wp2_with (first | (go_at_call 94; refine (gouacheref01_Name.calls kn s _ _ HNQ.out).mono ?_; rintro e W5 ⟨rfl, hdr⟩; have hb5 : Below W4.heap.size W4 W5 := (by obtain ⟨m, rfl⟩ := hdr; repeat (first | exact Below.refl _ _ | apply below_drew1 | apply pw_below_drewN)); have HB45 := Aside0.mk hb5; have HB5 := Aside0.mk (below_then HB4.out HB4.out.size hb5); have q52 := pw_cell_below hb5 q42; have q53 := pw_cell_below hb5 q43; have q54 := pw_cell_below hb5 q44; clear hb5 hdr) | fail)
      go_ret2
      exact ⟨_, rfl, HO.out.below HB5.out, HB5.out⟩
    | true =>
      rw [hnm, if_neg (by decide)] at hE
      have hq := HNM.out
      rw [hnm] at hq
      have HNQ := Aside0.mk hq
      clear hq hnm
      by_cases c1 : 1000 < t.size
      · rw [if_pos c1] at hE
        obtain rfl : E = 11 := hE
        have d1 : decide (1000 < t.size) = true := decide_eq_true c1
        have d1' : decide ((1000 : Int) < (t.size : Int)) = true := decide_eq_true (by omega)
        clear c1
        go_wp2_with (first | (go_at_call 94; refine (gouacheref01_Name.calls kn s _ _ HNQ.out).mono ?_; rintro e W5 ⟨rfl, hdr⟩; have hb5 : Below W4.heap.size W4 W5 := (by obtain ⟨m, rfl⟩ := hdr; repeat (first | exact Below.refl _ _ | apply below_drew1 | apply pw_below_drewN)); have HB45 := Aside0.mk hb5; have HB5 := Aside0.mk (below_then HB4.out HB4.out.size hb5); have q52 := pw_cell_below hb5 q42; have q53 := pw_cell_below hb5 q43; have q54 := pw_cell_below hb5 q44; clear hb5 hdr) | fail)
        go_ret2
        exact ⟨_, rfl, HO.out.below HB5.out, HB5.out⟩
      · rw [if_neg c1] at hE
        have d1 : decide (1000 < t.size) = false := decide_eq_false c1
        have d1' : decide ((1000 : Int) < (t.size : Int)) = false := decide_eq_false (by omega)
        clear c1
        by_cases c2 : hasA x.f4 s = false ∧ 16 ≤ x.f4.length
        · rw [if_pos c2] at hE
          obtain rfl : E = 5 := hE
          have hr : r2 = false := HAV.out.trans c2.1
          subst hr
          have d2 : decide (16 ≤ x.f4.length) = true := decide_eq_true c2.2
          have d2' : decide ((16 : Int) ≤ (x.f4.length : Int)) = true := decide_eq_true (by omega)
          clear c2
          go_wp2_with (first | (go_at_call 94; refine (gouacheref01_Name.calls kn s _ _ HNQ.out).mono ?_; rintro e W5 ⟨rfl, hdr⟩; have hb5 : Below W4.heap.size W4 W5 := (by obtain ⟨m, rfl⟩ := hdr; repeat (first | exact Below.refl _ _ | apply below_drew1 | apply pw_below_drewN)); have HB45 := Aside0.mk hb5; have HB5 := Aside0.mk (below_then HB4.out HB4.out.size hb5); have q52 := pw_cell_below hb5 q42; have q53 := pw_cell_below hb5 q43; have q54 := pw_cell_below hb5 q44; clear hb5 hdr) | fail)
          go_ret2
          exact ⟨_, rfl, HO.out.below HB5.out, HB5.out⟩
        · rw [if_neg c2] at hE
          obtain rfl : E = 0 := hE
          have HS : Aside0 (SortA x.f4 ∧ x.f4.length ≤ 16) := ⟨HG.out.att id x HL.out⟩
          have HC2 : Aside0 (¬ (r2 = false ∧ 16 ≤ x.f4.length)) := ⟨by rw [HAV.out]; exact c2⟩
          clear c2
          have d2 : r2 = true ∨ (r2 = false ∧ decide (16 ≤ x.f4.length) = false ∧ decide ((16 : Int) ≤ (x.f4.length : Int)) = false) := by
            cases h : r2 with
            | true => exact Or.inl rfl
            | false =>
              have := HC2.out
              rw [h] at this
              exact Or.inr ⟨rfl, decide_eq_false (fun c => this ⟨rfl, c⟩), decide_eq_false (fun c => this ⟨rfl, by omega⟩)⟩
          clear HC2
          rcases d2 with hr | ⟨hr, d3, d4⟩
          all_goals
            subst hr
            go_upto_region 11 with (first | (go_at_call 94; refine (gouacheref01_Name.calls kn s _ _ HNQ.out).mono ?_; rintro e W5 ⟨rfl, hdr⟩; have hb5 : Below W4.heap.size W4 W5 := (by obtain ⟨m, rfl⟩ := hdr; repeat (first | exact Below.refl _ _ | apply below_drew1 | apply pw_below_drewN)); have HB45 := Aside0.mk hb5; have HB5 := Aside0.mk (below_then HB4.out HB4.out.size hb5); have q52 := pw_cell_below hb5 q42; have q53 := pw_cell_below hb5 q43; have q54 := pw_cell_below hb5 q44; clear hb5 hdr) | fail)
            have HC4b : Aside0 (Kd.C k70 W5 A4 x.f4.length x.f4) := ⟨Kd.C_below HC4.out.2 (below_then HB34.out HB34.out.size HB45.out)⟩
            clear q42 q43 q44 q52 q53 d1 d1'
            go_upto_region 13 with (fail)
            go_wp2_with fail
            go_loopg [14, 15, 59] (x.f4.length + 1) (fun kq v14 v15 v59 w' => ∃ (vo : Value) (dn : Bool) (i : Nat), vo = v14 ∧ v15 = .bool dn ∧ v59 = .int .i64 i ∧ Aside0 (i + kq = x.f4.length + 1) ∧ Aside0 (i ≤ x.f4.length) ∧ Aside0 (dn = decide (posA x.f4 s < i)) ∧ Aside0 (Kd.R k70 70 w' W5.heap.size (fun _ => True) vo (outS x.f4 s t i)) ∧ Aside0 (Below W5.heap.size W5 w'))
            case atStart => exact ⟨_, false, 0, rfl, rfl, rfl, ⟨by omega⟩, ⟨Nat.zero_le _⟩, ⟨by simp⟩, ⟨by unfold outS; rw [if_neg (by omega), List.take_zero]; exact Kd.R_nil _ _ _ _ _⟩, ⟨Below.refl _ _⟩⟩
            case round =>
              clear q54
              obtain ⟨vo, dn, i, rfl, rfl, rfl, HK, HI, HDN, HR, HB⟩ := hrel
              cases gk with
              | zero => exact absurd HK.out (by have := HI.out; omega)
              | succ g0 =>
                by_cases c0 : i < x.f4.length
                · obtain ⟨ad, rfl, k0, k1⟩ := at_T70 (Kd.C_below HC4b.out HB.out) (i : Int) (by omega) (by omega)
                  rw [Int.toNat_natCast] at k0 k1
                  have HLOW : Aside0 (i < posA x.f4 s → outS x.f4 s t (i + 1) = outS x.f4 s t i ++ [rd_T70 x.f4 (i : Nat)] ∧ lessS (rd_T70 x.f4 (i : Nat)).f0 s = true) := ⟨fun hi => by rw [rd_get _ i c0]; exact outS_low HS.out.1 s t hi c0⟩
                  have HHIGH : Aside0 (posA x.f4 s ≤ i → outS x.f4 s t (i + 1) = (if posA x.f4 s < i then outS x.f4 s t i else outS x.f4 s t i ++ [⟨s, t⟩]) ++ (if (rd_T70 x.f4 (i : Nat)).f0 = s then [] else [rd_T70 x.f4 (i : Nat)]) ∧ lessS (rd_T70 x.f4 (i : Nat)).f0 s = false) := ⟨fun hi => by rw [rd_get _ i c0]; exact outS_high HS.out.1 s t hi c0⟩
                  obtain ⟨a, ha'⟩ : ∃ a, rd_T70 x.f4 (i : Nat) = a := ⟨_, rfl⟩
                  rw [ha'] at k0 k1 HLOW HHIGH
                  have HI0 := Aside0.mk c0
                  have c1 : decide (i < x.f4.length) = true := decide_eq_true c0
                  have c2 : decide ((i : Int) < (x.f4.length : Int)) = true := decide_eq_true (by omega)
                  have z0 : (0 ≤ (i : Int)) = True := eq_true (by omega)
                  have z1 : ((i : Int) < (x.f4.length : Int)) = True := eq_true (by omega)
                  have HLO : Aside0 ((outS x.f4 s t i).length ≤ 40) := ⟨by have := outS_len x.f4 s t i; have := HS.out.2; have := HI.out; omega⟩
                  have HNE : Aside0 (some wr.heap.size ≠ vo.ownBlock) := ⟨fun e => by have := ((Kd.R_bound HR.out).1 _ e.symm).2.2.1; omega⟩
                  clear c0 ha'
                  by_cases cl : i < posA x.f4 s
                  · obtain ⟨hout, hless⟩ := HLOW.out cl
                    obtain rfl : dn = false := by rw [HDN.out]; exact decide_eq_false (by omega)
                    have HDN2 : Aside0 (false = decide (posA x.f4 s < i + 1)) := ⟨by rw [decide_eq_false (by omega)]⟩
                    have HOUT := Aside0.mk hout
                    have d5 : Op.bytesLess a.f0.toList s.toList = true := hless
                    have d0 : (a.f0.toList == s.toList) = false := by
                      cases hq : (a.f0.toList == s.toList) with
                      | false => rfl
                      | true => rw [(eqS_iff _ _).1 hq, lessS_irrefl] at hless; cases hless
                    clear cl hout hless
                    have HBA : Aside0 (Below W5.heap.size W5 (wr.alloc (.cells #[.string a.f0, .string a.f1] 70))) := ⟨below_alloc HB.out _⟩
                    have HRA : Aside0 (Kd.R k70 70 (wr.alloc (.cells #[.string a.f0, .string a.f1] 70)) W5.heap.size (fun _ => True) vo (outS x.f4 s t i)) := ⟨Kd.R_below HR.out (below_alloc (Below.refl _ _) _)⟩
                    have HGA : Aside0 ((wr.alloc (.cells #[.string a.f0, .string a.f1] 70)).heap[wr.heap.size]? = some (.cells #[.string a.f0, .string a.f1] 70 (0, 0))) := ⟨blk_new _ _⟩
                    have q0 := (blk_cell HGA.out 0).trans (show _ = some (.string a.f0) from rfl)
                    have q1 := (blk_cell HGA.out 1).trans (show _ = some (.string a.f1) from rfl)
                    go_upto_region 16 with (fail)
                    generalize wr.alloc (.cells #[.string a.f0, .string a.f1] 70) = WA at q0 q1 HBA HRA HGA ⊢
                    generalize wr.heap.size = gA at q0 q1 HGA HNE ⊢
                    clear k0 k1
                    generalize outS x.f4 s t i = out at HRA HOUT HLO
                    go_wp2_with (first | ((with_reducible refine gate_builtin (b := .append) rfl ?_); at_builtin; refine Kd.R_append k70 (w0 := W5) W5.heap.size rfl (.tmp 81) (.tmp 83) 38 70 (.agg #[(.string ⟨#[]⟩), (.string ⟨#[]⟩)]) 32 rfl Try.underlying38 info70_ rfl (by decide) (by decide) vo out a [.string a.f0, .string a.f1] (fun _ => True) (fun _ => False) rfl rfl (k70_mkM _ _ _ _) (fun _ h => h.elim) (fun _ _ => trivial) HRA.out HBA.out HBA.out.size (by have := HLO.out; first | omega | (simp only [List.length_append, List.length_cons, List.length_nil]; omega)) ?_; intro v84 w84 hR hb84 _ _; have HR84 := Aside0.mk hR; have HB84 := Aside0.mk hb84; clear hR hb84) | fail)
                    go_roundg g0
                    case measure => have := HK.out; omega
                    case rel => exact ⟨_, _, i + 1, rfl, rfl, (by have := HI0.out; have := HS.out.2; congr 1; unfold wrap64; omega), ⟨by have := HK.out; omega⟩, ⟨HI0.out⟩, HDN2, ⟨by rw [HOUT.out]; exact HR84.out⟩, HB84⟩
                  · obtain ⟨hout, hless⟩ := HHIGH.out (by omega)
                    have d5 : Op.bytesLess a.f0.toList s.toList = false := hless
                    have HDN2 : Aside0 (true = decide (posA x.f4 s < i + 1)) := ⟨by rw [decide_eq_true (by omega)]⟩
                    by_cases cm : posA x.f4 s < i
                    · obtain rfl : dn = true := by rw [HDN.out]; exact decide_eq_true cm
                      rw [if_pos cm] at hout
                      by_cases e : a.f0 = s
                      · have d0 : (a.f0.toList == s.toList) = true := (eqS_iff _ _).2 e
                        rw [if_pos e, List.append_nil] at hout
                        have HOUT := Aside0.mk hout
                        clear cl hout hless cm e
                        have HBA : Aside0 (Below W5.heap.size W5 (wr.alloc (.cells #[.string a.f0, .string a.f1] 70))) := ⟨below_alloc HB.out _⟩
                        have HRA : Aside0 (Kd.R k70 70 (wr.alloc (.cells #[.string a.f0, .string a.f1] 70)) W5.heap.size (fun _ => True) vo (outS x.f4 s t i)) := ⟨Kd.R_below HR.out (below_alloc (Below.refl _ _) _)⟩
                        have HGA : Aside0 ((wr.alloc (.cells #[.string a.f0, .string a.f1] 70)).heap[wr.heap.size]? = some (.cells #[.string a.f0, .string a.f1] 70 (0, 0))) := ⟨blk_new _ _⟩
                        have q0 := (blk_cell HGA.out 0).trans (show _ = some (.string a.f0) from rfl)
                        have q1 := (blk_cell HGA.out 1).trans (show _ = some (.string a.f1) from rfl)
                        go_upto_region 16 with (fail)
                        generalize wr.alloc (.cells #[.string a.f0, .string a.f1] 70) = WA at q0 q1 HBA HRA HGA ⊢
                        generalize wr.heap.size = gA at q0 q1 HGA HNE ⊢
                        clear k0 k1
                        generalize outS x.f4 s t i = out at HRA HOUT HLO
                        go_wp2_with (fail)
                        go_roundg g0
                        case measure => have := HK.out; omega
                        case rel => exact ⟨_, _, i + 1, rfl, rfl, (by have := HI0.out; have := HS.out.2; congr 1; unfold wrap64; omega), ⟨by have := HK.out; omega⟩, ⟨HI0.out⟩, HDN2, ⟨by rw [HOUT.out]; exact HRA.out⟩, HBA⟩
                      · have d0 : (a.f0.toList == s.toList) = false := by
                          cases hq : (a.f0.toList == s.toList) with
                          | false => rfl
                          | true => exact absurd ((eqS_iff _ _).1 hq) e
                        rw [if_neg e] at hout
                        have HOUT := Aside0.mk hout
                        clear cl hout hless cm e
                        have HBA : Aside0 (Below W5.heap.size W5 (wr.alloc (.cells #[.string a.f0, .string a.f1] 70))) := ⟨below_alloc HB.out _⟩
                        have HRA : Aside0 (Kd.R k70 70 (wr.alloc (.cells #[.string a.f0, .string a.f1] 70)) W5.heap.size (fun _ => True) vo (outS x.f4 s t i)) := ⟨Kd.R_below HR.out (below_alloc (Below.refl _ _) _)⟩
                        have HGA : Aside0 ((wr.alloc (.cells #[.string a.f0, .string a.f1] 70)).heap[wr.heap.size]? = some (.cells #[.string a.f0, .string a.f1] 70 (0, 0))) := ⟨blk_new _ _⟩
                        have q0 := (blk_cell HGA.out 0).trans (show _ = some (.string a.f0) from rfl)
                        have q1 := (blk_cell HGA.out 1).trans (show _ = some (.string a.f1) from rfl)
                        go_upto_region 16 with (fail)
                        generalize wr.alloc (.cells #[.string a.f0, .string a.f1] 70) = WA at q0 q1 HBA HRA HGA ⊢
                        generalize wr.heap.size = gA at q0 q1 HGA HNE ⊢
                        clear k0 k1
                        generalize outS x.f4 s t i = out at HRA HOUT HLO
                        go_wp2_with (first | ((with_reducible refine gate_builtin (b := .append) rfl ?_); at_builtin; refine Kd.R_append k70 (w0 := W5) W5.heap.size rfl (.tmp 81) (.tmp 83) 38 70 (.agg #[(.string ⟨#[]⟩), (.string ⟨#[]⟩)]) 32 rfl Try.underlying38 info70_ rfl (by decide) (by decide) vo out a [.string a.f0, .string a.f1] (fun _ => True) (fun _ => False) rfl rfl (k70_mkM _ _ _ _) (fun _ h => h.elim) (fun _ _ => trivial) HRA.out HBA.out HBA.out.size (by have := HLO.out; first | omega | (simp only [List.length_append, List.length_cons, List.length_nil]; omega)) ?_; intro v84 w84 hR hb84 _ _; have HR84 := Aside0.mk hR; have HB84 := Aside0.mk hb84; clear hR hb84) | fail)
                        go_roundg g0
                        case measure => have := HK.out; omega
                        case rel => exact ⟨_, _, i + 1, rfl, rfl, (by have := HI0.out; have := HS.out.2; congr 1; unfold wrap64; omega), ⟨by have := HK.out; omega⟩, ⟨HI0.out⟩, HDN2, ⟨by rw [HOUT.out]; exact HR84.out⟩, HB84⟩
                    · obtain rfl : dn = false := by rw [HDN.out]; exact decide_eq_false cm
                      rw [if_neg cm] at hout
                      by_cases e : a.f0 = s
                      · have d0 : (a.f0.toList == s.toList) = true := (eqS_iff _ _).2 e
                        rw [if_pos e, List.append_nil] at hout
                        have HOUT := Aside0.mk hout
                        clear cl hout hless cm e
                        have HBA : Aside0 (Below W5.heap.size W5 (wr.alloc (.cells #[.string a.f0, .string a.f1] 70))) := ⟨below_alloc HB.out _⟩
                        have HRA : Aside0 (Kd.R k70 70 (wr.alloc (.cells #[.string a.f0, .string a.f1] 70)) W5.heap.size (fun _ => True) vo (outS x.f4 s t i)) := ⟨Kd.R_below HR.out (below_alloc (Below.refl _ _) _)⟩
                        have HGA : Aside0 ((wr.alloc (.cells #[.string a.f0, .string a.f1] 70)).heap[wr.heap.size]? = some (.cells #[.string a.f0, .string a.f1] 70 (0, 0))) := ⟨blk_new _ _⟩
                        have q0 := (blk_cell HGA.out 0).trans (show _ = some (.string a.f0) from rfl)
                        have q1 := (blk_cell HGA.out 1).trans (show _ = some (.string a.f1) from rfl)
                        go_upto_region 16 with (fail)
                        generalize wr.alloc (.cells #[.string a.f0, .string a.f1] 70) = WA at q0 q1 HBA HRA HGA ⊢
                        generalize wr.heap.size = gA at q0 q1 HGA HNE ⊢
                        clear k0 k1
                        generalize outS x.f4 s t i = out at HRA HOUT HLO
                        go_wp2_with (first | ((with_reducible refine gate_builtin (b := .append) rfl ?_); at_builtin; refine Kd.R_append k70 (w0 := W5) W5.heap.size rfl (.tmp 71) (.tmp 75) 38 70 (.agg #[(.string ⟨#[]⟩), (.string ⟨#[]⟩)]) 32 rfl Try.underlying38 info70_ rfl (by decide) (by decide) vo out (⟨s, t⟩ : S70) [.string s, .string t] (fun _ => True) (fun _ => False) rfl rfl (k70_mkM _ _ _ _) (fun _ h => h.elim) (fun _ _ => trivial) HRA.out HBA.out HBA.out.size (by have := HLO.out; first | omega | (simp only [List.length_append, List.length_cons, List.length_nil]; omega)) ?_; intro v76 w76 hR hb76 hg76 _; have HR76 := Aside0.mk hR; have HB76 := Aside0.mk hb76; have HGA76 := (hg76.block gA (blk_lt HGA.out) HNE.out).trans HGA.out; have q07 := (blk_cell HGA76 0).trans (show _ = some (.string a.f0) from rfl); have q17 := (blk_cell HGA76 1).trans (show _ = some (.string a.f1) from rfl); clear hR hb76 hg76 HGA76) | fail)
                        go_roundg g0
                        case measure => have := HK.out; omega
                        case rel => exact ⟨_, _, i + 1, rfl, rfl, (by have := HI0.out; have := HS.out.2; congr 1; unfold wrap64; omega), ⟨by have := HK.out; omega⟩, ⟨HI0.out⟩, HDN2, ⟨by rw [HOUT.out]; exact HR76.out⟩, HB76⟩
                      · have d0 : (a.f0.toList == s.toList) = false := by
                          cases hq : (a.f0.toList == s.toList) with
                          | false => rfl
                          | true => exact absurd ((eqS_iff _ _).1 hq) e
                        rw [if_neg e] at hout
                        have HOUT := Aside0.mk hout
                        clear cl hout hless cm e
                        have HBA : Aside0 (Below W5.heap.size W5 (wr.alloc (.cells #[.string a.f0, .string a.f1] 70))) := ⟨below_alloc HB.out _⟩
                        have HRA : Aside0 (Kd.R k70 70 (wr.alloc (.cells #[.string a.f0, .string a.f1] 70)) W5.heap.size (fun _ => True) vo (outS x.f4 s t i)) := ⟨Kd.R_below HR.out (below_alloc (Below.refl _ _) _)⟩
                        have HGA : Aside0 ((wr.alloc (.cells #[.string a.f0, .string a.f1] 70)).heap[wr.heap.size]? = some (.cells #[.string a.f0, .string a.f1] 70 (0, 0))) := ⟨blk_new _ _⟩
                        have q0 := (blk_cell HGA.out 0).trans (show _ = some (.string a.f0) from rfl)
                        have q1 := (blk_cell HGA.out 1).trans (show _ = some (.string a.f1) from rfl)
                        go_upto_region 16 with (fail)
                        generalize wr.alloc (.cells #[.string a.f0, .string a.f1] 70) = WA at q0 q1 HBA HRA HGA ⊢
                        generalize wr.heap.size = gA at q0 q1 HGA HNE ⊢
                        clear k0 k1
                        generalize outS x.f4 s t i = out at HRA HOUT HLO
                        go_wp2_with (first | ((with_reducible refine gate_builtin (b := .append) rfl ?_); at_builtin; refine Kd.R_append k70 (w0 := W5) W5.heap.size rfl (.tmp 71) (.tmp 75) 38 70 (.agg #[(.string ⟨#[]⟩), (.string ⟨#[]⟩)]) 32 rfl Try.underlying38 info70_ rfl (by decide) (by decide) vo out (⟨s, t⟩ : S70) [.string s, .string t] (fun _ => True) (fun _ => False) rfl rfl (k70_mkM _ _ _ _) (fun _ h => h.elim) (fun _ _ => trivial) HRA.out HBA.out HBA.out.size (by have := HLO.out; first | omega | (simp only [List.length_append, List.length_cons, List.length_nil]; omega)) ?_; intro v76 w76 hR hb76 hg76 _; have HR76 := Aside0.mk hR; have HB76 := Aside0.mk hb76; have HGA76 := (hg76.block gA (blk_lt HGA.out) HNE.out).trans HGA.out; have q07 := (blk_cell HGA76 0).trans (show _ = some (.string a.f0) from rfl); have q17 := (blk_cell HGA76 1).trans (show _ = some (.string a.f1) from rfl); clear hR hb76 hg76 HGA76) | ((with_reducible refine gate_builtin (b := .append) rfl ?_); at_builtin; refine Kd.R_append k70 (w0 := W5) W5.heap.size rfl (.tmp 81) (.tmp 83) 38 70 (.agg #[(.string ⟨#[]⟩), (.string ⟨#[]⟩)]) 32 rfl Try.underlying38 info70_ rfl (by decide) (by decide) v76 (out ++ [⟨s, t⟩]) a [.string a.f0, .string a.f1] (fun _ => True) (fun _ => False) rfl rfl (k70_mkM _ _ _ _) (fun _ h => h.elim) (fun _ _ => trivial) HR76.out HB76.out HB76.out.size (by have := HLO.out; first | omega | (simp only [List.length_append, List.length_cons, List.length_nil]; omega)) ?_; intro v84 w84 hR hb84 _ _; have HR84 := Aside0.mk hR; have HB84 := Aside0.mk hb84; clear hR hb84) | fail)
                        go_roundg g0
                        case measure => have := HK.out; omega
                        case rel => exact ⟨_, _, i + 1, rfl, rfl, (by have := HI0.out; have := HS.out.2; congr 1; unfold wrap64; omega), ⟨by have := HK.out; omega⟩, ⟨HI0.out⟩, HDN2, ⟨by rw [HOUT.out]; exact HR84.out⟩, HB84⟩
                · have c1 : decide (i < x.f4.length) = false := decide_eq_false c0
                  have c2 : decide ((i : Int) < (x.f4.length : Int)) = false := decide_eq_false (by omega)
                  have hi : i = x.f4.length := by have := HI.out; omega
                  rw [hi] at HDN HR
                  have HE := Aside0.mk (outS_end HS.out.1 s t x rfl)
                  have HLO : Aside0 ((outS x.f4 s t x.f4.length).length ≤ 40) := ⟨by have := outS_len x.f4 s t x.f4.length; have := HS.out.2; omega⟩
                  have HB5Z := Aside0.mk (below_then HB5.out HB5.out.size HB.out)
                  clear c0 hi
                  by_cases cp : posA x.f4 s < x.f4.length
                  · obtain rfl : dn = true := by rw [HDN.out]; exact decide_eq_true cp
                    have HRZ : Aside0 (Kd.R k70 70 wr W5.heap.size (fun _ => True) vo (setA (posA x.f4 s) (hasA x.f4 s) s t x).f4) := ⟨by rw [HE.out, if_pos cp]; exact HR.out⟩
                    clear cp
                    go_upto_region 24 with (fail)
                    obtain ⟨kk, hk, hkx, hki⟩ := idx_at HG.out.numf (n := next.toNat) HL.out (by have := HG.out.dom id x HL.out; omega) (by have := HG.out.dom id x HL.out; omega)
                    have HK := Aside0.mk (And.intro hk hki)
                    have HKX : Aside0 ((lst f next.toNat).getD kk z40 = x) := ⟨by rw [List.getD_eq_getElem?_getD, List.getElem?_eq_getElem hk, hkx]; rfl⟩
                    have HLST : Aside0 (lst (setF f id s t) next.toNat = (lst f next.toNat).set kk (setA (posA x.f4 s) (hasA x.f4 s) s t x)) := ⟨by
                      have hd := HG.out.dom id x HL.out
                      have := HG.out.hi
                      have e : setF f id s t = putF f id (some (setA (posA x.f4 s) (hasA x.f4 s) s t x)) := by unfold setF; rw [HL.out]; rfl
                      rw [e, lst_put HG.out.numf (by omega) HL.out (by omega) (by omega) hki]⟩
                    obtain ⟨B, d, rfl⟩ := Kd.R_slice HRZ.out
                    have HF : Aside0 (∃ okq : Nat → Prop, (∀ k, okq k → k < wr.heap.size ∧ ok k) ∧ Kd.F k70 wr okq B ((setA (posA x.f4 s) (hasA x.f4 s) s t x).f4).length ((setA (posA x.f4 s) (hasA x.f4 s) s t x).f4) ∧ ((setA (posA x.f4 s) (hasA x.f4 s) s t x).f4).length ≤ d) := ⟨⟨_, fun k hk => ⟨hk.2, HPK.out k (by have h1 := hk.1.2.1; have h2 := HB5.out.size; omega)⟩, Kd.F_bound (Kd.R_F (Kd.R_bound HRZ.out)), (Kd.R_reads' HRZ.out).2.1⟩⟩
                    obtain ⟨Q, hQ⟩ : ∃ Q, Q = (setA (posA x.f4 s) (hasA x.f4 s) s t x).f4 := ⟨_, rfl⟩
                    rw [← hQ] at HF ⊢
                    have HQ := Aside0.mk hQ
                    clear hQ hk hkx hki
                    go_upto_region 25 with (first | (go_at_call 95; refine (rcopy_calls ok _ f next _ (fun k hk => HPK.out k (Nat.le_trans HB5Z.out.size hk)) (HD.out.below HB5Z.out) HG.out).mono ?_; rintro e W6 ⟨gx, rfl, hrd⟩; have HRD := Aside0.mk hrd; clear hrd) | fail)
                    obtain ⟨l, hl⟩ : ∃ l, l = lst f next.toNat := ⟨_, rfl⟩
                    rw [← hl] at HK HKX HLST HRD
                    clear hl
                    obtain ⟨gL, cc, B3, e3, B4, e4, hgx, hne, hle, hlt, hcap, k2, k3, k4, kfr, _, _, p3, p4, p2⟩ := HRD.out.elem (fun k hk => HPK.out k (Nat.le_trans HB5Z.out.size hk)) kk HK.out.1
                    rw [HKX.out] at k2 k3 k4 p3 p4 p2
                    have HB5Z6 : Aside0 (Below wr.heap.size wr W6) := ⟨HRD.out.choose_spec.2.2.2⟩
                    have HP4 := Aside0.mk p4
                    have HLT : Aside0 (gL < W6.heap.size) := ⟨hlt⟩
                    have HGE : Aside0 (wr.heap.size ≤ gL ∧ wr.heap.size ≤ gx) := ⟨hle, HRD.out.choose_spec.2.1⟩
                    have r0 := (blk_cell hgx 0).trans (show _ = some (.slice (some ⟨gL, 0, none⟩) l.length cc) from rfl)
                    have hne1 : gL ≠ gx := hne
                    have kf4 := kfr 4
                    have z0 : (0 ≤ (kk : Int)) = True := eq_true (by omega)
                    have z1 : ((kk : Int) < (l.length : Int)) = True := eq_true (by have := HK.out.1; omega)
                    clear hgx kfr p2 p3 p4 hne hle hlt hcap k2 k3
                    have HAT : Aside0 (∀ W : World, Below W6.heap.size W6 W → Calls Try.prog 73 #[.pointer (some ⟨gx, 0, none⟩), .int .i64 id] W fun e w' => e = .returned (.int .i64 (kk : Int)) ∧ Below W.heap.size W w') := ⟨fun W hW => by
                      have h := at_calls _ l next id W ((HRD.out.step hW).doc)
                      rw [HK.out.2] at h
                      exact h⟩
                    go_region_held3 (fun w' => w'.cell? ⟨gx, 0, none⟩ = some (.slice (some ⟨gL, 0, none⟩) l.length cc)) (first | go_keep | exact pw_cell_below HB7.out r0) (first
                      | (go_at_call 73; (with_reducible refine (HAT.out _ (by repeat (first | exact Below.refl _ _ | apply below_alloc | apply below_drew1 | apply pw_below_drewN))).mono ?_); rintro e W7 ⟨rfl, hb7⟩; have HB7 := Aside0.mk (show Below W6.heap.size W6 W7 from ⟨hb7.os, hb7.tape, hb7.output, hb7.size, hb7.block⟩); have k47 := pw_cell_below HB7.out k4; have kf47 := (HB7.out.frozen HLT.out).trans kf4; clear hb7)
                      | fail)
                    have HD8 : Aside0 (RDN ok wr (W7.setCell ⟨gL, kk * 5 + 4, none⟩ (.slice B Q.length d)) gx (l.set kk { x with f4 := Q }) next) := ⟨by
                      refine HP4.out W7 B d Q HB7.out ?_
                      obtain ⟨okq, hok, hF, hd⟩ := HF.out
                      exact ⟨okq, fun k hk => ⟨by have := (hok k hk).1; have := HGE.out.2; omega, by have := (hok k hk).1; have := HGE.out.1; omega, (hok k hk).2⟩, Kd.F_below hF (below_then HB5Z6.out HB5Z6.out.size HB7.out), hd⟩⟩
                    generalize W7.setCell ⟨gL, kk * 5 + 4, none⟩ (.slice B Q.length d) = W8 at HD8 ⊢
                    have hd := HD8.out.docO (fun k hk => HPK.out k (Nat.le_trans HB5Z.out.size hk))
                    rw [HQ.out] at hd
                    have HDD : Aside0 (RDO ok W8 (.pointer (some ⟨gx, 0, none⟩)) (setF f id s t) next) := ⟨by show RDocO _ _ _ (lst _ _) _; rw [HLST.out]; exact hd⟩
                    have HBF : Aside0 (Below w.heap.size w W8) := ⟨below_then HB5Z.out HB5Z.out.size HD8.out.choose_spec.2.2.2⟩
                    clear hd
                    go_wp2_with fail
                    go_ret2
                    exact ⟨_, rfl, HDD.out, HBF.out⟩
                  · obtain rfl : dn = false := by rw [HDN.out]; exact decide_eq_false cp
                    have HE2 : Aside0 ((setA (posA x.f4 s) (hasA x.f4 s) s t x).f4 = outS x.f4 s t x.f4.length ++ [⟨s, t⟩]) := ⟨by rw [HE.out, if_neg cp]⟩
                    have HRE := HR
                    clear cp HE
                    generalize outS x.f4 s t x.f4.length = out at HR HRE HE2 HLO
                    go_upto_region 24 with (first | ((with_reducible refine gate_builtin (b := .append) rfl ?_); at_builtin; refine Kd.R_append k70 (w0 := W5) W5.heap.size rfl (.tmp 88) (.tmp 92) 38 70 (.agg #[(.string ⟨#[]⟩), (.string ⟨#[]⟩)]) 32 rfl Try.underlying38 info70_ rfl (by decide) (by decide) vo out (⟨s, t⟩ : S70) [.string s, .string t] (fun _ => True) (fun _ => False) rfl rfl (k70_mkM _ _ _ _) (fun _ h => h.elim) (fun _ _ => trivial) HRE.out HB.out HB.out.size (by have := HLO.out; first | omega | (simp only [List.length_append, List.length_cons, List.length_nil]; omega)) ?_; intro v93 w93 hR hb93 _ _; have HR93 := Aside0.mk hR; have HB93 := Aside0.mk hb93; clear hR hb93) | fail)
                    have HRZ : Aside0 (Kd.R k70 70 w93 W5.heap.size (fun _ => True) v93 (setA (posA x.f4 s) (hasA x.f4 s) s t x).f4) := ⟨by rw [HE2.out]; exact HR93.out⟩
                    have HB5Y := Aside0.mk (below_then HB5.out HB5.out.size HB93.out)
                    obtain ⟨kk, hk, hkx, hki⟩ := idx_at HG.out.numf (n := next.toNat) HL.out (by have := HG.out.dom id x HL.out; omega) (by have := HG.out.dom id x HL.out; omega)
                    have HK := Aside0.mk (And.intro hk hki)
                    have HKX : Aside0 ((lst f next.toNat).getD kk z40 = x) := ⟨by rw [List.getD_eq_getElem?_getD, List.getElem?_eq_getElem hk, hkx]; rfl⟩
                    have HLST : Aside0 (lst (setF f id s t) next.toNat = (lst f next.toNat).set kk (setA (posA x.f4 s) (hasA x.f4 s) s t x)) := ⟨by
                      have hd := HG.out.dom id x HL.out
                      have := HG.out.hi
                      have e : setF f id s t = putF f id (some (setA (posA x.f4 s) (hasA x.f4 s) s t x)) := by unfold setF; rw [HL.out]; rfl
                      rw [e, lst_put HG.out.numf (by omega) HL.out (by omega) (by omega) hki]⟩
                    obtain ⟨B, d, rfl⟩ := Kd.R_slice HRZ.out
                    have HF : Aside0 (∃ okq : Nat → Prop, (∀ k, okq k → k < w93.heap.size ∧ ok k) ∧ Kd.F k70 w93 okq B ((setA (posA x.f4 s) (hasA x.f4 s) s t x).f4).length ((setA (posA x.f4 s) (hasA x.f4 s) s t x).f4) ∧ ((setA (posA x.f4 s) (hasA x.f4 s) s t x).f4).length ≤ d) := ⟨⟨_, fun k hk => ⟨hk.2, HPK.out k (by have h1 := hk.1.2.1; have h2 := HB5.out.size; omega)⟩, Kd.F_bound (Kd.R_F (Kd.R_bound HRZ.out)), (Kd.R_reads' HRZ.out).2.1⟩⟩
                    obtain ⟨Q, hQ⟩ : ∃ Q, Q = (setA (posA x.f4 s) (hasA x.f4 s) s t x).f4 := ⟨_, rfl⟩
                    rw [← hQ] at HF ⊢
                    have HQ := Aside0.mk hQ
                    clear hQ hk hkx hki
                    go_upto_region 25 with (first | (go_at_call 95; refine (rcopy_calls ok _ f next _ (fun k hk => HPK.out k (Nat.le_trans HB5Y.out.size hk)) (HD.out.below HB5Y.out) HG.out).mono ?_; rintro e W6 ⟨gx, rfl, hrd⟩; have HRD := Aside0.mk hrd; clear hrd) | fail)
                    obtain ⟨l, hl⟩ : ∃ l, l = lst f next.toNat := ⟨_, rfl⟩
                    rw [← hl] at HK HKX HLST HRD
                    clear hl
                    obtain ⟨gL, cc, B3, e3, B4, e4, hgx, hne, hle, hlt, hcap, k2, k3, k4, kfr, _, _, p3, p4, p2⟩ := HRD.out.elem (fun k hk => HPK.out k (Nat.le_trans HB5Y.out.size hk)) kk HK.out.1
                    rw [HKX.out] at k2 k3 k4 p3 p4 p2
                    have HB5Y6 : Aside0 (Below w93.heap.size w93 W6) := ⟨HRD.out.choose_spec.2.2.2⟩
                    have HP4 := Aside0.mk p4
                    have HLT : Aside0 (gL < W6.heap.size) := ⟨hlt⟩
                    have HGE : Aside0 (w93.heap.size ≤ gL ∧ w93.heap.size ≤ gx) := ⟨hle, HRD.out.choose_spec.2.1⟩
                    have r0 := (blk_cell hgx 0).trans (show _ = some (.slice (some ⟨gL, 0, none⟩) l.length cc) from rfl)
                    have hne1 : gL ≠ gx := hne
                    have kf4 := kfr 4
                    have z0 : (0 ≤ (kk : Int)) = True := eq_true (by omega)
                    have z1 : ((kk : Int) < (l.length : Int)) = True := eq_true (by have := HK.out.1; omega)
                    clear hgx kfr p2 p3 p4 hne hle hlt hcap k2 k3
                    have HAT : Aside0 (∀ W : World, Below W6.heap.size W6 W → Calls Try.prog 73 #[.pointer (some ⟨gx, 0, none⟩), .int .i64 id] W fun e w' => e = .returned (.int .i64 (kk : Int)) ∧ Below W.heap.size W w') := ⟨fun W hW => by
                      have h := at_calls _ l next id W ((HRD.out.step hW).doc)
                      rw [HK.out.2] at h
                      exact h⟩
                    go_region_held3 (fun w' => w'.cell? ⟨gx, 0, none⟩ = some (.slice (some ⟨gL, 0, none⟩) l.length cc)) (first | go_keep | exact pw_cell_below HB7.out r0) (first
                      | (go_at_call 73; (with_reducible refine (HAT.out _ (by repeat (first | exact Below.refl _ _ | apply below_alloc | apply below_drew1 | apply pw_below_drewN))).mono ?_); rintro e W7 ⟨rfl, hb7⟩; have HB7 := Aside0.mk (show Below W6.heap.size W6 W7 from ⟨hb7.os, hb7.tape, hb7.output, hb7.size, hb7.block⟩); have k47 := pw_cell_below HB7.out k4; have kf47 := (HB7.out.frozen HLT.out).trans kf4; clear hb7)
                      | fail)
                    have HD8 : Aside0 (RDN ok w93 (W7.setCell ⟨gL, kk * 5 + 4, none⟩ (.slice B Q.length d)) gx (l.set kk { x with f4 := Q }) next) := ⟨by
                      refine HP4.out W7 B d Q HB7.out ?_
                      obtain ⟨okq, hok, hF, hd⟩ := HF.out
                      exact ⟨okq, fun k hk => ⟨by have := (hok k hk).1; have := HGE.out.2; omega, by have := (hok k hk).1; have := HGE.out.1; omega, (hok k hk).2⟩, Kd.F_below hF (below_then HB5Y6.out HB5Y6.out.size HB7.out), hd⟩⟩
                    generalize W7.setCell ⟨gL, kk * 5 + 4, none⟩ (.slice B Q.length d) = W8 at HD8 ⊢
                    have hd := HD8.out.docO (fun k hk => HPK.out k (Nat.le_trans HB5Y.out.size hk))
                    rw [HQ.out] at hd
                    have HDD : Aside0 (RDO ok W8 (.pointer (some ⟨gx, 0, none⟩)) (setF f id s t) next) := ⟨by show RDocO _ _ _ (lst _ _) _; rw [HLST.out]; exact hd⟩
                    have HBF : Aside0 (Below w.heap.size w W8) := ⟨below_then HB5Y.out HB5Y.out.size HD8.out.choose_spec.2.2.2⟩
                    clear hd
                    go_wp2_with fail
                    go_ret2
                    exact ⟨_, rfl, HDD.out, HBF.out⟩
end Go.Proofs.Ytpnlbmeeihbjaaa.P
end
section
set_option linter.unusedVariables false
set_option linter.unusedSimpArgs false
namespace Go.Proofs.Ytpnlbmeeihbjaaa.P
open Go.RowKit Go.Proofs.YtpnlbmeeihbjaaaW.PrintWords Go.Proofs.YtpnlbmeeihbjaaaW.PrintLast Go.Proofs.YtpnlbmeeihbjaaaW.PrintMore
attribute [local go_sem] max2_int min2_int max_two min_two max_three min_three max_four min_four
set_option linter.unusedVariables false
set_option linter.unusedSimpArgs false
theorem lose_same {id : Int} {x : S40} (h : id ∉ x.f3) : loseA id x = x := by
  have e : x.f3.filter (fun k => !(k == id)) = x.f3 := List.filter_eq_self.2 (fun a ha => by
    have : a ≠ id := fun e => h (e ▸ ha)
    simp [this])
  unfold loseA; rw [e]
theorem root_par {f : Nat → Option S40} {next : Int} (h : Good f next) {id : Int} {x : S40} (hx : look f id = some x) : x.f2 = 0 ↔ id = 1 := by
  constructor
  · intro e
    by_cases c : id = 1
    · exact c
    · obtain ⟨p, hp, _⟩ := h.par id x hx c
      have := h.dom _ p hp
      omega
  · rintro rfl
    obtain ⟨r, hr, h0⟩ := h.root
    rw [hr] at hx
    obtain rfl := Option.some.inj hx
    exact h0
def remL (f : Nat → Option S40) (id : Int) (L : List S40) : List S40 := (L.filter fun a => !decide (id ∈ ch f a.f0)).map (loseA id)
theorem remL_snoc (f : Nat → Option S40) (id : Int) (L : List S40) (a : S40) : remL f id (L ++ [a]) = remL f id L ++ (if id ∈ ch f a.f0 then [] else [loseA id a]) := by
  unfold remL
  rw [List.filter_append, List.map_append]
  by_cases e : id ∈ ch f a.f0 <;> simp [e]
theorem remL_len (f : Nat → Option S40) (id : Int) (L : List S40) : (remL f id L).length ≤ L.length := by
  unfold remL
  rw [List.length_map]; exact List.length_filter_le _ _
theorem remL_lst {f : Nat → Option S40} {next : Int} (h : Good f next) {id : Int} {x : S40} (hx : look f id = some x) (h1 : id ≠ 1) : ∀ n : Nat, remL f id (lst f n) = lst (remF f id x.f2 (belR f id)) n := by
  obtain ⟨p, hp, hin, _, _⟩ := h.parent hx h1
  intro n
  induction n with
  | zero => rw [lst_zero, lst_zero]; rfl
  | succ n ih =>
    rw [lst_succ, lst_succ, look_rem h hx hp, ← ih]
    cases hn : look f (n : Int) with
    | none =>
      have e1 : (if id ∈ ch f (n : Int) then (none : Option S40) else if (n : Int) = x.f2 then some (loseA id p) else none) = none := by
        split
        · rfl
        · split
          · rename_i e; rw [e] at hn; rw [hn] at hp; cases hp
          · rfl
      rw [e1]
      simp
    | some y =>
      have hy := h.num _ y hn
      show remL f id (lst f n ++ [y]) = _
      rw [remL_snoc, hy]
      by_cases c : id ∈ ch f (n : Int)
      · rw [if_pos c, if_pos c]
      · rw [if_neg c, if_neg c]
        by_cases e : (n : Int) = x.f2
        · rw [if_pos e]
          rw [e, hp] at hn
          obtain rfl := Option.some.inj hn
          rfl
        · rw [if_neg e, lose_same (fun hc => e (h.id_par hx hn hc).symm)]
set_option maxHeartbeats 32000000 in
set_option maxRecDepth 100000 in
theorem rrem_calls (ok : Nat → Prop) (v : Value) (f : Nat → Option S40) (next id : Int) (w : World) (hfresh : ∀ k, w.heap.size ≤ k → ok k) (h : RDO ok w v f next) (hg : Good f next) :
    Calls Try.prog 69 #[v, .int .i64 id] w fun e w' => ∃ u, e = .returned (.tuple #[u, .int .i64 (remE f id)]) ∧ RDO ok w' u (if remE f id = 0 then remF f id ((look f id).getD z40).f2 (belR f id) else f) next ∧ Below w.heap.size w w' := by
  obtain ⟨E, hE⟩ : ∃ E, E = remE f id := ⟨_, rfl⟩
  rw [← hE]
  obtain ⟨F', hF'⟩ : ∃ F', F' = (if E = 0 then remF f id ((look f id).getD z40).f2 (belR f id) else f) := ⟨_, rfl⟩
  rw [← hF']
  have HF := Aside0.mk hF'
  clear hF'
  unfold remE at hE
  have HPK := Aside0.mk hfresh
  have HO := Aside0.mk h
  replace h := h.rd
  clear hfresh
  have HD := Aside0.mk h
  have HG := Aside0.mk hg
  have HNODE : Aside0 (Calls Try.prog 38 #[v, .int .i64 id] w (CopyPost w (look f id))) := ⟨rnode_calls v f next id w h hg⟩
  have hu40 := Try.underlying40
  have hu104 := Try.underlying104
  have hu102 := Try.underlying102
  obtain ⟨x, hx⟩ : ∃ x, x = (look f id).getD z40 := ⟨_, rfl⟩
  have HX := Aside0.mk hx
  obtain ⟨b, A, c, rfl, hb, hcA, hCA⟩ := h
  have HCA := Aside0.mk (And.intro hcA hCA)
  have HB := Aside0.mk hb
  clear hx hb hg hcA hCA
  go_enter Try.func69, Try.ntmps69
  go_upto_region 2 with (first | (go_at_call 38; refine HNODE.out.mono ?_; rintro e W2 ⟨cs, rfl, hM, hb2⟩; rw [← HX.out] at hM; obtain ⟨A3, c3, A4, c4, hcs, l3, g3, l4, g4⟩ := k40_open (k40.K_of_M hM); obtain ⟨cl⟩ := cs; simp only at hcs; subst hcs; have HC3a := Aside0.mk (And.intro l3 (And.intro g3 (And.intro l4 g4))); have HB2 := Aside0.mk hb2; clear hM hb2 l3 g3 l4 g4) | fail)
  have HB3 : Aside0 (Below w.heap.size w (W2.alloc (.cells #[.int .i64 x.f0, .string x.f1, .int .i64 x.f2, .slice A3 x.f3.length c3, .slice A4 x.f4.length c4] 40))) := ⟨below_alloc HB2.out _⟩
  have HC3 : Aside0 (x.f3.length ≤ c3 ∧ Kd.C (Kd.int .i64) (W2.alloc (.cells #[.int .i64 x.f0, .string x.f1, .int .i64 x.f2, .slice A3 x.f3.length c3, .slice A4 x.f4.length c4] 40)) A3 x.f3.length x.f3) := ⟨⟨HC3a.out.1, Kd.C_below HC3a.out.2.1 (below_alloc (Below.refl _ _) _)⟩⟩
  have q3 : (W2.alloc (.cells #[.int .i64 x.f0, .string x.f1, .int .i64 x.f2, .slice A3 x.f3.length c3, .slice A4 x.f4.length c4] 40)).cell? ⟨W2.heap.size, 3, none⟩ = some (.slice A3 x.f3.length c3) := (blk_cell (blk_new W2 _) 3).trans rfl
  have HC4 : Aside0 (x.f4.length ≤ c4 ∧ Kd.C k70 (W2.alloc (.cells #[.int .i64 x.f0, .string x.f1, .int .i64 x.f2, .slice A3 x.f3.length c3, .slice A4 x.f4.length c4] 40)) A4 x.f4.length x.f4) := ⟨⟨HC3a.out.2.2.1, Kd.C_below HC3a.out.2.2.2 (below_alloc (Below.refl _ _) _)⟩⟩
  have q2 : (W2.alloc (.cells #[.int .i64 x.f0, .string x.f1, .int .i64 x.f2, .slice A3 x.f3.length c3, .slice A4 x.f4.length c4] 40)).cell? ⟨W2.heap.size, 2, none⟩ = some (.int .i64 x.f2) := (blk_cell (blk_new W2 _) 2).trans rfl
  have q4 : (W2.alloc (.cells #[.int .i64 x.f0, .string x.f1, .int .i64 x.f2, .slice A3 x.f3.length c3, .slice A4 x.f4.length c4] 40)).cell? ⟨W2.heap.size, 4, none⟩ = some (.slice A4 x.f4.length c4) := (blk_cell (blk_new W2 _) 4).trans rfl
  clear HC3a
  generalize W2.alloc (.cells #[.int .i64 x.f0, .string x.f1, .int .i64 x.f2, .slice A3 x.f3.length c3, .slice A4 x.f4.length c4] 40) = W3 at HB3 HC3 HC4 q2 q3 q4 ⊢
  generalize W2.heap.size = g11 at q2 q3 q4 ⊢
  cases hl : look f id with
  | none =>
    rw [hl] at hE
    obtain rfl : E = 1 := hE
    have hs : (none : Option S40).isSome = false := rfl
    clear hl
    go_wp2_with fail
    go_ret2
    exact ⟨_, rfl, (by have h := HF.out; simp only [show ¬ ((1 : Int) = 0) by decide, show ¬ ((2 : Int) = 0) by decide, if_false] at h; rw [h]; exact HO.out.below HB3.out), HB3.out⟩
  | some x' =>
    have hs : (some x').isSome = true := rfl
    rw [hl] at hE
    have hxx := HX.out
    rw [hl] at hxx
    obtain rfl : x = x' := hxx
    have HL := Aside0.mk hl
    clear hl
    generalize (some x).isSome = bs at hs ⊢
    subst hs
    simp only at hE
    have HRP := Aside0.mk (root_par HG.out HL.out)
    by_cases c1 : id = 1
    · rw [if_pos c1] at hE
      obtain rfl : E = 2 := hE
      have d1 : (x.f2 == 0) = true := by simpa using HRP.out.2 c1
      clear c1
      go_wp2_with fail
      go_ret2
      exact ⟨_, rfl, (by have h := HF.out; simp only [show ¬ ((1 : Int) = 0) by decide, show ¬ ((2 : Int) = 0) by decide, if_false] at h; rw [h]; exact HO.out.below HB3.out), HB3.out⟩
    · rw [if_neg c1] at hE
      obtain rfl : E = 0 := hE
      have d1 : (x.f2 == 0) = false := by simpa using fun e => c1 (HRP.out.1 e)
      have HLST := Aside0.mk (remL_lst HG.out HL.out c1 next.toNat)
      have HPID : Aside0 (((some x).getD z40).f2 = x.f2) := ⟨rfl⟩
      have HBEL : Aside0 (∀ (n : Int) (W : World), Below w.heap.size w W → Calls Try.prog 97 #[.pointer (some ⟨b, 0, none⟩), .int .i64 n, .int .i64 id] W fun e w' => e = .returned (.bool (decide (id ∈ ch f n))) ∧ Below W.heap.size W w') := ⟨fun n W hW => rbelow_calls _ f next n id W (HD.out.below hW) HG.out ⟨x, HL.out⟩⟩
      have HNODE2 : Aside0 (∀ (n : Int) (W : World), Below w.heap.size w W → Calls Try.prog 38 #[.pointer (some ⟨b, 0, none⟩), .int .i64 n] W (CopyPost W (look f n))) := ⟨fun n W hW => rnode_calls _ f next n W (HD.out.below hW) HG.out⟩
      have HLL : Aside0 ((lst f next.toNat).length ≤ 1048576) := ⟨by have := lst_len f next.toNat; have := HG.out.hi; omega⟩
      have HLK : Aside0 (∀ i : Nat, i < (lst f next.toNat).length → look f (rd_T40 (lst f next.toNat) (i : Nat)).f0 = some (rd_T40 (lst f next.toNat) (i : Nat))) := ⟨fun i hi => by
        have e : rd_T40 (lst f next.toNat) (i : Nat) = (lst f next.toNat)[i] := by unfold rd_T40; simp [List.getD_eq_getElem?_getD, List.getElem?_eq_getElem hi]
        rw [e]; exact lst_look HG.out.numf _ i hi⟩
      have HSZ : Aside0 (∀ (k : Int) (y : S40), look f k = some y → y.f3.length ≤ 1099511627776) := ⟨fun k y hk => by have := HG.out.kids_le hk; omega⟩
      clear c1 HX HNODE
      obtain ⟨pid, hpid⟩ : ∃ p, p = x.f2 := ⟨_, rfl⟩
      have HPI := Aside0.mk hpid
      have HFE : Aside0 (F' = remF f id pid (belR f id)) := ⟨by have h := HF.out; rw [if_pos rfl, HL.out, HPID.out, ← hpid] at h; exact h⟩
      rw [← hpid] at HLST d1 q2
      rw [← HFE.out] at HLST
      have nx3 := (blk_cell (blk_below HB.out HB3.out) 1).trans (show _ = some (.int .i64 next) from rfl)
      have l3 := (blk_cell (blk_below HB.out HB3.out) 0).trans (show _ = some (.slice A (lst f next.toNat).length c) from rfl)
      obtain ⟨L, hL⟩ : ∃ L, L = lst f next.toNat := ⟨_, rfl⟩
      rw [← hL] at HLST HLL HLK HCA l3
      clear hL hpid
      go_upto_region 7 with (fail)
      have HX0 : Aside0 (RDN ok W3 (W3.alloc (.cells #[.slice none 0 0, .int .i64 next] 104)) W3.heap.size [] next) := ⟨⟨.slice none 0 0, blk_new _ _, Nat.le_refl _, Kd.N_nil _ _ _ _ _, below_alloc (Below.refl _ _) _⟩⟩
      have s0 := pw_cell_below (below_alloc (Below.refl _ W3) (.cells #[.slice none 0 0, .int .i64 next] 104)) l3
      generalize W3.alloc (.cells #[.slice none 0 0, .int .i64 next] 104) = W0 at HX0 s0 ⊢
      generalize hgx : W3.heap.size = gx at HX0 ⊢
      clear nx3 l3 q2 q3 q4 d1 hgx
      have HC0 : Aside0 (Kd.C k40 W3 A L.length L) := ⟨Kd.C_below HCA.out.2 HB3.out⟩
      have HTL : Aside0 (∀ i : Nat, (remL f id (L.take i)).length ≤ 1048576) := ⟨fun i => by have := remL_len f id (L.take i); have := HLL.out; rw [List.length_take] at *; omega⟩
      clear HCA HRP HPI HPID
      go_wp2_with fail
      go_loopg [39] (L.length + 1) (fun kq v39 w' => ∃ (i : Nat), v39 = .int .i64 i ∧ Aside0 (i + kq = L.length + 1) ∧ Aside0 (i ≤ L.length) ∧ Aside0 (RDN ok W3 w' gx (remL f id (L.take i)) next))
      case atStart => exact ⟨0, rfl, ⟨by omega⟩, ⟨Nat.zero_le _⟩, HX0⟩
      case round =>
        clear HX0 s0 HB HC3 HC4
        obtain ⟨i, rfl, HK, HI, HX⟩ := hrel
        cases gk with
        | zero => exact absurd HK.out (by have := HI.out; omega)
        | succ g0 =>
          have HBW0 : Aside0 (Below W3.heap.size W3 wr) := ⟨HX.out.choose_spec.2.2.2⟩
          have HBW : Aside0 (Below w.heap.size w wr) := ⟨below_then HB3.out HB3.out.size HBW0.out⟩
          by_cases c0 : i < L.length
          · obtain ⟨ad, M3, m3, M4, m4, rfl, k0, k1, k2, k3, k4, _, _, _, _⟩ := at_T40 (Kd.C_below HC0.out HBW0.out) (i : Int) (by omega) (by omega)
            rw [Int.toNat_natCast] at k0 k1 k2 k3 k4
            have hlk := HLK.out i c0
            have hTK : L.take (i + 1) = L.take i ++ [rd_T40 L (i : Nat)] := by
              rw [List.take_succ_eq_append_getElem c0]
              have e : rd_T40 L (i : Nat) = L[i] := by unfold rd_T40; simp [List.getD_eq_getElem?_getD, List.getElem?_eq_getElem c0]
              rw [e]
            have hTK2 : remL f id (L.take (i + 1)) = remL f id (L.take i) ++ (if id ∈ ch f (rd_T40 L (i : Nat)).f0 then [] else [loseA id (rd_T40 L (i : Nat))]) := by rw [hTK, remL_snoc]
            have HTK := Aside0.mk hTK2
            generalize rd_T40 L (i : Nat) = m at k0 k1 k2 k3 k4 hlk HTK
            have HLX := Aside0.mk hlk
            have HI0 := Aside0.mk c0
            have c1 : decide (i < L.length) = true := decide_eq_true c0
            have c2 : decide ((i : Int) < (L.length : Int)) = true := decide_eq_true (by omega)
            have z0 : (0 ≤ (i : Int)) = True := eq_true (by omega)
            have z1 : ((i : Int) < (L.length : Int)) = True := eq_true (by omega)
            clear c0 hlk hTK hTK2
            go_upto_region 10 with (fail)
            have HX1 : Aside0 (RDN ok W3 (wr.alloc (.cells #[.int .i64 m.f0, .string m.f1, .int .i64 m.f2, .slice M3 m.f3.length m3, .slice M4 m.f4.length m4] 40)) gx (remL f id (L.take i)) next) := ⟨HX.out.step (below_alloc (Below.refl _ _) _)⟩
            have HB1 : Aside0 (Below w.heap.size w (wr.alloc (.cells #[.int .i64 m.f0, .string m.f1, .int .i64 m.f2, .slice M3 m.f3.length m3, .slice M4 m.f4.length m4] 40))) := ⟨below_alloc HBW.out _⟩
            have q0 : (wr.alloc (.cells #[.int .i64 m.f0, .string m.f1, .int .i64 m.f2, .slice M3 m.f3.length m3, .slice M4 m.f4.length m4] 40)).cell? ⟨wr.heap.size, 0, none⟩ = some (.int .i64 m.f0) := (blk_cell (blk_new wr _) 0).trans rfl
            clear k0 k1 k2 k3 k4
            generalize wr.alloc (.cells #[.int .i64 m.f0, .string m.f1, .int .i64 m.f2, .slice M3 m.f3.length m3, .slice M4 m.f4.length m4] 40) = W1 at HX1 HB1 q0 ⊢
            generalize wr.heap.size = g5 at q0 ⊢
            by_cases cb : id ∈ ch f m.f0
            · have hTK3 := HTK.out
              rw [if_pos cb, List.append_nil] at hTK3
              have HTK2 := Aside0.mk hTK3
              have db : decide (id ∈ ch f m.f0) = true := decide_eq_true cb
              clear cb hTK3 HTK
              go_wp2_with (first | (go_at_call 97; refine (HBEL.out _ _ HB1.out).mono ?_; rintro e W2 ⟨rfl, hb2⟩; rw [db]; have HB2 := Aside0.mk hb2; clear hb2) | fail)
              go_roundg g0
              case measure => have := HK.out; omega
              case rel =>
                refine ⟨i + 1, (by have := HI0.out; have := HLL.out; congr 1; unfold wrap64; omega), ⟨by have := HK.out; omega⟩, ⟨HI0.out⟩, ⟨?_⟩⟩
                rw [HTK2.out]
                exact HX1.out.step HB2.out
            · have hTK3 := HTK.out
              rw [if_neg cb] at hTK3
              have HTK2 := Aside0.mk hTK3
              have db : decide (id ∈ ch f m.f0) = false := decide_eq_false cb
              clear cb hTK3 HTK
              go_upto_region 11 with (first | (go_at_call 97; refine (HBEL.out _ _ HB1.out).mono ?_; rintro e W2 ⟨rfl, hb2⟩; rw [db]; have HB12 := Aside0.mk hb2; have HB2 := Aside0.mk (below_then HB1.out HB1.out.size hb2); have q02 := pw_cell_below hb2 q0; clear hb2) | fail)
              go_upto_region 12 with (first | (go_at_call 38; refine (HNODE2.out _ _ HB2.out).mono ?_; rintro e W4 ⟨cs, rfl, hM, hb4⟩; rw [HLX.out] at hM ⊢; obtain ⟨v3, v4, hcs, h3, h4⟩ := k40_openM (x := m) hM; obtain ⟨B3, d3, rfl⟩ := Kd.R_slice h3; obtain ⟨B4, d4, rfl⟩ := Kd.R_slice h4; obtain ⟨cl⟩ := cs; simp only at hcs; subst hcs; have H3 := Aside0.mk h3; have H4 := Aside0.mk h4; have HB24 := Aside0.mk hb4; clear hM hb4 h3 h4) | fail)
              have HB15 : Aside0 (Below W1.heap.size W1 (W4.alloc (.cells #[.int .i64 m.f0, .string m.f1, .int .i64 m.f2, .slice B3 m.f3.length d3, .slice B4 m.f4.length d4] 40))) := ⟨below_alloc (below_then HB12.out HB12.out.size HB24.out) _⟩
              have HX5 : Aside0 (RDN ok W3 (W4.alloc (.cells #[.int .i64 m.f0, .string m.f1, .int .i64 m.f2, .slice B3 m.f3.length d3, .slice B4 m.f4.length d4] 40)) gx (remL f id (L.take i)) next) := ⟨HX1.out.step HB15.out⟩
              have HB5 : Aside0 (Below w.heap.size w (W4.alloc (.cells #[.int .i64 m.f0, .string m.f1, .int .i64 m.f2, .slice B3 m.f3.length d3, .slice B4 m.f4.length d4] 40))) := ⟨below_then HB1.out HB1.out.size HB15.out⟩
              have H12 : Aside0 ((W4.alloc (.cells #[.int .i64 m.f0, .string m.f1, .int .i64 m.f2, .slice B3 m.f3.length d3, .slice B4 m.f4.length d4] 40)).heap[W4.heap.size]? = some (.cells #[.int .i64 m.f0, .string m.f1, .int .i64 m.f2, .slice B3 m.f3.length d3, .slice B4 m.f4.length d4] 40 (0, 0))) := ⟨blk_new _ _⟩
              have HC5 : Aside0 (m.f3.length ≤ d3 ∧ Kd.C (Kd.int .i64) (W4.alloc (.cells #[.int .i64 m.f0, .string m.f1, .int .i64 m.f2, .slice B3 m.f3.length d3, .slice B4 m.f4.length d4] 40)) B3 m.f3.length m.f3) := ⟨⟨(Kd.R_reads' H3.out).2.1, Kd.C_below (Kd.R_reads' H3.out).2.2 (below_alloc (Below.refl _ _) _)⟩⟩
              have HF4 : Aside0 (m.f4.length ≤ d4 ∧ Kd.F k70 (W4.alloc (.cells #[.int .i64 m.f0, .string m.f1, .int .i64 m.f2, .slice B3 m.f3.length d3, .slice B4 m.f4.length d4] 40)) (fun k => W1.heap.size ≤ k ∧ k < W4.heap.size) B4 m.f4.length m.f4) := ⟨⟨(Kd.R_reads' H4.out).2.1, Kd.F_mono (Kd.F_below (Kd.R_F (Kd.R_bound H4.out)) (below_alloc (Below.refl _ _) _)) (fun k hk => ⟨Nat.le_trans HB12.out.size hk.2.1, hk.2.2.1⟩)⟩⟩
              have HSZ5 : Aside0 (W1.heap.size ≤ W4.heap.size ∧ W4.heap.size < (W4.alloc (.cells #[.int .i64 m.f0, .string m.f1, .int .i64 m.f2, .slice B3 m.f3.length d3, .slice B4 m.f4.length d4] 40)).heap.size) := ⟨⟨(below_then HB12.out HB12.out.size HB24.out).size, blk_lt H12.out⟩⟩
              have HKD : Aside0 (m.f3.length ≤ 1099511627776) := ⟨HSZ.out _ _ HLX.out⟩
              clear H3 H4 q0 q02
              generalize W4.alloc (.cells #[.int .i64 m.f0, .string m.f1, .int .i64 m.f2, .slice B3 m.f3.length d3, .slice B4 m.f4.length d4] 40) = W5 at HB15 HX5 HB5 H12 HC5 HF4 HSZ5 ⊢
              generalize W4.heap.size = g12 at H12 HF4 HSZ5 ⊢
              have q53 := (blk_cell H12.out 3).trans (show _ = some (.slice B3 m.f3.length d3) from rfl)
              obtain ⟨r, hr⟩ : ∃ r, r = (m.f3.filter fun k => !(k == id)) := ⟨_, rfl⟩
              have HR := Aside0.mk hr
              obtain ⟨kw, hkw⟩ := rwithout_eq m.f3 id HKD.out
              rw [← hr] at hkw
              have HKW := Aside0.mk hkw
              clear hr hkw
              go_upto_region 13 with (first | (go_at_call 98; (with_reducible refine (gouacheref07_without.calls kw B3 d3 m.f3 id r _ (by repeat (first | exact HC5.out.2 | exact Kd.C_below HC5.out.2 (by repeat (first | exact Below.refl _ _ | apply below_drew1 | apply pw_below_drewN)))) HC5.out.1 HKW.out).mono ?_); rintro e W6 ⟨v0, rfl, hR, hb6⟩; obtain ⟨C3, e3, rfl⟩ := Kd.R_slice hR; have HR6 := Aside0.mk hR; have HB56 := Aside0.mk (show Below W5.heap.size W5 W6 from ⟨hb6.os, hb6.tape, hb6.output, hb6.size, hb6.block⟩); have H126 := Aside0.mk (blk_below H12.out HB56.out); have q63 := (blk_cell H126.out 3).trans (show _ = some (.slice B3 m.f3.length d3) from rfl); have q63f := blk_frozen H126.out 3; clear hR hb6) | fail)
              have HXS : Aside0 (Below W1.heap.size W1 (W6.setCell ⟨g12, 3, none⟩ (.slice C3 r.length e3))) := ⟨below_set (below_then HB15.out HB15.out.size HB56.out) HSZ5.out.1⟩
              have H12S : Aside0 ((W6.setCell ⟨g12, 3, none⟩ (.slice C3 r.length e3)).heap[g12]? = some (.cells #[.int .i64 m.f0, .string m.f1, .int .i64 m.f2, .slice C3 r.length e3, .slice B4 m.f4.length d4] 40 (0, 0))) := ⟨blk_put (cs := #[.int .i64 m.f0, .string m.f1, .int .i64 m.f2, .slice B3 m.f3.length d3, .slice B4 m.f4.length d4]) H126.out 3 _ rfl⟩
              have HF3S : Aside0 (r.length ≤ e3 ∧ Kd.F (Kd.int .i64) (W6.setCell ⟨g12, 3, none⟩ (.slice C3 r.length e3)) (fun k => W1.heap.size ≤ k) C3 r.length r) := ⟨⟨(Kd.R_reads' HR6.out).2.1, Kd.F_mono (Kd.F_step (Kd.R_F (Kd.R_bound HR6.out)) (fun k hk _ => heap_setCell_other W6 ⟨g12, 3, none⟩ k _ (by have := hk.2.1; have := HSZ5.out.2; show k ≠ g12; omega))) (fun k hk => by have h1 := hk.2.1; have h2 := HB15.out.size; omega)⟩⟩
              have HF4S : Aside0 (m.f4.length ≤ d4 ∧ Kd.F k70 (W6.setCell ⟨g12, 3, none⟩ (.slice C3 r.length e3)) (fun k => W1.heap.size ≤ k) B4 m.f4.length m.f4) := ⟨⟨HF4.out.1, Kd.F_mono (Kd.F_step (Kd.F_below HF4.out.2 HB56.out) (fun k hk _ => heap_setCell_other W6 ⟨g12, 3, none⟩ k _ (by have := hk.2; show k ≠ g12; omega))) (fun k hk => hk.1)⟩⟩
              generalize W6.setCell ⟨g12, 3, none⟩ (.slice C3 r.length e3) = WS at HXS H12S HF3S HF4S ⊢
              clear q53 q63 q63f
              have mixed : Try.prog.follows Departure.mixedOrders = true := by kernel_rfl
              have HTL1 := Aside0.mk (HTL.out i)
              obtain ⟨T, hT⟩ : ∃ T, T = remL f id (L.take i) := ⟨_, rfl⟩
              rw [← hT] at HX1 HTL1 HTK2
              obtain ⟨vL, hgx1, hle, hN1, hBx1⟩ := HX1.out
              obtain ⟨AL, c0', rfl⟩ := Kd.N_slice hN1
              have hlt1 := blk_lt hgx1
              have hown1 := Kd.N_lt hN1
              have HN : Aside0 (Kd.N k40 40 WS W3.heap.size (fun k => k ≠ gx ∧ ok k) (.slice AL T.length c0') T) := ⟨Kd.N_below hN1 HXS.out⟩
              have HGX : Aside0 (WS.heap[gx]? = some (.cells #[.slice AL T.length c0', .int .i64 next] 104 (0, 0))) := ⟨blk_below hgx1 HXS.out⟩
              have HBX : Aside0 (Below W3.heap.size W3 WS) := ⟨below_then hBx1 hBx1.size HXS.out⟩
              have HLE := Aside0.mk hle
              have u0 := (blk_cell HGX.out 0).trans (show _ = some (.slice AL T.length c0') from rfl)
              have u0f := blk_frozen HGX.out 0
              have m0 := (blk_cell H12S.out 0).trans (show _ = some (.int .i64 m.f0) from rfl)
              have m1 := (blk_cell H12S.out 1).trans (show _ = some (.string m.f1) from rfl)
              have m2 := (blk_cell H12S.out 2).trans (show _ = some (.int .i64 m.f2) from rfl)
              have m3 := (blk_cell H12S.out 3).trans (show _ = some (.slice C3 r.length e3) from rfl)
              have m4 := (blk_cell H12S.out 4).trans (show _ = some (.slice B4 m.f4.length d4) from rfl)
              have n0 : ∀ o, (WS.alloc o).cell? ⟨gx, 0, none⟩ = some (.slice AL T.length c0') := fun o => pw_cell_below (below_alloc (Below.refl _ _) o) u0
              have HFK : Aside0 (∀ W : World, Below WS.heap.size WS W → Kd.FK k40 W (fun k => (k ≠ gx ∧ ok k) ∧ some k ≠ (Value.slice AL T.length c0').ownBlock) (loseA id m) [.int .i64 m.f0, .string m.f1, .int .i64 m.f2, .slice C3 r.length e3, .slice B4 m.f4.length d4]) := ⟨fun W hW => by
                have okk : ∀ k, W1.heap.size ≤ k → (k ≠ gx ∧ ok k) ∧ some k ≠ (Value.slice AL T.length c0').ownBlock := fun k hk => ⟨⟨by omega, HPK.out k (by have h1 := HB1.out.size; omega)⟩, fun e => by have := hown1 k e.symm; omega⟩
                have e : r = (loseA id m).f3 := HR.out
                have h3 := HF3S.out
                rw [e] at h3
                rw [e]
                exact k40_mkF W _ (loseA id m) h3.1 (Kd.F_mono (Kd.F_below h3.2 hW) okk) HF4S.out.1 (Kd.F_mono (Kd.F_below HF4S.out.2 hW) okk)⟩
              have HFR : Aside0 (∀ W : World, Below WS.heap.size WS W → ∀ k, W.heap.size ≤ k → k ≠ gx ∧ ok k) := ⟨fun W hW k hk => ⟨by have := blk_lt HGX.out; have := hW.size; omega, HPK.out k (by have h1 := HBX.out.size; have h2 := hW.size; have h3 := HB3.out.size; omega)⟩⟩
              have HNE : Aside0 (some gx ≠ (Value.slice AL T.length c0').ownBlock) := ⟨fun e => (hN1.1 _ e.symm).1 rfl⟩
              clear hT hgx1 hN1 hBx1 hlt1 hown1 hle
              go_region_law_o (refine Kd.N_append_step k40 (w0 := W3) (W := WS.drew) W3.heap.size (by rfl) (.tmp 65) (.tmp 67) 102 40 (.agg #[(.int .i64 0), (.string ⟨#[]⟩), (.int .i64 0), (.slice none 0 0), (.slice none 0 0)]) 80 (by rfl) Try.underlying102 info40_ rfl (by decide) (by decide) (.slice AL T.length c0') T (loseA id m) [.int .i64 m.f0, .string m.f1, .int .i64 m.f2, .slice C3 r.length e3, .slice B4 m.f4.length d4] (fun k => k ≠ gx ∧ ok k) _ (by rfl) (by rfl) (HFK.out _ (by repeat (first | exact Below.refl _ _ | apply below_drew1 | apply pw_below_drewN))) (fun _ hk => hk) (HFR.out _ (by repeat (first | exact Below.refl _ _ | apply below_drew1 | apply pw_below_drewN))) (by repeat (first | exact HN.out | apply Kd.N_drew)) (by repeat (first | exact HBX.out | apply below_drew1 | apply pw_below_drewN)) HBX.out.size (by have := HTL1.out; omega) ?_; intro v1 w1 hN1 hb1 hg1 hat1; obtain ⟨A1, c1', rfl⟩ := Kd.N_slice hN1; have hgx1 := (hg1.block gx (blk_lt HGX.out) HNE.out).trans HGX.out; have HGX1 := Aside0.mk hgx1; have w1c := (blk_cell hgx1 0).trans (show _ = some _ from rfl); have w1f := blk_frozen hgx1 0; have HN1 := Aside0.mk hN1; have HB1' := Aside0.mk hb1; clear hN1 hb1 hg1 hat1 hgx1)
              all_goals
                go_wp2_with fail
                go_roundg g0
                case measure => have := HK.out; omega
                case rel =>
                  refine ⟨i + 1, (by have := HI0.out; have := HLL.out; congr 1; unfold wrap64; omega), ⟨by have := HK.out; omega⟩, ⟨HI0.out⟩, ⟨?_⟩⟩
                  have hN2 := HN1.out
                  rw [show (T ++ [loseA id m]).length = T.length + 1 by simp] at hN2
                  rw [HTK2.out]
                  exact ⟨_, blk_put (cs := #[.slice AL T.length c0', .int .i64 next]) HGX1.out 0 _ rfl, HLE.out, Kd.N_far hN2 (fun k hk => hk.1) _, below_set HB1'.out HLE.out⟩
          · have c1 : decide (i < L.length) = false := decide_eq_false c0
            have c2 : decide ((i : Int) < (L.length : Int)) = false := decide_eq_false (by omega)
            have HTK : L.take i = L := List.take_of_length_le (by omega)
            rw [HTK, HLST.out] at HX
            clear c0 HTK
            have HDD : Aside0 (RDO ok wr (.pointer (some ⟨gx, 0, none⟩)) F' next) := ⟨HX.out.docO (fun k hk => HPK.out k (Nat.le_trans HB3.out.size hk))⟩
            go_wp2_with fail
            go_ret2
            exact ⟨_, rfl, HDD.out, HBW.out⟩
end Go.Proofs.Ytpnlbmeeihbjaaa.P
end
section
set_option linter.unusedVariables false
set_option linter.unusedSimpArgs false
namespace Go.Proofs.Ytpnlbmeeihbjaaa.P
open Go.RowKit Go.Proofs.YtpnlbmeeihbjaaaW.PrintWords Go.Proofs.YtpnlbmeeihbjaaaW.PrintLast Go.Proofs.YtpnlbmeeihbjaaaW.PrintMore
attribute [local go_sem] max2_int min2_int max_two min_two max_three min_three max_four min_four
set_option linter.unusedVariables false
set_option linter.unusedSimpArgs false
theorem mov5 {f : Nat → Option S40} {next : Int} (h : Good f next) {id q : Int} {x z : S40} (hx : look f id = some x) (hz : look f q = some z) :
    512 < wrap64 (((ch f q).length : Int) + talD f id) ↔ ∃ y, y ∈ lst f next.toNat ∧ id ∈ ch f y.f0 ∧ 512 < ((ch f q).length : Int) + 1 + (ch f y.f0).length - (ch f id).length := by
  obtain ⟨h1, h2, h3, c, hc, he⟩ := tal_eq h hx
  have hq := ch_le h q
  rw [show wrap64 (((ch f q).length : Int) + talD f id) = ((ch f q).length : Int) + talD f id by unfold wrap64; omega]
  constructor
  · intro hlt
    cases hy : look f c with
    | none =>
      have e : ch f c = [] := upL_none _ _ hy
      rw [e] at hc; cases hc
    | some y =>
      have hn := h.num _ y hy
      have hd := h.dom _ y hy
      refine ⟨y, (lst_mem f _ y).2 ⟨c.toNat, by omega, by rw [show ((c.toNat : Nat) : Int) = c by omega]; exact hy⟩, by rw [hn]; exact hc, by rw [hn]; omega⟩
  · rintro ⟨y, _, hy, hlt⟩
    have := h1 _ hy
    omega
theorem kz_len {f : Nat → Option S40} {next : Int} (h : Good f next) {id q : Int} {x z : S40} (hx : look f id = some x) (h1 : id ≠ 1) (hz : look f q = some z) : ((z.f3.filter fun k => !(k == id)).length : Int) = movK x z q := by
  have hk := h.kids_le hz
  by_cases e : x.f2 = q
  · obtain ⟨p, hp, hin, _⟩ := h.parent hx h1
    rw [e, hz] at hp
    obtain rfl := Option.some.inj hp
    have := lose_len (h.nodup q z hz) hin
    rw [movK_eq hk (fun _ => by omega), if_pos e]
    omega
  · have hn : id ∉ z.f3 := fun hc => e (h.id_par hx hz hc)
    have e2 : (loseA id z).f3 = z.f3 := by rw [lose_same hn]
    rw [movK_eq hk (fun c => absurd c e), if_neg e]
    show ((loseA id z).f3.length : Int) = _
    rw [e2]
theorem mov_steps {f : Nat → Option S40} {next : Int} (h : Good f next) {id q : Int} {x p z : S40} (hx : look f id = some x) (h1 : id ≠ 1) (hp : look f x.f2 = some p) (hz : look f q = some z) (hn : id ∉ ch f q) (i : Nat) :
    ∃ k1 k2 k3 : Nat, (k1 < (lst f next.toNat).length ∧ (lst f next.toNat).getD k1 z40 = p ∧ idxR (lst f next.toNat) x.f2 = (k1 : Int)) ∧
      (k2 < ((lst f next.toNat).set k1 (loseA id p)).length ∧ ((lst f next.toNat).set k1 (loseA id p)).getD k2 z40 = loseA id z ∧ idxR ((lst f next.toNat).set k1 (loseA id p)) q = (k2 : Int)) ∧
      (k3 < (((lst f next.toNat).set k1 (loseA id p)).set k2 (gainA i id (loseA id z))).length ∧ (((lst f next.toNat).set k1 (loseA id p)).set k2 (gainA i id (loseA id z))).getD k3 z40 = x ∧ idxR (((lst f next.toNat).set k1 (loseA id p)).set k2 (gainA i id (loseA id z))) id = (k3 : Int)) ∧
      lst (movF f id x.f2 q i) next.toNat = (((lst f next.toNat).set k1 (loseA id p)).set k2 (gainA i id (loseA id z))).set k3 (ownA q x) := by
  have hhi := h.hi
  obtain ⟨p', hp', hin, hne, hpi⟩ := h.parent hx h1
  rw [hp] at hp'
  obtain rfl := Option.some.inj hp'
  have hdp := h.dom _ p hp
  have hdq := h.dom _ z hz
  have hdi := h.dom _ x hx
  have hqi : q ≠ id := fun e => hn (by rw [e]; exact ch_self h hx)
  have num := h.numf
  obtain ⟨k1, a1, a2, a3⟩ := idx_at num (n := next.toNat) hp (by omega) (by omega)
  have E1 : lst (movF1 f id x.f2) next.toNat = (lst f next.toNat).set k1 (loseA id p) := by
    have e : movF1 f id x.f2 = putF f x.f2 (some (loseA id p)) := by unfold movF1; rw [hp]; rfl
    rw [e, lst_put num (by omega) hp (by omega) (by omega) a3]
  have num1 : Num (movF1 f id x.f2) := by
    have e : movF1 f id x.f2 = putF f x.f2 (some (loseA id p)) := by unfold movF1; rw [hp]; rfl
    rw [e]; exact num_put num (by omega) (by omega) (h.num _ p hp)
  have L1 : ∀ j, look (movF1 f id x.f2) j = if j = x.f2 then some (loseA id p) else look f j := fun j => by
    unfold movF1; rw [hp, look_put _ _ _ _ (by omega) (by omega)]; rfl
  have hz1 : look (movF1 f id x.f2) q = some (loseA id z) := by
    rw [L1]
    by_cases e : q = x.f2
    · rw [if_pos e]; rw [e, hp] at hz; obtain rfl := Option.some.inj hz; rfl
    · rw [if_neg e, hz, lose_same (fun hc => e (h.id_par hx hz hc).symm)]
  obtain ⟨k2, b1, b2, b3⟩ := idx_at num1 (n := next.toNat) hz1 (by omega) (by omega)
  have e2 : movF2 f id x.f2 q i = putF (movF1 f id x.f2) q (some (gainA i id (loseA id z))) := by unfold movF2; rw [hz1]; rfl
  have E2 : lst (movF2 f id x.f2 q i) next.toNat = (lst (movF1 f id x.f2) next.toNat).set k2 (gainA i id (loseA id z)) := by
    rw [e2, lst_put num1 (by omega) hz1 (by omega) (by omega) b3]
  have num2 : Num (movF2 f id x.f2 q i) := by
    rw [e2]; exact num_put num1 (by omega) (by omega) (h.num _ z hz)
  have hx2 : look (movF2 f id x.f2 q i) id = some x := by
    rw [e2, look_put _ _ _ _ (by omega) (by omega), if_neg (Ne.symm hqi), L1, if_neg (Ne.symm hpi), hx]
  obtain ⟨k3, c1, c2, c3⟩ := idx_at num2 (n := next.toNat) hx2 (by omega) (by omega)
  have e3 : movF f id x.f2 q i = putF (movF2 f id x.f2 q i) id (some (ownA q x)) := by unfold movF; rw [hx2]; rfl
  have E3 : lst (movF f id x.f2 q i) next.toNat = (lst (movF2 f id x.f2 q i) next.toNat).set k3 (ownA q x) := by
    rw [e3, lst_put num2 (by omega) hx2 (by omega) (by omega) c3]
  have g1 : (lst f next.toNat).getD k1 z40 = p := by rw [List.getD_eq_getElem?_getD, List.getElem?_eq_getElem a1, a2]; rfl
  have g2 : (lst (movF1 f id x.f2) next.toNat).getD k2 z40 = loseA id z := by rw [List.getD_eq_getElem?_getD, List.getElem?_eq_getElem b1, b2]; rfl
  have g3 : (lst (movF2 f id x.f2 q i) next.toNat).getD k3 z40 = x := by rw [List.getD_eq_getElem?_getD, List.getElem?_eq_getElem c1, c2]; rfl
  rw [E2, E1] at c1 g3 c3 E3
  rw [E1] at b1 g2 b3
  exact ⟨k1, k2, k3, ⟨a1, g1, a3⟩, ⟨b1, g2, b3⟩, ⟨c1, g3, c3⟩, E3⟩
set_option maxHeartbeats 32000000 in
set_option maxRecDepth 100000 in
theorem rmov_calls (ok : Nat → Prop) (v : Value) (f : Nat → Option S40) (next id q idx : Int) (w : World) (hfresh : ∀ k, w.heap.size ≤ k → ok k) (h : RDO ok w v f next) (hg : Good f next) :
    Calls Try.prog 70 #[v, .int .i64 id, .int .i64 q, .int .i64 idx] w fun e w' => ∃ u, e = .returned (.tuple #[u, .int .i64 (movE f id q idx (decide (id ∈ ch f q)) (ch f q).length (talD f id))]) ∧ RDO ok w' u (if movE f id q idx (decide (id ∈ ch f q)) (ch f q).length (talD f id) = 0 then movF f id ((look f id).getD z40).f2 q idx.toNat else f) next ∧ Below w.heap.size w w' := by
  obtain ⟨E, hE⟩ : ∃ E, E = movE f id q idx (decide (id ∈ ch f q)) (ch f q).length (talD f id) := ⟨_, rfl⟩
  rw [← hE]
  obtain ⟨F', hF'⟩ : ∃ F', F' = (if E = 0 then movF f id ((look f id).getD z40).f2 q idx.toNat else f) := ⟨_, rfl⟩
  rw [← hF']
  have HF := Aside0.mk hF'
  clear hF'
  have hu29 := Try.underlying29
  have HNODEP : Aside0 (∀ W : World, Below w.heap.size w W → Calls Try.prog 38 #[v, .int .i64 q] W (CopyPost W (look f q))) := ⟨fun W hW => rnode_calls v f next q W (h.rd.below hW) hg⟩
  obtain ⟨z, hz⟩ : ∃ z, z = (look f q).getD z40 := ⟨_, rfl⟩
  have HZ := Aside0.mk hz
  have HZS : Aside0 (z.f3.length ≤ 1099511627776) := ⟨by rw [hz]; exact (hg.sizes q).1⟩
  clear hz
  unfold movE at hE
  have HPK := Aside0.mk hfresh
  have HO := Aside0.mk h
  replace h := h.rd
  clear hfresh
  have HD := Aside0.mk h
  have HG := Aside0.mk hg
  have HNODE : Aside0 (Calls Try.prog 38 #[v, .int .i64 id] w (CopyPost w (look f id))) := ⟨rnode_calls v f next id w h hg⟩
  have hu40 := Try.underlying40
  have hu104 := Try.underlying104
  have hu102 := Try.underlying102
  obtain ⟨x, hx⟩ : ∃ x, x = (look f id).getD z40 := ⟨_, rfl⟩
  have HX := Aside0.mk hx
  obtain ⟨b, A, c, rfl, hb, hcA, hCA⟩ := h
  have HCA := Aside0.mk (And.intro hcA hCA)
  have HB := Aside0.mk hb
  clear hx hb hg hcA hCA
  go_enter Try.func70, Try.ntmps70
  go_upto_region 2 with (first | (go_at_call 38; refine HNODE.out.mono ?_; rintro e W2 ⟨cs, rfl, hM, hb2⟩; rw [← HX.out] at hM; obtain ⟨A3, c3, A4, c4, hcs, l3, g3, l4, g4⟩ := k40_open (k40.K_of_M hM); obtain ⟨cl⟩ := cs; simp only at hcs; subst hcs; have HC3a := Aside0.mk (And.intro l3 (And.intro g3 (And.intro l4 g4))); have HB2 := Aside0.mk hb2; clear hM hb2 l3 g3 l4 g4) | fail)
  have HB3 : Aside0 (Below w.heap.size w (W2.alloc (.cells #[.int .i64 x.f0, .string x.f1, .int .i64 x.f2, .slice A3 x.f3.length c3, .slice A4 x.f4.length c4] 40))) := ⟨below_alloc HB2.out _⟩
  have HC3 : Aside0 (x.f3.length ≤ c3 ∧ Kd.C (Kd.int .i64) (W2.alloc (.cells #[.int .i64 x.f0, .string x.f1, .int .i64 x.f2, .slice A3 x.f3.length c3, .slice A4 x.f4.length c4] 40)) A3 x.f3.length x.f3) := ⟨⟨HC3a.out.1, Kd.C_below HC3a.out.2.1 (below_alloc (Below.refl _ _) _)⟩⟩
  have q3 : (W2.alloc (.cells #[.int .i64 x.f0, .string x.f1, .int .i64 x.f2, .slice A3 x.f3.length c3, .slice A4 x.f4.length c4] 40)).cell? ⟨W2.heap.size, 3, none⟩ = some (.slice A3 x.f3.length c3) := (blk_cell (blk_new W2 _) 3).trans rfl
  have HC4 : Aside0 (x.f4.length ≤ c4 ∧ Kd.C k70 (W2.alloc (.cells #[.int .i64 x.f0, .string x.f1, .int .i64 x.f2, .slice A3 x.f3.length c3, .slice A4 x.f4.length c4] 40)) A4 x.f4.length x.f4) := ⟨⟨HC3a.out.2.2.1, Kd.C_below HC3a.out.2.2.2 (below_alloc (Below.refl _ _) _)⟩⟩
  have q2 : (W2.alloc (.cells #[.int .i64 x.f0, .string x.f1, .int .i64 x.f2, .slice A3 x.f3.length c3, .slice A4 x.f4.length c4] 40)).cell? ⟨W2.heap.size, 2, none⟩ = some (.int .i64 x.f2) := (blk_cell (blk_new W2 _) 2).trans rfl
  have q4 : (W2.alloc (.cells #[.int .i64 x.f0, .string x.f1, .int .i64 x.f2, .slice A3 x.f3.length c3, .slice A4 x.f4.length c4] 40)).cell? ⟨W2.heap.size, 4, none⟩ = some (.slice A4 x.f4.length c4) := (blk_cell (blk_new W2 _) 4).trans rfl
  clear HC3a
  generalize W2.alloc (.cells #[.int .i64 x.f0, .string x.f1, .int .i64 x.f2, .slice A3 x.f3.length c3, .slice A4 x.f4.length c4] 40) = W3 at HB3 HC3 HC4 q2 q3 q4 ⊢
  generalize W2.heap.size = g11 at q2 q3 q4 ⊢
  go_upto_region 3 with (first | (go_at_call 38; refine (HNODEP.out _ HB3.out).mono ?_; rintro e W4 ⟨cs, rfl, hM, hb4⟩; rw [← HZ.out] at hM; obtain ⟨Z3, zc3, Z4, zc4, hcs, l3, g3, l4, g4⟩ := k40_open (k40.K_of_M hM); obtain ⟨cl⟩ := cs; simp only at hcs; subst hcs; have HCZa := Aside0.mk (And.intro l3 g3); have HB34 := Aside0.mk hb4; clear hM hb4 l3 g3 l4 g4) | fail)
  have HB35 : Aside0 (Below W3.heap.size W3 (W4.alloc (.cells #[.int .i64 z.f0, .string z.f1, .int .i64 z.f2, .slice Z3 z.f3.length zc3, .slice Z4 z.f4.length zc4] 40))) := ⟨below_alloc HB34.out _⟩
  have HB5 : Aside0 (Below w.heap.size w (W4.alloc (.cells #[.int .i64 z.f0, .string z.f1, .int .i64 z.f2, .slice Z3 z.f3.length zc3, .slice Z4 z.f4.length zc4] 40))) := ⟨below_then HB3.out HB3.out.size HB35.out⟩
  have HCZ : Aside0 (z.f3.length ≤ zc3 ∧ Kd.C (Kd.int .i64) (W4.alloc (.cells #[.int .i64 z.f0, .string z.f1, .int .i64 z.f2, .slice Z3 z.f3.length zc3, .slice Z4 z.f4.length zc4] 40)) Z3 z.f3.length z.f3) := ⟨⟨HCZa.out.1, Kd.C_below HCZa.out.2 (below_alloc (Below.refl _ _) _)⟩⟩
  have q53 : (W4.alloc (.cells #[.int .i64 z.f0, .string z.f1, .int .i64 z.f2, .slice Z3 z.f3.length zc3, .slice Z4 z.f4.length zc4] 40)).cell? ⟨W4.heap.size, 3, none⟩ = some (.slice Z3 z.f3.length zc3) := (blk_cell (blk_new W4 _) 3).trans rfl
  have q52 := pw_cell_below HB35.out q2
  clear HCZa q2 q3 q4 HC3 HC4
  generalize W4.alloc (.cells #[.int .i64 z.f0, .string z.f1, .int .i64 z.f2, .slice Z3 z.f3.length zc3, .slice Z4 z.f4.length zc4] 40) = W5 at HB35 HB5 HCZ q53 q52 ⊢
  generalize W4.heap.size = g12 at q53 ⊢
  obtain ⟨kz, hkz⟩ : ∃ r, r = z.f3.filter fun k => !(k == id) := ⟨_, rfl⟩
  have HKZ := Aside0.mk hkz
  obtain ⟨kw, hkw⟩ := rwithout_eq z.f3 id HZS.out
  rw [← hkz] at hkw
  have HKW := Aside0.mk hkw
  clear hkz hkw
  go_upto_region 4 with (first | (go_at_call 98; (with_reducible refine (gouacheref07_without.calls kw Z3 zc3 z.f3 id kz _ (by repeat (first | exact HCZ.out.2 | exact Kd.C_below HCZ.out.2 (by repeat (first | exact Below.refl _ _ | apply below_drew1 | apply pw_below_drewN)))) HCZ.out.1 HKW.out).mono ?_); rintro e W6 ⟨v0, rfl, hR, hb6⟩; obtain ⟨K3, ek, rfl⟩ := Kd.R_slice hR; have HRK := Aside0.mk (Kd.R_reads' hR); have HB56 := Aside0.mk (show Below W5.heap.size W5 W6 from ⟨hb6.os, hb6.tape, hb6.output, hb6.size, hb6.block⟩); have q62 := pw_cell_below HB56.out q52; clear hR hb6) | fail)
  have HB6 : Aside0 (Below w.heap.size w W6) := ⟨below_then HB5.out HB5.out.size HB56.out⟩
  have HBEL : Aside0 (∀ (n : Int) (y : S40) (hy : look f id = some y) (W : World), Below w.heap.size w W → Calls Try.prog 97 #[.pointer (some ⟨b, 0, none⟩), .int .i64 n, .int .i64 id] W fun e w' => e = .returned (.bool (decide (id ∈ ch f n))) ∧ Below W.heap.size W w') := ⟨fun n y hy W hW => rbelow_calls _ f next n id W (HD.out.below hW) HG.out ⟨y, hy⟩⟩
  clear q52 q53
  cases hl : look f id with
  | none =>
    rw [hl] at hE
    obtain rfl : E = 1 := hE
    have hs : (none : Option S40).isSome = false := rfl
    clear hl
    go_wp2_with fail
    go_ret2
    exact ⟨_, rfl, (by have h := HF.out; simp only [show ¬ ((1 : Int) = 0) by decide, show ¬ ((2 : Int) = 0) by decide, show ¬ ((3 : Int) = 0) by decide, if_false] at h; rw [h]; exact HO.out.below HB6.out), HB6.out⟩
  | some x' =>
    have hs : (some x').isSome = true := rfl
    rw [hl] at hE
    have hxx := HX.out
    rw [hl] at hxx
    obtain rfl : x = x' := hxx
    have HL := Aside0.mk hl
    clear hl
    generalize (some x).isSome = bs at hs ⊢
    subst hs
    cases hl2 : look f q with
    | none =>
      rw [hl2] at hE
      obtain rfl : E = 1 := hE
      have hs2 : (none : Option S40).isSome = false := rfl
      clear hl2
      go_wp2_with fail
      go_ret2
      exact ⟨_, rfl, (by have h := HF.out; simp only [show ¬ ((1 : Int) = 0) by decide, show ¬ ((2 : Int) = 0) by decide, show ¬ ((3 : Int) = 0) by decide, if_false] at h; rw [h]; exact HO.out.below HB6.out), HB6.out⟩
    | some z' =>
      have hs2 : (some z').isSome = true := rfl
      rw [hl2] at hE
      have hzz := HZ.out
      rw [hl2] at hzz
      obtain rfl : z = z' := hzz
      have HLZ := Aside0.mk hl2
      clear hl2
      generalize (some z).isSome = bs2 at hs2 ⊢
      subst hs2
      simp only at hE
      have HRP := Aside0.mk (root_par HG.out HL.out)
      by_cases c1 : id = 1 ∨ decide (id ∈ ch f q) = true
      · rw [if_pos c1] at hE
        obtain rfl : E = 2 := hE
        by_cases c2 : id = 1
        · have d1 : (x.f2 == 0) = true := by simpa using HRP.out.2 c2
          clear c1 c2
          go_wp2_with fail
          go_ret2
          exact ⟨_, rfl, (by have h := HF.out; simp only [show ¬ ((1 : Int) = 0) by decide, show ¬ ((2 : Int) = 0) by decide, show ¬ ((3 : Int) = 0) by decide, if_false] at h; rw [h]; exact HO.out.below HB6.out), HB6.out⟩
        · have d1 : (x.f2 == 0) = false := by simpa using fun e => c2 (HRP.out.1 e)
          have d2 : decide (id ∈ ch f q) = true := c1.resolve_left c2
          clear c1 c2
          go_wp2_with (first | (go_at_call 97; (with_reducible refine (HBEL.out _ _ HL.out _ (by repeat (first | exact HB6.out | apply below_drew1 | apply pw_below_drewN))).mono ?_); rintro e W7 ⟨rfl, hb7⟩; rw [d2]; have HB67 := Aside0.mk (show Below W6.heap.size W6 W7 from ⟨hb7.os, hb7.tape, hb7.output, hb7.size, hb7.block⟩); have HB7 := Aside0.mk (below_then HB6.out HB6.out.size HB67.out); have q72 := pw_cell_below HB67.out q62; clear hb7) | fail)
          go_ret2
          exact ⟨_, rfl, (by have h := HF.out; simp only [show ¬ ((1 : Int) = 0) by decide, show ¬ ((2 : Int) = 0) by decide, show ¬ ((3 : Int) = 0) by decide, if_false] at h; rw [h]; exact HO.out.below HB7.out), HB7.out⟩
      · rw [if_neg c1] at hE
        have c2 : id ≠ 1 := fun e => c1 (Or.inl e)
        have d1 : (x.f2 == 0) = false := by simpa using fun e => c2 (HRP.out.1 e)
        have d2 : decide (id ∈ ch f q) = false := by
          cases h : decide (id ∈ ch f q) with
          | false => rfl
          | true => exact absurd (Or.inr h) c1
        have HID1 := Aside0.mk c2
        have HNB : Aside0 (id ∉ ch f q) := ⟨of_decide_eq_false d2⟩
        have HKL : Aside0 ((kz.length : Int) = movK x z q) := ⟨by rw [HKZ.out]; exact kz_len HG.out HL.out c2 HLZ.out⟩
        clear c1 c2
        by_cases c3 : idx < 0 ∨ movK x z q < idx
        · rw [if_pos c3] at hE
          obtain rfl : E = 3 := hE
          by_cases c4 : idx < 0
          · have d3 : decide (idx < 0) = true := decide_eq_true c4
            clear c3 c4
            go_wp2_with (first | (go_at_call 97; (with_reducible refine (HBEL.out _ _ HL.out _ (by repeat (first | exact HB6.out | apply below_drew1 | apply pw_below_drewN))).mono ?_); rintro e W7 ⟨rfl, hb7⟩; rw [d2]; have HB67 := Aside0.mk (show Below W6.heap.size W6 W7 from ⟨hb7.os, hb7.tape, hb7.output, hb7.size, hb7.block⟩); have HB7 := Aside0.mk (below_then HB6.out HB6.out.size HB67.out); have q72 := pw_cell_below HB67.out q62; clear hb7) | fail)
            go_ret2
            exact ⟨_, rfl, (by have h := HF.out; simp only [show ¬ ((1 : Int) = 0) by decide, show ¬ ((2 : Int) = 0) by decide, show ¬ ((3 : Int) = 0) by decide, if_false] at h; rw [h]; exact HO.out.below HB7.out), HB7.out⟩
          · have d3 : decide (idx < 0) = false := decide_eq_false c4
            have d4 : decide ((kz.length : Int) < idx) = true := decide_eq_true (by rw [HKL.out]; exact c3.resolve_left c4)
            clear c3 c4
            go_wp2_with (first | (go_at_call 97; (with_reducible refine (HBEL.out _ _ HL.out _ (by repeat (first | exact HB6.out | apply below_drew1 | apply pw_below_drewN))).mono ?_); rintro e W7 ⟨rfl, hb7⟩; rw [d2]; have HB67 := Aside0.mk (show Below W6.heap.size W6 W7 from ⟨hb7.os, hb7.tape, hb7.output, hb7.size, hb7.block⟩); have HB7 := Aside0.mk (below_then HB6.out HB6.out.size HB67.out); have q72 := pw_cell_below HB67.out q62; clear hb7) | fail)
            go_ret2
            exact ⟨_, rfl, (by have h := HF.out; simp only [show ¬ ((1 : Int) = 0) by decide, show ¬ ((2 : Int) = 0) by decide, show ¬ ((3 : Int) = 0) by decide, if_false] at h; rw [h]; exact HO.out.below HB7.out), HB7.out⟩
        · rw [if_neg c3] at hE
          have d3 : decide (idx < 0) = false := decide_eq_false (fun e => c3 (Or.inl e))
          have d4 : decide ((kz.length : Int) < idx) = false := decide_eq_false (fun e => c3 (Or.inr (by rw [← HKL.out]; exact e)))
          have HIX : Aside0 (0 ≤ idx ∧ idx ≤ kz.length) := ⟨by have := HKL.out; omega⟩
          clear c3
          have HE5 : Aside0 (E = if 512 < wrap64 (((ch f q).length : Int) + talD f id) then 5 else 0) := ⟨hE⟩
          clear hE
          go_upto_region 10 with (first | (go_at_call 97; (with_reducible refine (HBEL.out _ _ HL.out _ (by repeat (first | exact HB6.out | apply below_drew1 | apply pw_below_drewN))).mono ?_); rintro e W7 ⟨rfl, hb7⟩; rw [d2]; have HB67 := Aside0.mk (show Below W6.heap.size W6 W7 from ⟨hb7.os, hb7.tape, hb7.output, hb7.size, hb7.block⟩); have HB7 := Aside0.mk (below_then HB6.out HB6.out.size HB67.out); have q72 := pw_cell_below HB67.out q62; clear hb7) | fail)
          have HC7 : Aside0 (Kd.C k40 W7 A (lst f next.toNat).length (lst f next.toNat)) := ⟨Kd.C_below HCA.out.2 HB7.out⟩
          have l7 := (blk_cell (blk_below HB.out HB7.out) 0).trans (show _ = some (.slice A (lst f next.toNat).length c) from rfl)
          have HLL : Aside0 ((lst f next.toNat).length ≤ 1048576) := ⟨by have := lst_len f next.toNat; have := HG.out.hi; omega⟩
          have HM5 := Aside0.mk (mov5 HG.out HL.out HLZ.out)
          obtain ⟨L, hL⟩ : ∃ L, L = lst f next.toNat := ⟨_, rfl⟩
          have HLE := Aside0.mk hL
          rw [← hL] at HC7 l7 HLL HM5
          obtain ⟨dp, hdp⟩ : ∃ d : Int, d = ((ch f q).length : Int) := ⟨_, rfl⟩
          obtain ⟨di, hdi⟩ : ∃ d : Int, d = ((ch f id).length : Int) := ⟨_, rfl⟩
          have HDI : Aside0 (0 ≤ dp ∧ dp ≤ 512 ∧ 0 ≤ di ∧ di ≤ 512) := ⟨by have := ch_le HG.out q; have := ch_le HG.out id; omega⟩
          rw [← hdp, ← hdi] at HM5
          rw [← hdp] at HE5
          have HDEP : Aside0 (∀ (n : Int) (W : World), Below w.heap.size w W → Calls Try.prog 19 #[.pointer (some ⟨b, 0, none⟩), .int .i64 n] W fun e w' => e = .returned (.int .i64 (ch f n).length) ∧ Below W.heap.size W w') := ⟨fun n W hW => rdepth_calls _ f next n W (HD.out.below hW) HG.out⟩
          have HDP : Aside0 (∀ (W : World), Below w.heap.size w W → Calls Try.prog 19 #[.pointer (some ⟨b, 0, none⟩), .int .i64 q] W fun e w' => e = .returned (.int .i64 dp) ∧ Below W.heap.size W w') := ⟨fun W hW => by rw [hdp]; exact HDEP.out q W hW⟩
          have HDD : Aside0 (∀ (W : World), Below w.heap.size w W → Calls Try.prog 19 #[.pointer (some ⟨b, 0, none⟩), .int .i64 id] W fun e w' => e = .returned (.int .i64 di) ∧ Below W.heap.size W w') := ⟨fun W hW => by rw [hdi]; exact HDEP.out id W hW⟩
          clear hL hdp hdi d1 d2 d3 d4
          go_wp2_with fail
          clear l7
          go_loopg [68] (L.length + 1) (fun kq v68 w' => ∃ (i : Nat), v68 = .int .i64 i ∧ Aside0 (i + kq = L.length + 1) ∧ Aside0 (i ≤ L.length) ∧ Aside0 (∀ y, y ∈ L.take i → id ∈ ch f y.f0 → ¬ 512 < dp + 1 + (ch f y.f0).length - di) ∧ Aside0 (Below W7.heap.size W7 w'))
          case atStart => exact ⟨0, rfl, ⟨by omega⟩, ⟨Nat.zero_le _⟩, ⟨fun y hy => by rw [List.take_zero] at hy; cases hy⟩, ⟨Below.refl _ _⟩⟩
          case round =>
            obtain ⟨i, rfl, HK, HI, HNV, HBr⟩ := hrel
            cases gk with
            | zero => exact absurd HK.out (by have := HI.out; omega)
            | succ g0 =>
              have HBW : Aside0 (Below w.heap.size w wr) := ⟨below_then HB7.out HB7.out.size HBr.out⟩
              by_cases c0 : i < L.length
              · clear q62 q72
                obtain ⟨ad, M3, m3, M4, m4, rfl, k0, k1, k2, k3, k4, _, _, _, _⟩ := at_T40 (Kd.C_below HC7.out HBr.out) (i : Int) (by omega) (by omega)
                rw [Int.toNat_natCast] at k0 k1 k2 k3 k4
                have hTK : L.take (i + 1) = L.take i ++ [rd_T40 L (i : Nat)] ∧ rd_T40 L (i : Nat) ∈ L := by
                  have e : rd_T40 L (i : Nat) = L[i] := by unfold rd_T40; simp [List.getD_eq_getElem?_getD, List.getElem?_eq_getElem c0]
                  rw [List.take_succ_eq_append_getElem c0, e]
                  exact ⟨rfl, List.getElem_mem c0⟩
                have HTK := Aside0.mk hTK
                generalize rd_T40 L (i : Nat) = m at k0 k1 k2 k3 k4 HTK
                have HI0 := Aside0.mk c0
                have c1 : decide (i < L.length) = true := decide_eq_true c0
                have c2 : decide ((i : Int) < (L.length : Int)) = true := decide_eq_true (by omega)
                have z0 : (0 ≤ (i : Int)) = True := eq_true (by omega)
                have z1 : ((i : Int) < (L.length : Int)) = True := eq_true (by omega)
                clear c0 hTK
                go_upto_region 13 with (fail)
                have HB1 : Aside0 (Below w.heap.size w (wr.alloc (.cells #[.int .i64 m.f0, .string m.f1, .int .i64 m.f2, .slice M3 m.f3.length m3, .slice M4 m.f4.length m4] 40))) := ⟨below_alloc HBW.out _⟩
                have HBr1 : Aside0 (Below W7.heap.size W7 (wr.alloc (.cells #[.int .i64 m.f0, .string m.f1, .int .i64 m.f2, .slice M3 m.f3.length m3, .slice M4 m.f4.length m4] 40))) := ⟨below_alloc HBr.out _⟩
                have q0 : (wr.alloc (.cells #[.int .i64 m.f0, .string m.f1, .int .i64 m.f2, .slice M3 m.f3.length m3, .slice M4 m.f4.length m4] 40)).cell? ⟨wr.heap.size, 0, none⟩ = some (.int .i64 m.f0) := (blk_cell (blk_new wr _) 0).trans rfl
                clear k0 k1 k2 k3 k4
                generalize wr.alloc (.cells #[.int .i64 m.f0, .string m.f1, .int .i64 m.f2, .slice M3 m.f3.length m3, .slice M4 m.f4.length m4] 40) = W8 at HB1 HBr1 q0 ⊢
                generalize wr.heap.size = g16 at q0 ⊢
                obtain ⟨dm, hdm⟩ : ∃ d : Int, d = ((ch f m.f0).length : Int) := ⟨_, rfl⟩
                have HDMB : Aside0 (0 ≤ dm ∧ dm ≤ 512) := ⟨by have := ch_le HG.out m.f0; omega⟩
                have HDM : Aside0 (∀ (W : World), Below w.heap.size w W → Calls Try.prog 19 #[.pointer (some ⟨b, 0, none⟩), .int .i64 m.f0] W fun e w' => e = .returned (.int .i64 dm) ∧ Below W.heap.size W w') := ⟨fun W hW => by rw [hdm]; exact HDEP.out m.f0 W hW⟩
                have HDMM := Aside0.mk hdm
                clear hdm
                have e1 : IntKind.i64.wrap (dp + 1) = dp + 1 := by have := HDI.out; rw [IntKind.wrap_i64]; omega
                have e2 : IntKind.i64.wrap (dp + 1 + dm) = dp + 1 + dm := by have := HDI.out; have := HDMB.out; rw [IntKind.wrap_i64]; omega
                have e3 : IntKind.i64.wrap (dp + 1 + dm - di) = dp + 1 + dm - di := by have := HDI.out; have := HDMB.out; rw [IntKind.wrap_i64]; omega
                by_cases cb : id ∈ ch f m.f0
                · have db : decide (id ∈ ch f m.f0) = true := decide_eq_true cb
                  by_cases cv : 512 < dp + 1 + dm - di
                  · have dv : decide (512 < dp + 1 + dm - di) = true := decide_eq_true cv
                    have HE0 : Aside0 (E = 5) := ⟨by rw [HE5.out, if_pos]; exact HM5.out.2 ⟨m, HTK.out.2, cb, by rw [← HDMM.out]; exact cv⟩⟩
                    clear cb cv
                    go_region_held3 (fun w' => w'.cell? ⟨g16, 0, none⟩ = some (.int .i64 m.f0)) (first | go_keep | exact pw_cell_below HB12.out q0 | exact pw_cell_below HB11.out q0 | exact pw_cell_below HB10.out q0 | exact pw_cell_below HB9.out q0) (first
      | (go_at_call 97; (with_reducible refine (HBEL.out _ _ HL.out _ (by repeat (first | exact HB1.out | apply below_drew1 | apply pw_below_drewN))).mono ?_); rintro e W9 ⟨rfl, hb9⟩; rw [db]; have HB9 := Aside0.mk (show Below W8.heap.size W8 W9 from ⟨hb9.os, hb9.tape, hb9.output, hb9.size, hb9.block⟩); have HBW9 := Aside0.mk (below_then HB1.out HB1.out.size HB9.out); clear hb9)
      | (go_at_call 19; (with_reducible refine (HDP.out _ (by repeat (first | exact HBW9.out | apply below_drew1 | apply pw_below_drewN))).mono ?_); rintro e W10 ⟨rfl, hb10⟩; have HB10 := Aside0.mk (below_then HB9.out HB9.out.size (show Below W9.heap.size W9 W10 from ⟨hb10.os, hb10.tape, hb10.output, hb10.size, hb10.block⟩)); have HBW10 := Aside0.mk (below_then HB1.out HB1.out.size HB10.out); clear hb10)
      | (go_at_call 19; (with_reducible refine (HDM.out _ (by repeat (first | exact HBW10.out | apply below_drew1 | apply pw_below_drewN))).mono ?_); rintro e W11 ⟨rfl, hb11⟩; have HB11 := Aside0.mk (below_then HB10.out HB10.out.size (show Below W10.heap.size W10 W11 from ⟨hb11.os, hb11.tape, hb11.output, hb11.size, hb11.block⟩)); have HBW11 := Aside0.mk (below_then HB1.out HB1.out.size HB11.out); clear hb11)
      | (go_at_call 19; (with_reducible refine (HDD.out _ (by repeat (first | exact HBW11.out | apply below_drew1 | apply pw_below_drewN))).mono ?_); rintro e W12 ⟨rfl, hb12⟩; have HB12 := Aside0.mk (below_then HB11.out HB11.out.size (show Below W11.heap.size W11 W12 from ⟨hb12.os, hb12.tape, hb12.output, hb12.size, hb12.block⟩)); have HBW12 := Aside0.mk (below_then HB1.out HB1.out.size HB12.out); clear hb12)
      | fail)
                    all_goals
                      go_wp2_with fail
                      go_ret2
                      exact ⟨_, (by rw [HE0.out]; rfl), (by have h := HF.out; rw [HE0.out, if_neg (by decide)] at h; rw [h]; exact HO.out.below (by repeat (first | exact HBW12.out | apply below_drew1 | apply pw_below_drewN))), by repeat (first | exact HBW12.out | apply below_drew1 | apply pw_below_drewN)⟩
                  · have dv : decide (512 < dp + 1 + dm - di) = false := decide_eq_false cv
                    have HNV2 : Aside0 (∀ y, y ∈ L.take (i + 1) → id ∈ ch f y.f0 → ¬ 512 < dp + 1 + (ch f y.f0).length - di) := ⟨fun y hy => by
                      rw [HTK.out.1, List.mem_append] at hy
                      rcases hy with hy | hy
                      · exact HNV.out y hy
                      · obtain rfl := List.mem_singleton.1 hy
                        intro _; rw [← HDMM.out]; exact cv⟩
                    clear cb cv
                    go_region_held3 (fun w' => w'.cell? ⟨g16, 0, none⟩ = some (.int .i64 m.f0)) (first | go_keep | exact pw_cell_below HB12.out q0 | exact pw_cell_below HB11.out q0 | exact pw_cell_below HB10.out q0 | exact pw_cell_below HB9.out q0) (first
      | (go_at_call 97; (with_reducible refine (HBEL.out _ _ HL.out _ (by repeat (first | exact HB1.out | apply below_drew1 | apply pw_below_drewN))).mono ?_); rintro e W9 ⟨rfl, hb9⟩; rw [db]; have HB9 := Aside0.mk (show Below W8.heap.size W8 W9 from ⟨hb9.os, hb9.tape, hb9.output, hb9.size, hb9.block⟩); have HBW9 := Aside0.mk (below_then HB1.out HB1.out.size HB9.out); clear hb9)
      | (go_at_call 19; (with_reducible refine (HDP.out _ (by repeat (first | exact HBW9.out | apply below_drew1 | apply pw_below_drewN))).mono ?_); rintro e W10 ⟨rfl, hb10⟩; have HB10 := Aside0.mk (below_then HB9.out HB9.out.size (show Below W9.heap.size W9 W10 from ⟨hb10.os, hb10.tape, hb10.output, hb10.size, hb10.block⟩)); have HBW10 := Aside0.mk (below_then HB1.out HB1.out.size HB10.out); clear hb10)
      | (go_at_call 19; (with_reducible refine (HDM.out _ (by repeat (first | exact HBW10.out | apply below_drew1 | apply pw_below_drewN))).mono ?_); rintro e W11 ⟨rfl, hb11⟩; have HB11 := Aside0.mk (below_then HB10.out HB10.out.size (show Below W10.heap.size W10 W11 from ⟨hb11.os, hb11.tape, hb11.output, hb11.size, hb11.block⟩)); have HBW11 := Aside0.mk (below_then HB1.out HB1.out.size HB11.out); clear hb11)
      | (go_at_call 19; (with_reducible refine (HDD.out _ (by repeat (first | exact HBW11.out | apply below_drew1 | apply pw_below_drewN))).mono ?_); rintro e W12 ⟨rfl, hb12⟩; have HB12 := Aside0.mk (below_then HB11.out HB11.out.size (show Below W11.heap.size W11 W12 from ⟨hb12.os, hb12.tape, hb12.output, hb12.size, hb12.block⟩)); have HBW12 := Aside0.mk (below_then HB1.out HB1.out.size HB12.out); clear hb12)
      | fail)
                    all_goals
                      go_wp2_with fail
                      go_roundg g0
                      case measure => have := HK.out; omega
                      case rel => exact ⟨i + 1, (by have := HI0.out; have := HLL.out; congr 1; unfold wrap64; omega), ⟨by have := HK.out; omega⟩, ⟨HI0.out⟩, HNV2, ⟨by repeat (first | exact below_then HBr1.out HBr1.out.size HB12.out | apply below_drew1 | apply pw_below_drewN)⟩⟩
                · have db : decide (id ∈ ch f m.f0) = false := decide_eq_false cb
                  have HNV2 : Aside0 (∀ y, y ∈ L.take (i + 1) → id ∈ ch f y.f0 → ¬ 512 < dp + 1 + (ch f y.f0).length - di) := ⟨fun y hy => by
                      rw [HTK.out.1, List.mem_append] at hy
                      rcases hy with hy | hy
                      · exact HNV.out y hy
                      · obtain rfl := List.mem_singleton.1 hy
                        intro hc; exact absurd hc cb⟩
                  clear cb
                  refine wp_region_noPanic ?_
                  refine wp_region_held_drew (S := fun w' => w'.cell? ⟨g16, 0, none⟩ = some (.int .i64 m.f0)) (by kernel_rfl) (by first | exact q0 | go_simp) (fun hHeld => ?_)
                  refine wpAnyH_take (i := 0) (v := ?_) rfl (by kernel_rfl) (by kernel_rfl) (by kernel_rfl) (fun _ _ _ h => h) (Or.inl ⟨by rfl, ?_⟩) (by assumption) ?_
                  rotate_left
                  focus (intro w hSw; (try dsimp only at hSw); go_simp; try with_reducible rfl)
                  try simp only [Act.put, List.setIfInBounds_toArray, List.set_cons_zero, List.set_cons_succ, List.getElem_toArray, List.getElem_cons_succ, List.getElem_cons_zero]
                  refine wpAnyH_take (i := 1) (v := ?_) rfl (by kernel_rfl) (by kernel_rfl) (by kernel_rfl) (fun _ _ _ h => h) (Or.inl ⟨by rfl, ?_⟩) (by assumption) ?_
                  rotate_left
                  focus (intro w hSw; (try dsimp only at hSw); go_simp; try with_reducible rfl)
                  try simp only [Act.put, List.setIfInBounds_toArray, List.set_cons_zero, List.set_cons_succ, List.getElem_toArray, List.getElem_cons_succ, List.getElem_cons_zero]
                  refine wpAnyH_take (i := 2) (v := ?_) rfl (by kernel_rfl) (by kernel_rfl) (by kernel_rfl) (fun _ _ _ h => h) (Or.inl ⟨by rfl, ?_⟩) (by assumption) ?_
                  rotate_left
                  focus (intro w hSw; (try dsimp only at hSw); go_simp; try with_reducible rfl)
                  try simp only [Act.put, List.setIfInBounds_toArray, List.set_cons_zero, List.set_cons_succ, List.getElem_toArray, List.getElem_cons_succ, List.getElem_cons_zero]
                  refine wpAnyH_take (i := 3) (v := ?_) rfl (by kernel_rfl) (by kernel_rfl) (by kernel_rfl) (fun _ _ _ h => h) (Or.inl ⟨by rfl, ?_⟩) (by assumption) ?_
                  rotate_left
                  focus (intro w hSw; (try dsimp only at hSw); go_simp; try with_reducible rfl)
                  try simp only [Act.put, List.setIfInBounds_toArray, List.set_cons_zero, List.set_cons_succ, List.getElem_toArray, List.getElem_cons_succ, List.getElem_cons_zero]
                  refine wpAnyH_ready (rs := [4]) (by kernel_rfl) (by simp) ?_
                  refine AllReadyH.cons rfl (fun K hK => ?_) AllReadyH.nil
                  go_simp
                  (go_at_call 97; (with_reducible refine (HBEL.out _ _ HL.out _ (by repeat (first | exact HB1.out | apply below_drew1 | apply pw_below_drewN))).mono ?_); rintro e W9 ⟨rfl, hb9⟩; rw [db]; have HB9 := Aside0.mk (show Below W8.heap.size W8 W9 from ⟨hb9.os, hb9.tape, hb9.output, hb9.size, hb9.block⟩); have HBW9 := Aside0.mk (below_then HB1.out HB1.out.size HB9.out); clear hb9)
                  refine hK.out _ _ (pw_cell_below HB9.out q0) (fun hHeld2 => ?_)
                  clear hK K
                  try simp only [Act.put, List.setIfInBounds_toArray, List.set_cons_zero, List.set_cons_succ, List.getElem_toArray, List.getElem_cons_succ, List.getElem_cons_zero]
                  refine wpAnyH_take (i := 5) (v := ?_) rfl (by kernel_rfl) (by kernel_rfl) (by kernel_rfl) (fun _ _ _ h => h) (Or.inl ⟨by rfl, ?_⟩) (by assumption) ?_
                  rotate_left
                  focus (intro w hSw; (try dsimp only at hSw); go_simp; try with_reducible rfl)
                  try simp only [Act.put, List.setIfInBounds_toArray, List.set_cons_zero, List.set_cons_succ, List.getElem_toArray, List.getElem_cons_succ, List.getElem_cons_zero]
                  refine wpAnyH_take (i := 6) (v := undef) rfl (by kernel_rfl) (by kernel_rfl) (by kernel_rfl) (fun _ _ _ h => h) (Or.inr ⟨by rfl, rfl⟩) (by assumption) ?_
                  try simp only [Act.put, List.setIfInBounds_toArray, List.set_cons_zero, List.set_cons_succ, List.getElem_toArray, List.getElem_cons_succ, List.getElem_cons_zero]
                  refine wpAnyH_take (i := 7) (v := undef) rfl (by kernel_rfl) (by kernel_rfl) (by kernel_rfl) (fun _ _ _ h => h) (Or.inr ⟨by rfl, rfl⟩) (by assumption) ?_
                  try simp only [Act.put, List.setIfInBounds_toArray, List.set_cons_zero, List.set_cons_succ, List.getElem_toArray, List.getElem_cons_succ, List.getElem_cons_zero]
                  refine wpAnyH_take (i := 10) (v := undef) rfl (by kernel_rfl) (by kernel_rfl) (by kernel_rfl) (fun _ _ _ h => h) (Or.inr ⟨by rfl, rfl⟩) (by assumption) ?_
                  try simp only [Act.put, List.setIfInBounds_toArray, List.set_cons_zero, List.set_cons_succ, List.getElem_toArray, List.getElem_cons_succ, List.getElem_cons_zero]
                  refine wpAnyH_take (i := 11) (v := undef) rfl (by kernel_rfl) (by kernel_rfl) (by kernel_rfl) (fun _ _ _ h => h) (Or.inr ⟨by rfl, rfl⟩) (by assumption) ?_
                  try simp only [Act.put, List.setIfInBounds_toArray, List.set_cons_zero, List.set_cons_succ, List.getElem_toArray, List.getElem_cons_succ, List.getElem_cons_zero]
                  refine wpAnyH_take (i := 12) (v := undef) rfl (by kernel_rfl) (by kernel_rfl) (by kernel_rfl) (fun _ _ _ h => h) (Or.inr ⟨by rfl, rfl⟩) (by assumption) ?_
                  try simp only [Act.put, List.setIfInBounds_toArray, List.set_cons_zero, List.set_cons_succ, List.getElem_toArray, List.getElem_cons_succ, List.getElem_cons_zero]
                  refine wpAnyH_take (i := 15) (v := undef) rfl (by kernel_rfl) (by kernel_rfl) (by kernel_rfl) (fun _ _ _ h => h) (Or.inr ⟨by rfl, rfl⟩) (by assumption) ?_
                  try simp only [Act.put, List.setIfInBounds_toArray, List.set_cons_zero, List.set_cons_succ, List.getElem_toArray, List.getElem_cons_succ, List.getElem_cons_zero]
                  refine wpAnyH_take (i := 16) (v := undef) rfl (by kernel_rfl) (by kernel_rfl) (by kernel_rfl) (fun _ _ _ h => h) (Or.inr ⟨by rfl, rfl⟩) (by assumption) ?_
                  try simp only [Act.put, List.setIfInBounds_toArray, List.set_cons_zero, List.set_cons_succ, List.getElem_toArray, List.getElem_cons_succ, List.getElem_cons_zero]
                  refine wpAnyH_ready (rs := [8]) (by kernel_rfl) (by simp) ?_
                  refine AllReadyH.cons rfl (fun K hK => ?_) AllReadyH.nil
                  rw [if_neg (by simp [Region.wanted, yielded])]
                  refine hK.out _ _ (by assumption) (fun hHeld2 => ?_)
                  clear hK K
                  try simp only [Act.put, List.setIfInBounds_toArray, List.set_cons_zero, List.set_cons_succ, List.getElem_toArray, List.getElem_cons_succ, List.getElem_cons_zero]
                  refine wpAnyH_take (i := 9) (v := undef) rfl (by kernel_rfl) (by kernel_rfl) (by kernel_rfl) (fun _ _ _ h => h) (Or.inr ⟨by rfl, rfl⟩) (by assumption) ?_
                  try simp only [Act.put, List.setIfInBounds_toArray, List.set_cons_zero, List.set_cons_succ, List.getElem_toArray, List.getElem_cons_succ, List.getElem_cons_zero]
                  refine wpAnyH_ready (rs := [13]) (by kernel_rfl) (by simp) ?_
                  refine AllReadyH.cons rfl (fun K hK => ?_) AllReadyH.nil
                  rw [if_neg (by simp [Region.wanted, yielded])]
                  refine hK.out _ _ (by assumption) (fun hHeld2 => ?_)
                  clear hK K
                  try simp only [Act.put, List.setIfInBounds_toArray, List.set_cons_zero, List.set_cons_succ, List.getElem_toArray, List.getElem_cons_succ, List.getElem_cons_zero]
                  refine wpAnyH_take (i := 14) (v := undef) rfl (by kernel_rfl) (by kernel_rfl) (by kernel_rfl) (fun _ _ _ h => h) (Or.inr ⟨by rfl, rfl⟩) (by assumption) ?_
                  try simp only [Act.put, List.setIfInBounds_toArray, List.set_cons_zero, List.set_cons_succ, List.getElem_toArray, List.getElem_cons_succ, List.getElem_cons_zero]
                  refine wpAnyH_ready (rs := [17]) (by kernel_rfl) (by simp) ?_
                  refine AllReadyH.cons rfl (fun K hK => ?_) AllReadyH.nil
                  rw [if_neg (by simp [Region.wanted, yielded])]
                  refine hK.out _ _ (by assumption) (fun hHeld2 => ?_)
                  clear hK K
                  try simp only [Act.put, List.setIfInBounds_toArray, List.set_cons_zero, List.set_cons_succ, List.getElem_toArray, List.getElem_cons_succ, List.getElem_cons_zero]
                  refine wpAnyH_take (i := 18) (v := undef) rfl (by kernel_rfl) (by kernel_rfl) (by kernel_rfl) (fun _ _ _ h => h) (Or.inr ⟨by rfl, rfl⟩) (by assumption) ?_
                  try simp only [Act.put, List.setIfInBounds_toArray, List.set_cons_zero, List.set_cons_succ, List.getElem_toArray, List.getElem_cons_succ, List.getElem_cons_zero]
                  refine wpAnyH_take (i := 19) (v := undef) rfl (by kernel_rfl) (by kernel_rfl) (by kernel_rfl) (fun _ _ _ h => h) (Or.inr ⟨by rfl, rfl⟩) (by assumption) ?_
                  try simp only [Act.put, List.setIfInBounds_toArray, List.set_cons_zero, List.set_cons_succ, List.getElem_toArray, List.getElem_cons_succ, List.getElem_cons_zero]
                  refine wpAnyH_take (i := 20) (v := ?_) rfl (by kernel_rfl) (by kernel_rfl) (by kernel_rfl) (fun _ _ _ h => h) (Or.inl ⟨by rfl, ?_⟩) (by assumption) ?_
                  rotate_left
                  focus (intro w hSw; (try dsimp only at hSw); go_simp; try with_reducible rfl)
                  try simp only [Act.put, List.setIfInBounds_toArray, List.set_cons_zero, List.set_cons_succ, List.getElem_toArray, List.getElem_cons_succ, List.getElem_cons_zero]
                  refine wpAnyH_done (by kernel_rfl) ?_ _
                  refine NoPanic.normal ?_
                  all_goals
                    go_wp2_with fail
                    go_roundg g0
                    case measure => have := HK.out; omega
                    case rel => exact ⟨i + 1, (by have := HI0.out; have := HLL.out; congr 1; unfold wrap64; omega), ⟨by have := HK.out; omega⟩, ⟨HI0.out⟩, HNV2, ⟨by repeat (first | exact below_then HBr1.out HBr1.out.size HB9.out | apply below_drew1 | apply pw_below_drewN)⟩⟩
              · have c1 : decide (i < L.length) = false := decide_eq_false c0
                have c2 : decide ((i : Int) < (L.length : Int)) = false := decide_eq_false (by omega)
                have HTK : L.take i = L := List.take_of_length_le (by omega)
                have HE0 : Aside0 (E = 0) := ⟨by
                  rw [HE5.out, if_neg]
                  intro hc
                  obtain ⟨y, h1, h2, h3⟩ := HM5.out.1 hc
                  rw [← HTK] at h1
                  exact HNV.out y h1 h2 h3⟩
                clear c0 HTK
                have HCK : Aside0 (kz.length ≤ ek ∧ Kd.C (Kd.int .i64) wr K3 kz.length kz) := ⟨⟨HRK.out.2.1, Kd.C_below HRK.out.2.2 (below_then HB67.out HB67.out.size HBr.out)⟩⟩
                have qz2 := pw_cell_below HBr.out q72
                clear q62 q72
                obtain ⟨ix, hix⟩ := Int.eq_ofNat_of_zero_le HIX.out.1
                subst hix
                go_upto_region 17 with (first | (go_at_call 95; refine (rcopy_calls ok _ f next _ (fun k hk => HPK.out k (Nat.le_trans HBW.out.size hk)) (HD.out.below HBW.out) HG.out).mono ?_; rintro e W20 ⟨gx, rfl, hrd⟩; have HRD := Aside0.mk hrd; clear hrd) | fail)
                obtain ⟨p, hp, _⟩ := HG.out.parent HL.out HID1.out
                obtain ⟨k1, k2, k3, hk1, hk2, hk3, hlst⟩ := mov_steps HG.out HL.out HID1.out hp HLZ.out HNB.out ix
                rw [← HLE.out] at hk1 hk2 hk3 hlst HRD
                have HK1 := Aside0.mk hk1
                have HK2 := Aside0.mk hk2
                have HK3 := Aside0.mk hk3
                have HLS := Aside0.mk hlst
                have HPL := Aside0.mk (HG.out.kids_le hp)
                clear hp hk1 hk2 hk3 hlst
                have HBZ : Aside0 (Below wr.heap.size wr W20) := ⟨HRD.out.choose_spec.2.2.2⟩
                have qy2 := pw_cell_below HBZ.out qz2
                have HGE : Aside0 (wr.heap.size ≤ gx) := ⟨HRD.out.choose_spec.2.1⟩
                have HG11 : Aside0 (g11 < wr.heap.size) := ⟨World.block_lt_of_cell? _ _ qz2⟩
                obtain ⟨gL1, cc1, B1, e1, V1, t1, hgx1, hne1, hle1, hlt1, hcap1, y12, y13, y14, kfr1, hl1, hc1, p13, p14, p12⟩ := HRD.out.elem (fun k hk => HPK.out k (Nat.le_trans HBW.out.size hk)) k1 HK1.out.1
                rw [HK1.out.2.1] at y12 y13 y14 hl1 hc1 p13 p14 p12
                have HP1 := Aside0.mk p13
                have HLT1 : Aside0 (gL1 < W20.heap.size) := ⟨hlt1⟩
                have r1 := (blk_cell hgx1 0).trans (show _ = some (.slice (some ⟨gL1, 0, none⟩) L.length cc1) from rfl)
                have hnd1 : gL1 ≠ gx := hne1
                have kf1 := kfr1 3
                have z0 : (0 ≤ (k1 : Int)) = True := eq_true (by omega)
                have z1 : ((k1 : Int) < (L.length : Int)) = True := eq_true (by have := HK1.out.1; omega)
                have HBL1 : Aside0 (p.f3.length ≤ e1 ∧ Kd.C (Kd.int .i64) W20 B1 p.f3.length p.f3) := ⟨⟨hl1, hc1⟩⟩
                have hn11 : gL1 ≠ g11 := by have := HG11.out; omega
                obtain ⟨kw1, hkw1⟩ := rwithout_eq p.f3 id (by have := HPL.out; omega)
                obtain ⟨rr, hrr⟩ : ∃ r, r = p.f3.filter fun k => !(k == id) := ⟨_, rfl⟩
                rw [← hrr] at hkw1
                have HRR := Aside0.mk hrr
                have HKW1 := Aside0.mk hkw1
                have HAT1 : Aside0 (∀ W : World, Below W20.heap.size W20 W → Calls Try.prog 73 #[.pointer (some ⟨gx, 0, none⟩), .int .i64 x.f2] W fun e w' => e = .returned (.int .i64 (k1 : Int)) ∧ Below W.heap.size W w') := ⟨fun W hW => by
                  have h := at_calls _ L next x.f2 W ((HRD.out.step hW).doc)
                  rw [HK1.out.2.2] at h
                  exact h⟩
                clear hgx1 kfr1 p12 p13 p14 hne1 hle1 hlt1 hcap1 y12 y14 hl1 hc1 hrr hkw1 qz2
                refine wp_region_noPanic ?_
                refine wp_region_held_drew (S := (fun w' : World => w'.cell? ⟨gx, 0, none⟩ = some (.slice (some ⟨gL1, 0, none⟩) L.length cc1) ∧ w'.cell? ⟨g11, 2, none⟩ = some (.int .i64 x.f2))) (by kernel_rfl) ⟨r1, qy2⟩ (fun hHeld => ?_)
                refine wpAnyH_take (i := 0) (v := ?_) rfl (by kernel_rfl) (by kernel_rfl) (by kernel_rfl) (fun _ _ _ h => h) (Or.inl ⟨by rfl, ?_⟩) (by assumption) ?_
                rotate_left
                focus (intro w hSw; (try dsimp only at hSw); go_simp; try with_reducible rfl)
                try simp only [Act.put, List.setIfInBounds_toArray, List.set_cons_zero, List.set_cons_succ, List.getElem_toArray, List.getElem_cons_succ, List.getElem_cons_zero]
                refine wpAnyH_take (i := 1) (v := ?_) rfl (by kernel_rfl) (by kernel_rfl) (by kernel_rfl) (fun _ _ _ h => h) (Or.inl ⟨by rfl, ?_⟩) (by assumption) ?_
                rotate_left
                focus (intro w hSw; (try dsimp only at hSw); go_simp; try with_reducible rfl)
                try simp only [Act.put, List.setIfInBounds_toArray, List.set_cons_zero, List.set_cons_succ, List.getElem_toArray, List.getElem_cons_succ, List.getElem_cons_zero]
                refine wpAnyH_take (i := 2) (v := ?_) rfl (by kernel_rfl) (by kernel_rfl) (by kernel_rfl) (fun _ _ _ h => h) (Or.inl ⟨by rfl, ?_⟩) (by assumption) ?_
                rotate_left
                focus (intro w hSw; (try dsimp only at hSw); go_simp; try with_reducible rfl)
                try simp only [Act.put, List.setIfInBounds_toArray, List.set_cons_zero, List.set_cons_succ, List.getElem_toArray, List.getElem_cons_succ, List.getElem_cons_zero]
                refine wpAnyH_take (i := 3) (v := ?_) rfl (by kernel_rfl) (by kernel_rfl) (by kernel_rfl) (fun _ _ _ h => h) (Or.inl ⟨by rfl, ?_⟩) (by assumption) ?_
                rotate_left
                focus (intro w hSw; (try dsimp only at hSw); go_simp; try with_reducible rfl)
                try simp only [Act.put, List.setIfInBounds_toArray, List.set_cons_zero, List.set_cons_succ, List.getElem_toArray, List.getElem_cons_succ, List.getElem_cons_zero]
                refine wpAnyH_take (i := 4) (v := ?_) rfl (by kernel_rfl) (by kernel_rfl) (by kernel_rfl) (fun _ _ _ h => h) (Or.inl ⟨by rfl, ?_⟩) (by assumption) ?_
                rotate_left
                focus (intro w hSw; (try dsimp only at hSw); go_simp; try with_reducible rfl)
                try simp only [Act.put, List.setIfInBounds_toArray, List.set_cons_zero, List.set_cons_succ, List.getElem_toArray, List.getElem_cons_succ, List.getElem_cons_zero]
                refine wpAnyH_take (i := 5) (v := ?_) rfl (by kernel_rfl) (by kernel_rfl) (by kernel_rfl) (fun _ _ _ h => h) (Or.inl ⟨by rfl, ?_⟩) (by assumption) ?_
                rotate_left
                focus (intro w hSw; (try dsimp only at hSw); go_simp; try with_reducible rfl)
                try simp only [Act.put, List.setIfInBounds_toArray, List.set_cons_zero, List.set_cons_succ, List.getElem_toArray, List.getElem_cons_succ, List.getElem_cons_zero]
                refine wpAnyH_take (i := 6) (v := ?_) rfl (by kernel_rfl) (by kernel_rfl) (by kernel_rfl) (fun _ _ _ h => h) (Or.inl ⟨by rfl, ?_⟩) (by assumption) ?_
                rotate_left
                focus (intro w hSw; (try dsimp only at hSw); go_simp; try with_reducible rfl)
                try simp only [Act.put, List.setIfInBounds_toArray, List.set_cons_zero, List.set_cons_succ, List.getElem_toArray, List.getElem_cons_succ, List.getElem_cons_zero]
                refine wpAnyH_take (i := 8) (v := ?_) rfl (by kernel_rfl) (by kernel_rfl) (by kernel_rfl) (fun _ _ _ h => h) (Or.inl ⟨by rfl, ?_⟩) (by assumption) ?_
                rotate_left
                focus (intro w hSw; (try dsimp only at hSw); go_simp; try with_reducible rfl)
                try simp only [Act.put, List.setIfInBounds_toArray, List.set_cons_zero, List.set_cons_succ, List.getElem_toArray, List.getElem_cons_succ, List.getElem_cons_zero]
                refine wpAnyH_take (i := 9) (v := ?_) rfl (by kernel_rfl) (by kernel_rfl) (by kernel_rfl) (fun _ _ _ h => h) (Or.inl ⟨by rfl, ?_⟩) (by assumption) ?_
                rotate_left
                focus (intro w hSw; (try dsimp only at hSw); go_simp; try with_reducible rfl)
                try simp only [Act.put, List.setIfInBounds_toArray, List.set_cons_zero, List.set_cons_succ, List.getElem_toArray, List.getElem_cons_succ, List.getElem_cons_zero]
                refine wpAnyH_take (i := 10) (v := ?_) rfl (by kernel_rfl) (by kernel_rfl) (by kernel_rfl) (fun _ _ _ h => h) (Or.inl ⟨by rfl, ?_⟩) (by assumption) ?_
                rotate_left
                focus (intro w hSw; (try dsimp only at hSw); go_simp; try with_reducible rfl)
                try simp only [Act.put, List.setIfInBounds_toArray, List.set_cons_zero, List.set_cons_succ, List.getElem_toArray, List.getElem_cons_succ, List.getElem_cons_zero]
                refine wpAnyH_take (i := 11) (v := ?_) rfl (by kernel_rfl) (by kernel_rfl) (by kernel_rfl) (fun _ _ _ h => h) (Or.inl ⟨by rfl, ?_⟩) (by assumption) ?_
                rotate_left
                focus (intro w hSw; (try dsimp only at hSw); go_simp; try with_reducible rfl)
                try simp only [Act.put, List.setIfInBounds_toArray, List.set_cons_zero, List.set_cons_succ, List.getElem_toArray, List.getElem_cons_succ, List.getElem_cons_zero]
                refine wpAnyH_take (i := 12) (v := ?_) rfl (by kernel_rfl) (by kernel_rfl) (by kernel_rfl) (fun _ _ _ h => h) (Or.inl ⟨by rfl, ?_⟩) (by assumption) ?_
                rotate_left
                focus (intro w hSw; (try dsimp only at hSw); go_simp; try with_reducible rfl)
                try simp only [Act.put, List.setIfInBounds_toArray, List.set_cons_zero, List.set_cons_succ, List.getElem_toArray, List.getElem_cons_succ, List.getElem_cons_zero]
                refine wpAnyH_take (i := 13) (v := ?_) rfl (by kernel_rfl) (by kernel_rfl) (by kernel_rfl) (fun _ _ _ h => h) (Or.inl ⟨by rfl, ?_⟩) (by assumption) ?_
                rotate_left
                focus (intro w hSw; (try dsimp only at hSw); go_simp; try with_reducible rfl)
                try simp only [Act.put, List.setIfInBounds_toArray, List.set_cons_zero, List.set_cons_succ, List.getElem_toArray, List.getElem_cons_succ, List.getElem_cons_zero]
                refine wpAnyH_take (i := 14) (v := ?_) rfl (by kernel_rfl) (by kernel_rfl) (by kernel_rfl) (fun _ _ _ h => h) (Or.inl ⟨by rfl, ?_⟩) (by assumption) ?_
                rotate_left
                focus (intro w hSw; (try dsimp only at hSw); go_simp; try with_reducible rfl)
                try simp only [Act.put, List.setIfInBounds_toArray, List.set_cons_zero, List.set_cons_succ, List.getElem_toArray, List.getElem_cons_succ, List.getElem_cons_zero]
                refine wpAnyH_take (i := 19) (v := ?_) rfl (by kernel_rfl) (by kernel_rfl) (by kernel_rfl) (fun _ _ _ h => h) (Or.inl ⟨by rfl, ?_⟩) (by assumption) ?_
                rotate_left
                focus (intro w hSw; (try dsimp only at hSw); go_simp; try with_reducible rfl)
                try simp only [Act.put, List.setIfInBounds_toArray, List.set_cons_zero, List.set_cons_succ, List.getElem_toArray, List.getElem_cons_succ, List.getElem_cons_zero]
                refine wpAnyH_ready (rs := [7]) (by kernel_rfl) (by simp) ?_
                refine AllReadyH.cons rfl (fun K hK => ?_) AllReadyH.nil
                go_simp
                (go_at_call 73; (with_reducible refine (HAT1.out _ (by repeat (first | exact Below.refl _ _ | apply below_drew1 | apply pw_below_drewN))).mono ?_); rintro e W21 ⟨rfl, hb⟩; have HB21 := Aside0.mk (show Below W20.heap.size W20 W21 from ⟨hb.os, hb.tape, hb.output, hb.size, hb.block⟩); clear hb)
                refine hK.out _ _ ⟨pw_cell_below HB21.out r1, pw_cell_below HB21.out qy2⟩ (fun hHeld2 => ?_)
                clear hK K
                try simp only [Act.put, List.setIfInBounds_toArray, List.set_cons_zero, List.set_cons_succ, List.getElem_toArray, List.getElem_cons_succ, List.getElem_cons_zero]
                refine wpAnyH_ready (rs := [15]) (by kernel_rfl) (by simp) ?_
                refine AllReadyH.cons rfl (fun K hK => ?_) AllReadyH.nil
                go_simp
                (go_at_call 73; (with_reducible refine (HAT1.out _ (by repeat (first | exact HB21.out | apply below_drew1 | apply pw_below_drewN))).mono ?_); rintro e W22 ⟨rfl, hb⟩; have HB22 := Aside0.mk (below_then HB21.out HB21.out.size (show Below W21.heap.size W21 W22 from ⟨hb.os, hb.tape, hb.output, hb.size, hb.block⟩)); have y132 := pw_cell_below HB22.out y13; clear hb)
                refine hK.out _ _ ⟨pw_cell_below HB22.out r1, pw_cell_below HB22.out qy2⟩ (fun hHeld2 => ?_)
                clear hK K
                try simp only [Act.put, List.setIfInBounds_toArray, List.set_cons_zero, List.set_cons_succ, List.getElem_toArray, List.getElem_cons_succ, List.getElem_cons_zero]
                refine wpAnyH_take (i := 16) (v := ?_) rfl (by kernel_rfl) (by kernel_rfl) (by kernel_rfl) (fun _ _ _ h => h) (Or.inl ⟨by rfl, ?_⟩) (by assumption) ?_
                rotate_left
                focus (intro w hSw; (try dsimp only at hSw); go_simp; try with_reducible rfl)
                try simp only [Act.put, List.setIfInBounds_toArray, List.set_cons_zero, List.set_cons_succ, List.getElem_toArray, List.getElem_cons_succ, List.getElem_cons_zero]
                refine wpAnyH_take (i := 17) (v := ?_) rfl (by kernel_rfl) (by kernel_rfl) (by kernel_rfl) (fun _ _ _ h => h) (Or.inl ⟨by rfl, ?_⟩) (by assumption) ?_
                rotate_left
                focus (intro w hSw; (try dsimp only at hSw); go_simp; try with_reducible rfl)
                try simp only [Act.put, List.setIfInBounds_toArray, List.set_cons_zero, List.set_cons_succ, List.getElem_toArray, List.getElem_cons_succ, List.getElem_cons_zero]
                refine wpAnyH_ready (rs := [18]) (by kernel_rfl) (by simp) ?_
                refine AllReadyH.cons rfl (fun K hK => ?_) AllReadyH.nil
                go_simp
                refine hK.out _ _ ⟨pw_cell_below HB22.out r1, pw_cell_below HB22.out qy2⟩ (fun hHeld2 => ?_)
                clear hK K
                try simp only [Act.put, List.setIfInBounds_toArray, List.set_cons_zero, List.set_cons_succ, List.getElem_toArray, List.getElem_cons_succ, List.getElem_cons_zero]
                refine wpAnyH_ready (rs := [20]) (by kernel_rfl) (by simp) ?_
                refine AllReadyH.cons rfl (fun K hK => ?_) AllReadyH.nil
                go_simp
                (go_at_call 98; (with_reducible refine (gouacheref07_without.calls kw1 B1 e1 p.f3 id rr _ (Kd.C_below HBL1.out.2 (by repeat (first | exact HB22.out | apply below_drew1 | apply pw_below_drewN))) HBL1.out.1 HKW1.out).mono ?_); rintro e W23 ⟨v0, rfl, hR, hb⟩; obtain ⟨C1, d1, rfl⟩ := Kd.R_slice hR; have HR23 := Aside0.mk hR; have HB223 := Aside0.mk (show Below W22.heap.size W22 W23 from ⟨hb.os, hb.tape, hb.output, hb.size, hb.block⟩); have HB23 := Aside0.mk (below_then HB22.out HB22.out.size HB223.out); have y133 := pw_cell_below HB23.out y13; have kf13 := (HB23.out.frozen HLT1.out).trans kf1; clear hR hb)
                refine hK.out _ _ ⟨pw_cell_below HB23.out r1, pw_cell_below HB23.out qy2⟩ (fun hHeld2 => ?_)
                clear hK K
                try simp only [Act.put, List.setIfInBounds_toArray, List.set_cons_zero, List.set_cons_succ, List.getElem_toArray, List.getElem_cons_succ, List.getElem_cons_zero]
                refine wpAnyH_take (i := 21) (v := ?_) rfl (by kernel_rfl) (by kernel_rfl) (by kernel_rfl) (fun _ _ _ h => h) (Or.inl ⟨by rfl, ?_⟩) (by assumption) ?_
                rotate_left
                focus (intro w hSw; (try dsimp only at hSw); go_simp; try with_reducible rfl)
                try simp only [Act.put, List.setIfInBounds_toArray, List.set_cons_zero, List.set_cons_succ, List.getElem_toArray, List.getElem_cons_succ, List.getElem_cons_zero]
                refine wpAnyH_take (i := 22) (v := ?_) rfl (by kernel_rfl) (by kernel_rfl) (by kernel_rfl) (fun _ _ _ h => h) (Or.inl ⟨by rfl, ?_⟩) (by assumption) ?_
                rotate_left
                focus (intro w hSw; (try dsimp only at hSw); go_simp; try with_reducible rfl)
                try simp only [Act.put, List.setIfInBounds_toArray, List.set_cons_zero, List.set_cons_succ, List.getElem_toArray, List.getElem_cons_succ, List.getElem_cons_zero]
                refine wpAnyH_ready (rs := [23]) (by kernel_rfl) (by simp) ?_
                refine AllReadyH.cons rfl (fun K hK => ?_) AllReadyH.nil
                go_simp
                refine hK.out _ _ ?_ (fun hHeld2 => ?_)
                · go_keep
                clear hK K
                try simp only [Act.put, List.setIfInBounds_toArray, List.set_cons_zero, List.set_cons_succ, List.getElem_toArray, List.getElem_cons_succ, List.getElem_cons_zero]
                refine wpAnyH_done (by kernel_rfl) ?_ _
                refine NoPanic.normal ?_
                have HD24 : Aside0 (RDN ok wr (W23.setCell ⟨gL1, k1 * 5 + 3, none⟩ (.slice C1 rr.length d1)) gx (L.set k1 (loseA id p)) next) := ⟨by
                  have e : rr = (loseA id p).f3 := HRR.out
                  have hR := Kd.R_lower HR23.out (base' := W20.heap.size) (by have := HB22.out.size; show W20.heap.size ≤ W22.heap.size; omega)
                  rw [e] at hR ⊢
                  exact HP1.out W23 C1 d1 (loseA id p).f3 HB23.out hR⟩
                generalize W23.setCell ⟨gL1, k1 * 5 + 3, none⟩ (.slice C1 rr.length d1) = W24 at HD24 ⊢
                clear r1 qy2 y13 y132 y133 kf1 kf13 hnd1 hn11 z0 z1
                go_upto_region 18 with (fail)
                have HBZ4 : Aside0 (Below wr.heap.size wr W24) := ⟨HD24.out.choose_spec.2.2.2⟩
                obtain ⟨L1, hL1⟩ : ∃ l, l = L.set k1 (loseA id p) := ⟨_, rfl⟩
                rw [← hL1] at HD24 HK2 HK3 HLS
                clear hL1
                obtain ⟨gL2, cc2, B2, e2, V2, t2, hgx2, hne2, hle2, hlt2, hcap2, y22, y23, y24, kfr2, hl2, hc2, p23, p24, p22⟩ := HD24.out.elem (fun k hk => HPK.out k (Nat.le_trans HBW.out.size hk)) k2 HK2.out.1
                rw [HK2.out.2.1] at y22 y23 y24 hl2 hc2 p23 p24 p22
                have HP2 := Aside0.mk p23
                have HLT2 : Aside0 (gL2 < W24.heap.size) := ⟨hlt2⟩
                have r2 := (blk_cell hgx2 0).trans (show _ = some (.slice (some ⟨gL2, 0, none⟩) L1.length cc2) from rfl)
                have hnd2 : gL2 ≠ gx := hne2
                have kf2 := kfr2 3
                have z0 : (0 ≤ (k2 : Int)) = True := eq_true (by omega)
                have z1 : ((k2 : Int) < (L1.length : Int)) = True := eq_true (by have := HK2.out.1; omega)
                have HCK4 : Aside0 (Kd.C (Kd.int .i64) W24 K3 kz.length kz) := ⟨Kd.C_below HCK.out.2 HBZ4.out⟩
                have HKZL : Aside0 (kz.length ≤ 1099511627776) := ⟨by have := List.length_filter_le (fun k : Int => !(k == id)) z.f3; have := HZS.out; rw [HKZ.out]; omega⟩
                have HAT2 : Aside0 (∀ W : World, Below W24.heap.size W24 W → Calls Try.prog 73 #[.pointer (some ⟨gx, 0, none⟩), .int .i64 q] W fun e w' => e = .returned (.int .i64 (k2 : Int)) ∧ Below W.heap.size W w') := ⟨fun W hW => by
                  have h := at_calls _ L1 next q W ((HD24.out.step hW).doc)
                  rw [HK2.out.2.2] at h
                  exact h⟩
                have HWITH : Aside0 (∀ W : World, Below W24.heap.size W24 W → Calls Try.prog 96 #[.slice K3 kz.length ek, .int .i64 (ix : Int), .int .i64 id] W fun e w' => ∃ B d, e = .returned (.slice B (kz.length + 1) d) ∧ Kd.R (Kd.int .i64) 3 w' W24.heap.size (fun _ => True) (.slice B (kz.length + 1) d) (gainA ix id (loseA id z)).f3 ∧ Below W.heap.size W w') := ⟨fun W hW => by
                  have hC := Kd.C_below HCK4.out hW
                  refine (rwith_calls kz K3 ek ix id W hC HCK.out.1 (by have := HIX.out.2; omega) HKZL.out).mono ?_
                  rintro e w' ⟨v', rfl, hR, hb⟩
                  obtain ⟨B, d, rfl⟩ := Kd.R_slice hR
                  have el : (kz.take ix ++ [id] ++ kz.drop ix).length = kz.length + 1 := by have := HIX.out.2; simp; omega
                  have ez : kz = (loseA id z).f3 := HKZ.out
                  rw [el] at hR ⊢
                  refine ⟨B, d, rfl, ?_, hb⟩
                  have h2 := Kd.R_lower hR hW.size
                  show Kd.R _ _ _ _ _ _ ((loseA id z).f3.take ix ++ [id] ++ (loseA id z).f3.drop ix)
                  rw [← ez]
                  exact h2⟩
                clear hgx2 kfr2 p22 p23 p24 hne2 hle2 hlt2 hcap2 y22 y24 hl2 hc2
                go_region_held3 (fun w' => w'.cell? ⟨gx, 0, none⟩ = some (.slice (some ⟨gL2, 0, none⟩) L1.length cc2)) (first | go_keep | exact pw_cell_below HB26.out r2 | exact pw_cell_below HB25.out r2) (first | (go_at_call 73; (with_reducible refine (HAT2.out _ (by repeat (first | exact Below.refl _ _ | apply below_drew1 | apply pw_below_drewN))).mono ?_); rintro e W25 ⟨rfl, hb⟩; have HB25 := Aside0.mk (show Below W24.heap.size W24 W25 from ⟨hb.os, hb.tape, hb.output, hb.size, hb.block⟩); clear hb) | (go_at_call 96; (with_reducible refine (HWITH.out _ (by repeat (first | exact HB25.out | apply below_drew1 | apply pw_below_drewN))).mono ?_); rintro e W26 ⟨C2, d2', rfl, hR, hb⟩; have HR26 := Aside0.mk hR; have HB26 := Aside0.mk (below_then HB25.out HB25.out.size (show Below W25.heap.size W25 W26 from ⟨hb.os, hb.tape, hb.output, hb.size, hb.block⟩)); have y236 := pw_cell_below HB26.out y23; have kf26 := (HB26.out.frozen HLT2.out).trans kf2; clear hR hb) | fail)
                have HD27 : Aside0 (RDN ok wr (W26.setCell ⟨gL2, k2 * 5 + 3, none⟩ (.slice C2 (kz.length + 1) d2')) gx (L1.set k2 (gainA ix id (loseA id z))) next) := ⟨by
                  have ez : kz = (loseA id z).f3 := HKZ.out
                  have el : (gainA ix id (loseA id z)).f3.length = kz.length + 1 := by
                    show ((loseA id z).f3.take ix ++ [id] ++ (loseA id z).f3.drop ix).length = _
                    rw [← ez]; have := HIX.out.2; simp; omega
                  have h := HP2.out W26 C2 d2' (gainA ix id (loseA id z)).f3 HB26.out (by rw [el]; exact HR26.out)
                  rw [el] at h
                  exact h⟩
                generalize W26.setCell ⟨gL2, k2 * 5 + 3, none⟩ (.slice C2 (kz.length + 1) d2') = W27 at HD27 ⊢
                clear r2 y23 y236 kf2 kf26 hnd2 z0 z1
                go_upto_region 19 with (fail)
                have HBZ7 : Aside0 (Below wr.heap.size wr W27) := ⟨HD27.out.choose_spec.2.2.2⟩
                obtain ⟨L2, hL2⟩ : ∃ l, l = L1.set k2 (gainA ix id (loseA id z)) := ⟨_, rfl⟩
                rw [← hL2] at HD27 HK3 HLS
                clear hL2
                obtain ⟨gL3, cc3, B3, e3, V3, t3, hgx3, hne3, hle3, hlt3, hcap3, y32, y33, y34, kfr3, hl3, hc3, p33, p34, p32⟩ := HD27.out.elem (fun k hk => HPK.out k (Nat.le_trans HBW.out.size hk)) k3 HK3.out.1
                rw [HK3.out.2.1] at y32 y33 y34 hl3 hc3 p33 p34 p32
                have HP3 := Aside0.mk p32
                have HLT3 : Aside0 (gL3 < W27.heap.size) := ⟨hlt3⟩
                have r3 := (blk_cell hgx3 0).trans (show _ = some (.slice (some ⟨gL3, 0, none⟩) L2.length cc3) from rfl)
                have hnd3 : gL3 ≠ gx := hne3
                have kf3 := kfr3 2
                have z0 : (0 ≤ (k3 : Int)) = True := eq_true (by omega)
                have z1 : ((k3 : Int) < (L2.length : Int)) = True := eq_true (by have := HK3.out.1; omega)
                have HAT3 : Aside0 (∀ W : World, Below W27.heap.size W27 W → Calls Try.prog 73 #[.pointer (some ⟨gx, 0, none⟩), .int .i64 id] W fun e w' => e = .returned (.int .i64 (k3 : Int)) ∧ Below W.heap.size W w') := ⟨fun W hW => by
                  have h := at_calls _ L2 next id W ((HD27.out.step hW).doc)
                  rw [HK3.out.2.2] at h
                  exact h⟩
                clear hgx3 kfr3 p32 p33 p34 hne3 hle3 hlt3 hcap3 y33 y34 hl3 hc3
                go_region_held3 (fun w' => w'.cell? ⟨gx, 0, none⟩ = some (.slice (some ⟨gL3, 0, none⟩) L2.length cc3)) (first | go_keep | exact pw_cell_below HB28.out r3) (first | (go_at_call 73; (with_reducible refine (HAT3.out _ (by repeat (first | exact Below.refl _ _ | apply below_drew1 | apply pw_below_drewN))).mono ?_); rintro e W28 ⟨rfl, hb⟩; have HB28 := Aside0.mk (show Below W27.heap.size W27 W28 from ⟨hb.os, hb.tape, hb.output, hb.size, hb.block⟩); have y328 := pw_cell_below HB28.out y32; have kf38 := (HB28.out.frozen HLT3.out).trans kf3; clear hb) | fail)
                have HD29 : Aside0 (RDN ok wr (W28.setCell ⟨gL3, k3 * 5 + 2, none⟩ (.int .i64 q)) gx (L2.set k3 (ownA q x)) next) := ⟨HP3.out W28 q HB28.out⟩
                generalize W28.setCell ⟨gL3, k3 * 5 + 2, none⟩ (.int .i64 q) = W29 at HD29 ⊢
                have HDD29 : Aside0 (RDO ok W29 (.pointer (some ⟨gx, 0, none⟩)) F' next) := ⟨by
                  have hd := HD29.out.docO (fun k hk => HPK.out k (Nat.le_trans HBW.out.size hk))
                  have h := HF.out
                  rw [HE0.out, if_pos rfl, HL.out, Int.toNat_natCast] at h
                  have h2 : F' = movF f id x.f2 q ix := h
                  show RDocO _ _ _ (lst _ _) _
                  rw [h2, HLS.out]; exact hd⟩
                have HBF : Aside0 (Below w.heap.size w W29) := ⟨below_then HBW.out HBW.out.size HD29.out.choose_spec.2.2.2⟩
                go_wp2_with fail
                go_ret2
                exact ⟨_, by rw [HE0.out]; rfl, HDD29.out, HBF.out⟩
end Go.Proofs.Ytpnlbmeeihbjaaa.P
end
section
set_option linter.unusedVariables false
set_option linter.unusedSimpArgs false
namespace Go.Proofs.Ytpnlbmeeihbjaaa.P
open Go.RowKit Go.Proofs.YtpnlbmeeihbjaaaW.PrintWords Go.Proofs.YtpnlbmeeihbjaaaW.PrintLast Go.Proofs.YtpnlbmeeihbjaaaW.PrintMore
attribute [local go_sem] max2_int min2_int max_two min_two max_three min_three max_four min_four
set_option linter.unusedVariables false
set_option linter.unusedSimpArgs false
theorem rins_calls (ok : Nat → Prop) (v : Value) (f : Nat → Option S40) (next p i : Int) (tag : ByteArray) (w : World) (hfresh : ∀ j : Nat, w.heap.size ≤ j → ok j) (h : RDO ok w v f next) (hg : Good f next) (ht : tag.size ≤ 140737488355328) :
    Calls Try.prog 68 #[v, .int .i64 p, .int .i64 i, .string tag] w fun e w' => ∃ u, e = .returned (.tuple #[u, .int .i64 (if insE f next p i (nameB tag) (ch f p).length = 0 then next else 0), .int .i64 (insE f next p i (nameB tag) (ch f p).length)]) ∧ RDO ok w' u (if insE f next p i (nameB tag) (ch f p).length = 0 then insF f next p i.toNat tag else f) (if insE f next p i (nameB tag) (ch f p).length = 0 then next + 1 else next) ∧ Below w.heap.size w w' := by
  by_cases he : insE f next p i (nameB tag) (ch f p).length = 0
  · obtain ⟨y, _, hi0, _⟩ := insE_zero he
    obtain ⟨j, rfl⟩ := Int.eq_ofNat_of_zero_le hi0
    refine (rins_yes ok v f next p j tag w hfresh h hg ht he).mono ?_
    rintro e w' ⟨u, rfl, hd, hb⟩
    rw [if_pos he, if_pos he, if_pos he, he]
    exact ⟨u, rfl, hd, hb⟩
  · refine (rins_no v f next p i tag w h.rd hg ht he).mono ?_
    rintro e w' ⟨rfl, hb⟩
    rw [if_neg he, if_neg he, if_neg he]
    exact ⟨v, rfl, h.below hb, hb⟩
end Go.Proofs.Ytpnlbmeeihbjaaa.P
end
section
set_option linter.unusedVariables false
set_option linter.unusedSimpArgs false
namespace Go.Proofs.Ytpnlbmeeihbjaaa.P
open Go.RowKit Go.Proofs.YtpnlbmeeihbjaaaW.PrintWords Go.Proofs.YtpnlbmeeihbjaaaW.PrintLast Go.Proofs.YtpnlbmeeihbjaaaW.PrintMore
attribute [local go_sem] max2_int min2_int max_two min_two max_three min_three max_four min_four
set_option linter.unusedVariables false
set_option linter.unusedSimpArgs false
theorem lst_new (tag : ByteArray) : lst (newF tag) 2 = [el 1 tag 0] := by
  have hl : ∀ j, look (newF tag) j = if j = 1 then some (el 1 tag 0) else none := fun j => by
    unfold newF
    rw [look_put _ _ _ _ (by omega) (by omega)]
    split
    · rfl
    · unfold look; split <;> rfl
  rw [show (2 : Nat) = 1 + 1 from rfl, lst_succ, show (1 : Nat) = 0 + 1 from rfl, lst_succ, lst_zero, hl, hl]
  rfl
set_option maxHeartbeats 8000000 in
set_option maxRecDepth 100000 in
theorem rnew_calls (ok : Nat → Prop) (tag : ByteArray) (w : World) (hfresh : ∀ k, w.heap.size ≤ k → ok k) (ht : tag.size ≤ 140737488355328) :
    Calls Try.prog 67 #[.string tag] w fun e w' => ∃ u, e = .returned (.tuple #[u, .int .i64 (if nameB tag then 0 else 7)]) ∧ (if nameB tag then (∃ g : Nat, u = .pointer (some ⟨g, 0, none⟩)) ∧ RDO ok w' u (newF tag) 2 else u = .pointer none) ∧ Below w.heap.size w w' := by
  have HPK := Aside0.mk hfresh
  clear hfresh
  obtain ⟨kn, hkn⟩ := rname_eq tag ht
  have hu40 := Try.underlying40
  have hu104 := Try.underlying104
  have hu102 := Try.underlying102
  cases hnm : nameB tag with
  | false =>
    rw [hnm] at hkn
    have HNQ := Aside0.mk hkn
    clear hkn
    go_enter Try.func67, Try.ntmps67
    go_wp2_with (first | (go_at_call 94; refine (gouacheref01_Name.calls kn tag _ _ HNQ.out).mono ?_; rintro e W1 ⟨rfl, hdr⟩; have HB1 : Aside0 (Below w.heap.size w W1) := ⟨(by obtain ⟨m, rfl⟩ := hdr; repeat (first | exact Below.refl _ _ | apply below_drew1 | apply pw_below_drewN))⟩; clear hdr) | fail)
    go_ret2
    exact ⟨_, rfl, rfl, HB1.out⟩
  | true =>
    rw [hnm] at hkn
    have HNQ := Aside0.mk hkn
    clear hkn
    go_enter Try.func67, Try.ntmps67
    go_wp2_with (first | (go_at_call 94; refine (gouacheref01_Name.calls kn tag _ _ HNQ.out).mono ?_; rintro e W1 ⟨rfl, hdr⟩; have HB1 : Aside0 (Below w.heap.size w W1) := ⟨(by obtain ⟨m, rfl⟩ := hdr; repeat (first | exact Below.refl _ _ | apply below_drew1 | apply pw_below_drewN))⟩; clear hdr) | fail)
    go_ret2
    have h1 := blk_new W1 (.cells [.int .i64 1, .string tag, .int .i64 0, .slice none 0 0, .slice none 0 0].toArray 40)
    have h2 := blk_new (W1.alloc (.cells [.int .i64 1, .string tag, .int .i64 0, .slice none 0 0, .slice none 0 0].toArray 40)) (.cells #[.slice (some ⟨W1.heap.size, 0, none⟩) 1 1, .int .i64 2] 104)
    rw [World.size_alloc] at h2
    have hb2 : Below (W1.alloc (.cells [.int .i64 1, .string tag, .int .i64 0, .slice none 0 0, .slice none 0 0].toArray 40)).heap.size (W1.alloc (.cells [.int .i64 1, .string tag, .int .i64 0, .slice none 0 0, .slice none 0 0].toArray 40)) ((W1.alloc (.cells [.int .i64 1, .string tag, .int .i64 0, .slice none 0 0, .slice none 0 0].toArray 40)).alloc (.cells #[.slice (some ⟨W1.heap.size, 0, none⟩) 1 1, .int .i64 2] 104)) := below_alloc (Below.refl _ _) _
    refine ⟨_, rfl, ⟨⟨_, rfl⟩, ?_⟩, below_alloc (below_alloc HB1.out _) _⟩
    show RDocO _ _ _ (lst (newF tag) 2) 2
    rw [lst_new]
    have hsz := HB1.out.size
    refine ⟨_, some ⟨W1.heap.size, 0, none⟩, 1, rfl, HPK.out _ (by omega), h2, Nat.le_refl _, fun W' hW' => ?_⟩
    refine ⟨rfl, by simp, fun hp => ⟨⟨W1.heap.size, 0, none⟩, rfl, fun j p hj => ?_⟩⟩
    cases j with
    | succ j => simp at hj
    | zero =>
      obtain rfl := Option.some.inj hj
      refine ⟨[.int .i64 1, .string tag, .int .i64 0, .slice none 0 0, .slice none 0 0], rfl, el_K _ 1 tag 0, fun m u hm => ?_⟩
      have hh := blk_below h1 hb2
      have h := blk_cell ((hW' W1.heap.size (HPK.out _ (by omega)) (blk_lt hh)).trans hh) m
      rw [add_plain]
      rw [show 0 * k40.sz + m = m by omega]
      rw [h]
      rw [List.getElem?_toArray]
      exact hm
end Go.Proofs.Ytpnlbmeeihbjaaa.P
end
section
set_option linter.unusedVariables false
set_option linter.unusedSimpArgs false
namespace Go.Proofs.Ytpnlbmeeihbjaaa.P
open Go.RowKit Go.Proofs.YtpnlbmeeihbjaaaW.PrintWords Go.Proofs.YtpnlbmeeihbjaaaW.PrintLast Go.Proofs.YtpnlbmeeihbjaaaW.PrintMore
attribute [local go_sem] max2_int min2_int max_two min_two max_three min_three max_four min_four
set_option linter.unusedVariables false
set_option linter.unusedSimpArgs false
def Stp3 (D : World → Value → Prop) (w : World) : Ending → World → Prop := fun e w' => ∃ v' x y, e = .returned (.tuple #[v', .int .i64 x, .int .i64 y]) ∧ D w' v' ∧ Below w.heap.size w w'
def Stp2 (D : World → Value → Prop) (w : World) : Ending → World → Prop := fun e w' => ∃ v' y, e = .returned (.tuple #[v', .int .i64 y]) ∧ D w' v' ∧ Below w.heap.size w w'
section
variable {f : Nat → Option S40} {next : Int}
theorem actN_ne (a : S52) (h : a.f0 ≠ 0) : actN f next a = next := if_neg (fun c => h c.1)
theorem act_else (a : S52) (h0 : a.f0 ≠ 0) (h1 : a.f0 ≠ 1) (h2 : a.f0 ≠ 2) (h3 : a.f0 ≠ 3) (h4 : a.f0 ≠ 4) : actF f next a = f ∧ actN f next a = next := by
  refine ⟨?_, actN_ne a h0⟩
  unfold actF
  rw [if_neg h0, if_neg h1, if_neg h2, if_neg h3, if_neg h4]
  split <;> rfl
theorem actE0 (a : S52) (h : a.f0 = 0) : actE f next a = insE f next a.f1 a.f2 (nameB a.f4) (ch f a.f1).length := by unfold actE; rw [if_pos h]
theorem actF0 (a : S52) (h : a.f0 = 0) : actF f next a = if actE f next a ≠ 0 then f else insF f next a.f1 a.f2.toNat a.f4 := by unfold actF; rw [if_pos h]
theorem actE1 (a : S52) (h : a.f0 = 1) : actE f next a = remE f a.f1 := by unfold actE; rw [if_neg (show ¬ a.f0 = 0 by omega), if_pos h]
theorem actF1 (a : S52) (h : a.f0 = 1) : actF f next a = if actE f next a ≠ 0 then f else remF f a.f1 ((look f a.f1).getD z40).f2 (belR f a.f1) := by unfold actF; rw [if_neg (show ¬ a.f0 = 0 by omega), if_pos h]
theorem actE2 (a : S52) (h : a.f0 = 2) : actE f next a = movE f a.f1 a.f2 a.f3 (decide (a.f1 ∈ ch f a.f2)) (ch f a.f2).length (talD f a.f1) := by unfold actE; rw [if_neg (show ¬ a.f0 = 0 by omega), if_neg (show ¬ a.f0 = 1 by omega), if_pos h]
theorem actF2 (a : S52) (h : a.f0 = 2) : actF f next a = if actE f next a ≠ 0 then f else movF f a.f1 ((look f a.f1).getD z40).f2 a.f2 a.f3.toNat := by unfold actF; rw [if_neg (show ¬ a.f0 = 0 by omega), if_neg (show ¬ a.f0 = 1 by omega), if_pos h]
theorem actE3 (a : S52) (h : a.f0 = 3) : actE f next a = setE f a.f1 a.f4 a.f5 (nameB a.f4) := by unfold actE; rw [if_neg (show ¬ a.f0 = 0 by omega), if_neg (show ¬ a.f0 = 1 by omega), if_neg (show ¬ a.f0 = 2 by omega), if_pos h]
theorem actF3 (a : S52) (h : a.f0 = 3) : actF f next a = if actE f next a ≠ 0 then f else setF f a.f1 a.f4 a.f5 := by unfold actF; rw [if_neg (show ¬ a.f0 = 0 by omega), if_neg (show ¬ a.f0 = 1 by omega), if_neg (show ¬ a.f0 = 2 by omega), if_pos h]
theorem actE4 (a : S52) (h : a.f0 = 4) : actE f next a = drpE f a.f1 a.f4 := by unfold actE; rw [if_neg (show ¬ a.f0 = 0 by omega), if_neg (show ¬ a.f0 = 1 by omega), if_neg (show ¬ a.f0 = 2 by omega), if_neg (show ¬ a.f0 = 3 by omega), if_pos h]
theorem actF4 (a : S52) (h : a.f0 = 4) : actF f next a = if actE f next a ≠ 0 then f else drpF f a.f1 a.f4 := by unfold actF; rw [if_neg (show ¬ a.f0 = 0 by omega), if_neg (show ¬ a.f0 = 1 by omega), if_neg (show ¬ a.f0 = 2 by omega), if_neg (show ¬ a.f0 = 3 by omega), if_pos h]
theorem actN0 (a : S52) (h : a.f0 = 0) : actN f next a = if actE f next a = 0 then next + 1 else next := by unfold actN; by_cases e : actE f next a = 0 <;> simp [h, e]
theorem dstep0 (v : Value) (a : S52) (w : World) (h : DocO (fun _ => True) w v f next) (hg : Good f next) (hk : a.f0 = 0) (hs : a.f4.size ≤ 140737488355328 ∧ a.f5.size ≤ 140737488355328) :
    Calls Try.prog 32 #[v, .int .i64 a.f1, .int .i64 a.f2, .string a.f4] w (Stp3 (fun w' v' => DocO (fun _ => True) w' v' (actF f next a) (actN f next a)) w) := by
  refine (ins_act (fun _ => True) v a.f1 a.f2 a.f4 w (fun _ _ => trivial) h hg (actE f next a) (actE0 a hk)).mono ?_
  rintro e w' ⟨v', rfl, hd, hb, _⟩
  exact ⟨v', _, _, rfl, by rw [actF0 a hk, actN0 a hk]; exact hd, hb⟩
theorem rstep0 (v : Value) (a : S52) (w : World) (h : RDO (fun _ => True) w v f next) (hg : Good f next) (hk : a.f0 = 0) (hs : a.f4.size ≤ 140737488355328 ∧ a.f5.size ≤ 140737488355328) :
    Calls Try.prog 68 #[v, .int .i64 a.f1, .int .i64 a.f2, .string a.f4] w (Stp3 (fun w' v' => RDO (fun _ => True) w' v' (actF f next a) (actN f next a)) w) := by
  refine (rins_calls (fun _ => True) v f next a.f1 a.f2 a.f4 w (fun _ _ => trivial) h hg (by omega)).mono ?_
  rintro e w' ⟨v', rfl, hd, hb⟩
  rw [← actE0 (f := f) (next := next) a hk] at hd
  exact ⟨v', _, _, rfl, by rw [actF0 a hk, actN0 a hk, ite_not]; exact hd, hb⟩
theorem dstep1 (v : Value) (a : S52) (w : World) (h : DocO (fun _ => True) w v f next) (hg : Good f next) (hk : a.f0 = 1) (hs : a.f4.size ≤ 140737488355328 ∧ a.f5.size ≤ 140737488355328) :
    Calls Try.prog 33 #[v, .int .i64 a.f1] w (Stp2 (fun w' v' => DocO (fun _ => True) w' v' (actF f next a) (actN f next a)) w) := by
  refine (rem_act (fun _ => True) v a.f1 w (fun _ _ => trivial) h hg (actE f next a) (actE1 a hk)).mono ?_
  rintro e w' ⟨v', rfl, hd, hb, _⟩
  exact ⟨v', _, rfl, by rw [actF1 a hk, actN_ne a (by omega)]; exact hd, hb⟩
theorem rstep1 (v : Value) (a : S52) (w : World) (h : RDO (fun _ => True) w v f next) (hg : Good f next) (hk : a.f0 = 1) (hs : a.f4.size ≤ 140737488355328 ∧ a.f5.size ≤ 140737488355328) :
    Calls Try.prog 69 #[v, .int .i64 a.f1] w (Stp2 (fun w' v' => RDO (fun _ => True) w' v' (actF f next a) (actN f next a)) w) := by
  refine (rrem_calls (fun _ => True) v f next a.f1 w (fun _ _ => trivial) h hg).mono ?_
  rintro e w' ⟨v', rfl, hd, hb⟩
  rw [← actE1 (f := f) (next := next) a hk] at hd
  exact ⟨v', _, rfl, by rw [actF1 a hk, actN_ne a (by omega), ite_not]; exact hd, hb⟩
theorem dstep2 (v : Value) (a : S52) (w : World) (h : DocO (fun _ => True) w v f next) (hg : Good f next) (hk : a.f0 = 2) (hs : a.f4.size ≤ 140737488355328 ∧ a.f5.size ≤ 140737488355328) :
    Calls Try.prog 34 #[v, .int .i64 a.f1, .int .i64 a.f2, .int .i64 a.f3] w (Stp2 (fun w' v' => DocO (fun _ => True) w' v' (actF f next a) (actN f next a)) w) := by
  refine (mov_act (fun _ => True) v a.f1 a.f2 a.f3 w (fun _ _ => trivial) h hg (actE f next a) (actE2 a hk)).mono ?_
  rintro e w' ⟨v', rfl, hd, hb, _⟩
  exact ⟨v', _, rfl, by rw [actF2 a hk, actN_ne a (by omega)]; exact hd, hb⟩
theorem rstep2 (v : Value) (a : S52) (w : World) (h : RDO (fun _ => True) w v f next) (hg : Good f next) (hk : a.f0 = 2) (hs : a.f4.size ≤ 140737488355328 ∧ a.f5.size ≤ 140737488355328) :
    Calls Try.prog 70 #[v, .int .i64 a.f1, .int .i64 a.f2, .int .i64 a.f3] w (Stp2 (fun w' v' => RDO (fun _ => True) w' v' (actF f next a) (actN f next a)) w) := by
  refine (rmov_calls (fun _ => True) v f next a.f1 a.f2 a.f3 w (fun _ _ => trivial) h hg).mono ?_
  rintro e w' ⟨v', rfl, hd, hb⟩
  rw [← actE2 (f := f) (next := next) a hk] at hd
  exact ⟨v', _, rfl, by rw [actF2 a hk, actN_ne a (by omega), ite_not]; exact hd, hb⟩
theorem dstep3 (v : Value) (a : S52) (w : World) (h : DocO (fun _ => True) w v f next) (hg : Good f next) (hk : a.f0 = 3) (hs : a.f4.size ≤ 140737488355328 ∧ a.f5.size ≤ 140737488355328) :
    Calls Try.prog 35 #[v, .int .i64 a.f1, .string a.f4, .string a.f5] w (Stp2 (fun w' v' => DocO (fun _ => True) w' v' (actF f next a) (actN f next a)) w) := by
  refine (set_act (fun _ => True) v a.f1 a.f4 a.f5 w (fun _ _ => trivial) h hg (by omega) (actE f next a) (actE3 a hk)).mono ?_
  rintro e w' ⟨v', rfl, hd, hb, _⟩
  exact ⟨v', _, rfl, by rw [actF3 a hk, actN_ne a (by omega)]; exact hd, hb⟩
theorem rstep3 (v : Value) (a : S52) (w : World) (h : RDO (fun _ => True) w v f next) (hg : Good f next) (hk : a.f0 = 3) (hs : a.f4.size ≤ 140737488355328 ∧ a.f5.size ≤ 140737488355328) :
    Calls Try.prog 71 #[v, .int .i64 a.f1, .string a.f4, .string a.f5] w (Stp2 (fun w' v' => RDO (fun _ => True) w' v' (actF f next a) (actN f next a)) w) := by
  refine (rset_calls (fun _ => True) v f next a.f1 a.f4 a.f5 w (fun _ _ => trivial) h hg (by omega)).mono ?_
  rintro e w' ⟨v', rfl, hd, hb⟩
  rw [← actE3 (f := f) (next := next) a hk] at hd
  exact ⟨v', _, rfl, by rw [actF3 a hk, actN_ne a (by omega), ite_not]; exact hd, hb⟩
theorem dstep4 (v : Value) (a : S52) (w : World) (h : DocO (fun _ => True) w v f next) (hg : Good f next) (hk : a.f0 = 4) (hs : a.f4.size ≤ 140737488355328 ∧ a.f5.size ≤ 140737488355328) :
    Calls Try.prog 36 #[v, .int .i64 a.f1, .string a.f4] w (Stp2 (fun w' v' => DocO (fun _ => True) w' v' (actF f next a) (actN f next a)) w) := by
  refine (drp_act (fun _ => True) v a.f1 a.f4 w (fun _ _ => trivial) h hg (actE f next a) (actE4 a hk)).mono ?_
  rintro e w' ⟨v', rfl, hd, hb, _⟩
  exact ⟨v', _, rfl, by rw [actF4 a hk, actN_ne a (by omega)]; exact hd, hb⟩
theorem rstep4 (v : Value) (a : S52) (w : World) (h : RDO (fun _ => True) w v f next) (hg : Good f next) (hk : a.f0 = 4) (hs : a.f4.size ≤ 140737488355328 ∧ a.f5.size ≤ 140737488355328) :
    Calls Try.prog 72 #[v, .int .i64 a.f1, .string a.f4] w (Stp2 (fun w' v' => RDO (fun _ => True) w' v' (actF f next a) (actN f next a)) w) := by
  refine (rdrp_calls (fun _ => True) v f next a.f1 a.f4 w (fun _ _ => trivial) h hg).mono ?_
  rintro e w' ⟨v', rfl, hd, hb⟩
  rw [← actE4 (f := f) (next := next) a hk] at hd
  exact ⟨v', _, rfl, by rw [actF4 a hk, actN_ne a (by omega), ite_not]; exact hd, hb⟩
end
end Go.Proofs.Ytpnlbmeeihbjaaa.P
end
section
set_option linter.unusedVariables false
set_option linter.unusedSimpArgs false
namespace Go.Proofs.Ytpnlbmeeihbjaaa.P
open Go.RowKit Go.Proofs.YtpnlbmeeihbjaaaW.PrintWords Go.Proofs.YtpnlbmeeihbjaaaW.PrintLast Go.Proofs.YtpnlbmeeihbjaaaW.PrintMore
attribute [local go_sem] max2_int min2_int max_two min_two max_three min_three max_four min_four
set_option linter.unusedVariables false
set_option linter.unusedSimpArgs false
theorem name_a : nameL ⟨#[97]⟩ 3 0 = some true := by kernel_rfl
theorem nameB_a : nameB ⟨#[97]⟩ = true := by kernel_rfl
set_option maxHeartbeats 64000000 in
set_option maxRecDepth 100000 in
theorem of_calls (l : List S52) (A : Option Addr) (c : Nat) (w : World) (hC : Kd.C k52 w A l.length l) (hc : l.length ≤ c) (hs : ∀ p, p ∈ l → p.f4.size ≤ 140737488355328 ∧ p.f5.size ≤ 140737488355328) :
    Calls Try.prog 37 #[.slice A l.length c] w fun e w' => ∃ u, e = .returned u ∧ RDO (fun _ => True) w' u (runA tree0 l).1 (runA tree0 l).2 ∧ Below w.heap.size w w' := by
  have HC := Aside0.mk hC
  have HS := Aside0.mk hs
  have hu22 := Try.underlying22
  have hu52 := Try.underlying52
  have hlb : l.length ≤ 9223372036854775807 := hC.2.1
  clear hC hs
  go_enter Try.func37, Try.ntmps37
  go_wp2_with (first
    | (go_at_call 67; refine (rnew_calls (fun _ => True) ⟨#[97]⟩ _ (fun _ _ => trivial) (by decide)).mono ?_; rintro e W2 ⟨v1, rfl, hD1, hb2⟩; rw [nameB_a] at hD1 ⊢; obtain ⟨⟨g1, rfl⟩, hD1⟩ := hD1; have HD1 := Aside0.mk (show RDO (fun _ => True) W2 (.pointer (some ⟨g1, 0, none⟩)) (newF ⟨#[97]⟩) 2 from hD1); have HB2 := Aside0.mk hb2; clear hD1 hb2)
    | fail)
  go_loopg [3, 6, 13] (l.length + 1) (fun kq vd vb vi w' => ∃ (i : Nat) (v : Value), vi = .int .i64 i ∧ v = vd ∧ Aside0 (i + kq = l.length + 1) ∧ Aside0 (i ≤ l.length) ∧ Aside0 (RDO (fun _ => True) w' v (runA tree0 (l.take i)).1 (runA tree0 (l.take i)).2) ∧ Aside0 (Below w.heap.size w w'))
  case atStart => exact ⟨0, .pointer (some ⟨g1, 0, none⟩), rfl, rfl, ⟨by omega⟩, ⟨Nat.zero_le _⟩, HD1, HB2⟩
  case round =>
    clear HD1 HB2
    obtain ⟨i, v3, rfl, rfl, HK, HI, HD, HB⟩ := hrel
    cases gk with
    | zero => exact absurd HK.out (by have := HI.out; omega)
    | succ g0 =>
      by_cases c0 : i < l.length
      · have HST := Aside0.mk (run_snoc tree0 l i c0)
        have HG := Aside0.mk (good_tree (l.take i))
        obtain ⟨ad, rfl, k0, k1, k2, k3, k4, k5⟩ := at_T52 (Kd.C_below HC.out HB.out) (i : Int) (by omega) (by omega)
        rw [Int.toNat_natCast] at k0 k1 k2 k3 k4 k5
        have HSI : Aside0 ((rd_T52 l (i : Nat)).f4.size ≤ 140737488355328 ∧ (rd_T52 l (i : Nat)).f5.size ≤ 140737488355328) := ⟨by
          have e : rd_T52 l (i : Nat) = l[i] := by unfold rd_T52; simp [List.getD_eq_getElem?_getD, List.getElem?_eq_getElem c0]
          rw [e]; exact HS.out _ (List.getElem_mem c0)⟩
        generalize rd_T52 l (i : Nat) = a at k0 k1 k2 k3 k4 k5 HST HSI
        have HI0 := Aside0.mk c0
        have c1 : decide (i < l.length) = true := decide_eq_true c0
        have z0 : (0 ≤ (i : Int)) = True := eq_true (by omega)
        have z1 : ((i : Int) < (l.length : Int)) = True := eq_true (by omega)
        have HBA : Aside0 (Below w.heap.size w (wr.alloc (.cells #[.int .i64 a.f0, .int .i64 a.f1, .int .i64 a.f2, .int .i64 a.f3, .string a.f4, .string a.f5] 52))) := ⟨below_alloc HB.out _⟩
        have q0 := (blk_cell (blk_new wr (.cells #[.int .i64 a.f0, .int .i64 a.f1, .int .i64 a.f2, .int .i64 a.f3, .string a.f4, .string a.f5] 52)) 0).trans (show _ = some (.int .i64 a.f0) from rfl)
        have q1 := (blk_cell (blk_new wr (.cells #[.int .i64 a.f0, .int .i64 a.f1, .int .i64 a.f2, .int .i64 a.f3, .string a.f4, .string a.f5] 52)) 1).trans (show _ = some (.int .i64 a.f1) from rfl)
        have q2 := (blk_cell (blk_new wr (.cells #[.int .i64 a.f0, .int .i64 a.f1, .int .i64 a.f2, .int .i64 a.f3, .string a.f4, .string a.f5] 52)) 2).trans (show _ = some (.int .i64 a.f2) from rfl)
        have q3 := (blk_cell (blk_new wr (.cells #[.int .i64 a.f0, .int .i64 a.f1, .int .i64 a.f2, .int .i64 a.f3, .string a.f4, .string a.f5] 52)) 3).trans (show _ = some (.int .i64 a.f3) from rfl)
        have q4 := (blk_cell (blk_new wr (.cells #[.int .i64 a.f0, .int .i64 a.f1, .int .i64 a.f2, .int .i64 a.f3, .string a.f4, .string a.f5] 52)) 4).trans (show _ = some (.string a.f4) from rfl)
        have q5 := (blk_cell (blk_new wr (.cells #[.int .i64 a.f0, .int .i64 a.f1, .int .i64 a.f2, .int .i64 a.f3, .string a.f4, .string a.f5] 52)) 5).trans (show _ = some (.string a.f5) from rfl)
        have HDA : Aside0 (RDO (fun _ => True) (wr.alloc (.cells #[.int .i64 a.f0, .int .i64 a.f1, .int .i64 a.f2, .int .i64 a.f3, .string a.f4, .string a.f5] 52)) v3 (runA tree0 (l.take i)).1 (runA tree0 (l.take i)).2) := ⟨HD.out.below (below_alloc (Below.refl _ _) _)⟩
        have HS1 : Aside0 ((runA tree0 (l.take (i + 1))).1 = actF (runA tree0 (l.take i)).1 (runA tree0 (l.take i)).2 a) := ⟨by rw [HST.out]⟩
        have HS2 : Aside0 ((runA tree0 (l.take (i + 1))).2 = actN (runA tree0 (l.take i)).1 (runA tree0 (l.take i)).2 a) := ⟨by rw [HST.out]⟩
        clear c0
        by_cases e0 : a.f0 = 0
        · have HACT := Aside0.mk (rstep0 v3 a _ HDA.out HG.out e0 HSI.out)
          rw [← HS1.out, ← HS2.out] at HACT
          have d0 : (a.f0 == 0) = true := by simp [e0]
          clear e0
          go_wp2_with (first | (go_at_call 68; (with_reducible refine HACT.out.mono ?_); rintro e W3 ⟨v', x, y, rfl, hd, hb⟩; have HD3 := Aside0.mk hd; have HB3 := Aside0.mk (below_then HBA.out HBA.out.size hb); clear hd hb) | fail)
          go_roundg g0
          case measure => have := HK.out; omega
          case rel => exact ⟨i + 1, v', (by have := HI0.out; congr 1; unfold wrap64; omega), rfl, ⟨by have := HK.out; omega⟩, ⟨HI0.out⟩, HD3, HB3⟩
        have d0 : (a.f0 == 0) = false := by simp [e0]
        by_cases e1 : a.f0 = 1
        · have HACT := Aside0.mk (rstep1 v3 a _ HDA.out HG.out e1 HSI.out)
          rw [← HS1.out, ← HS2.out] at HACT
          have d1 : (a.f0 == 1) = true := by simp [e1]
          clear e1
          go_wp2_with (first | (go_at_call 69; (with_reducible refine HACT.out.mono ?_); rintro e W3 ⟨v', y, rfl, hd, hb⟩; have HD3 := Aside0.mk hd; have HB3 := Aside0.mk (below_then HBA.out HBA.out.size hb); clear hd hb) | fail)
          go_roundg g0
          case measure => have := HK.out; omega
          case rel => exact ⟨i + 1, v', (by have := HI0.out; congr 1; unfold wrap64; omega), rfl, ⟨by have := HK.out; omega⟩, ⟨HI0.out⟩, HD3, HB3⟩
        have d1 : (a.f0 == 1) = false := by simp [e1]
        by_cases e2 : a.f0 = 2
        · have HACT := Aside0.mk (rstep2 v3 a _ HDA.out HG.out e2 HSI.out)
          rw [← HS1.out, ← HS2.out] at HACT
          have d2 : (a.f0 == 2) = true := by simp [e2]
          clear e2
          go_wp2_with (first | (go_at_call 70; (with_reducible refine HACT.out.mono ?_); rintro e W3 ⟨v', y, rfl, hd, hb⟩; have HD3 := Aside0.mk hd; have HB3 := Aside0.mk (below_then HBA.out HBA.out.size hb); clear hd hb) | fail)
          go_roundg g0
          case measure => have := HK.out; omega
          case rel => exact ⟨i + 1, v', (by have := HI0.out; congr 1; unfold wrap64; omega), rfl, ⟨by have := HK.out; omega⟩, ⟨HI0.out⟩, HD3, HB3⟩
        have d2 : (a.f0 == 2) = false := by simp [e2]
        by_cases e3 : a.f0 = 3
        · have HACT := Aside0.mk (rstep3 v3 a _ HDA.out HG.out e3 HSI.out)
          rw [← HS1.out, ← HS2.out] at HACT
          have d3 : (a.f0 == 3) = true := by simp [e3]
          clear e3
          go_wp2_with (first | (go_at_call 71; (with_reducible refine HACT.out.mono ?_); rintro e W3 ⟨v', y, rfl, hd, hb⟩; have HD3 := Aside0.mk hd; have HB3 := Aside0.mk (below_then HBA.out HBA.out.size hb); clear hd hb) | fail)
          go_roundg g0
          case measure => have := HK.out; omega
          case rel => exact ⟨i + 1, v', (by have := HI0.out; congr 1; unfold wrap64; omega), rfl, ⟨by have := HK.out; omega⟩, ⟨HI0.out⟩, HD3, HB3⟩
        have d3 : (a.f0 == 3) = false := by simp [e3]
        by_cases e4 : a.f0 = 4
        · have HACT := Aside0.mk (rstep4 v3 a _ HDA.out HG.out e4 HSI.out)
          rw [← HS1.out, ← HS2.out] at HACT
          have d4 : (a.f0 == 4) = true := by simp [e4]
          clear e4
          go_wp2_with (first | (go_at_call 72; (with_reducible refine HACT.out.mono ?_); rintro e W3 ⟨v', y, rfl, hd, hb⟩; have HD3 := Aside0.mk hd; have HB3 := Aside0.mk (below_then HBA.out HBA.out.size hb); clear hd hb) | fail)
          go_roundg g0
          case measure => have := HK.out; omega
          case rel => exact ⟨i + 1, v', (by have := HI0.out; congr 1; unfold wrap64; omega), rfl, ⟨by have := HK.out; omega⟩, ⟨HI0.out⟩, HD3, HB3⟩
        have d4 : (a.f0 == 4) = false := by simp [e4]
        have HEL := Aside0.mk (act_else (f := (runA tree0 (l.take i)).1) (next := (runA tree0 (l.take i)).2) a e0 e1 e2 e3 e4)
        have HDN : Aside0 (RDO (fun _ => True) (wr.alloc (.cells #[.int .i64 a.f0, .int .i64 a.f1, .int .i64 a.f2, .int .i64 a.f3, .string a.f4, .string a.f5] 52)) v3 (runA tree0 (l.take (i + 1))).1 (runA tree0 (l.take (i + 1))).2) := ⟨by rw [HST.out, HEL.out.1, HEL.out.2]; exact HDA.out⟩
        clear e0 e1 e2 e3 e4
        go_wp2_with fail
        go_roundg g0
        case measure => have := HK.out; omega
        case rel => exact ⟨i + 1, v3, (by have := HI0.out; congr 1; unfold wrap64; omega), rfl, ⟨by have := HK.out; omega⟩, ⟨HI0.out⟩, HDN, HBA⟩
      · have c1 : decide (i < l.length) = false := decide_eq_false c0
        have HI2 : l.take i = l := List.take_of_length_le (by omega)
        rw [HI2] at HD
        clear HI2 c0 HK HI
        go_wp2_with fail
        go_ret
        exact ⟨_, rfl, HD.out, HB.out⟩
set_option maxHeartbeats 64000000 in
set_option maxRecDepth 100000 in
theorem tree_calls (l : List S52) (A : Option Addr) (c : Nat) (w : World) (hC : Kd.C k52 w A l.length l) (hc : l.length ≤ c) (hs : ∀ p, p ∈ l → p.f4.size ≤ 140737488355328 ∧ p.f5.size ≤ 140737488355328) :
    Calls Try.prog 11 #[.slice A l.length c] w fun e w' => ∃ v u, e = .returned (.tuple #[v, u]) ∧ DocF w' v (runA tree0 l).1 (runA tree0 l).2 ∧ RD w' u (runA tree0 l).1 (runA tree0 l).2 ∧ Below w.heap.size w w' := by
  have HOF : Aside0 (∀ W, Below w.heap.size w W → Calls Try.prog 37 #[.slice A l.length c] W fun e w' => ∃ u, e = .returned u ∧ RDO (fun _ => True) w' u (runA tree0 l).1 (runA tree0 l).2 ∧ Below W.heap.size W w') := ⟨fun W hW => of_calls l A c W (Kd.C_below hC hW) hc hs⟩
  have HC := Aside0.mk hC
  have HS := Aside0.mk hs
  have hu22 := Try.underlying22
  have hu52 := Try.underlying52
  have hlb : l.length ≤ 9223372036854775807 := hC.2.1
  clear hC hs
  go_enter Try.func11, Try.ntmps11
  go_wp2_with (first
    | (go_at_call 31; refine (dnew_calls (fun _ => True) 3 ⟨#[97]⟩ true _ (fun _ _ => trivial) name_a).mono ?_; rintro e W2 ⟨v1, rfl, hD1, hb2⟩; have HD1 := Aside0.mk (show DocO (fun _ => True) W2 v1 (newF ⟨#[97]⟩) 2 from hD1); have HB2 := Aside0.mk hb2; clear hD1 hb2)
    | fail)
  go_loopg [4, 7, 14] (l.length + 1) (fun kq vd vb vi w' => ∃ (i : Nat) (v : Value), vi = .int .i64 i ∧ v = vd ∧ Aside0 (i + kq = l.length + 1) ∧ Aside0 (i ≤ l.length) ∧ Aside0 (DocO (fun _ => True) w' v (runA tree0 (l.take i)).1 (runA tree0 (l.take i)).2) ∧ Aside0 (Below w.heap.size w w'))
  case atStart => exact ⟨0, v1, rfl, rfl, ⟨by omega⟩, ⟨Nat.zero_le _⟩, HD1, HB2⟩
  case round =>
    clear HD1 HB2
    obtain ⟨i, v3, rfl, rfl, HK, HI, HD, HB⟩ := hrel
    cases gk with
    | zero => exact absurd HK.out (by have := HI.out; omega)
    | succ g0 =>
      by_cases c0 : i < l.length
      · have HST := Aside0.mk (run_snoc tree0 l i c0)
        have HG := Aside0.mk (good_tree (l.take i))
        obtain ⟨ad, rfl, k0, k1, k2, k3, k4, k5⟩ := at_T52 (Kd.C_below HC.out HB.out) (i : Int) (by omega) (by omega)
        rw [Int.toNat_natCast] at k0 k1 k2 k3 k4 k5
        have HSI : Aside0 ((rd_T52 l (i : Nat)).f4.size ≤ 140737488355328 ∧ (rd_T52 l (i : Nat)).f5.size ≤ 140737488355328) := ⟨by
          have e : rd_T52 l (i : Nat) = l[i] := by unfold rd_T52; simp [List.getD_eq_getElem?_getD, List.getElem?_eq_getElem c0]
          rw [e]; exact HS.out _ (List.getElem_mem c0)⟩
        generalize rd_T52 l (i : Nat) = a at k0 k1 k2 k3 k4 k5 HST HSI
        have HI0 := Aside0.mk c0
        have c1 : decide (i < l.length) = true := decide_eq_true c0
        have z0 : (0 ≤ (i : Int)) = True := eq_true (by omega)
        have z1 : ((i : Int) < (l.length : Int)) = True := eq_true (by omega)
        have HBA : Aside0 (Below w.heap.size w (wr.alloc (.cells #[.int .i64 a.f0, .int .i64 a.f1, .int .i64 a.f2, .int .i64 a.f3, .string a.f4, .string a.f5] 52))) := ⟨below_alloc HB.out _⟩
        have q0 := (blk_cell (blk_new wr (.cells #[.int .i64 a.f0, .int .i64 a.f1, .int .i64 a.f2, .int .i64 a.f3, .string a.f4, .string a.f5] 52)) 0).trans (show _ = some (.int .i64 a.f0) from rfl)
        have q1 := (blk_cell (blk_new wr (.cells #[.int .i64 a.f0, .int .i64 a.f1, .int .i64 a.f2, .int .i64 a.f3, .string a.f4, .string a.f5] 52)) 1).trans (show _ = some (.int .i64 a.f1) from rfl)
        have q2 := (blk_cell (blk_new wr (.cells #[.int .i64 a.f0, .int .i64 a.f1, .int .i64 a.f2, .int .i64 a.f3, .string a.f4, .string a.f5] 52)) 2).trans (show _ = some (.int .i64 a.f2) from rfl)
        have q3 := (blk_cell (blk_new wr (.cells #[.int .i64 a.f0, .int .i64 a.f1, .int .i64 a.f2, .int .i64 a.f3, .string a.f4, .string a.f5] 52)) 3).trans (show _ = some (.int .i64 a.f3) from rfl)
        have q4 := (blk_cell (blk_new wr (.cells #[.int .i64 a.f0, .int .i64 a.f1, .int .i64 a.f2, .int .i64 a.f3, .string a.f4, .string a.f5] 52)) 4).trans (show _ = some (.string a.f4) from rfl)
        have q5 := (blk_cell (blk_new wr (.cells #[.int .i64 a.f0, .int .i64 a.f1, .int .i64 a.f2, .int .i64 a.f3, .string a.f4, .string a.f5] 52)) 5).trans (show _ = some (.string a.f5) from rfl)
        have HDA : Aside0 (DocO (fun _ => True) (wr.alloc (.cells #[.int .i64 a.f0, .int .i64 a.f1, .int .i64 a.f2, .int .i64 a.f3, .string a.f4, .string a.f5] 52)) v3 (runA tree0 (l.take i)).1 (runA tree0 (l.take i)).2) := ⟨HD.out.below (below_alloc (Below.refl _ _) _)⟩
        have HS1 : Aside0 ((runA tree0 (l.take (i + 1))).1 = actF (runA tree0 (l.take i)).1 (runA tree0 (l.take i)).2 a) := ⟨by rw [HST.out]⟩
        have HS2 : Aside0 ((runA tree0 (l.take (i + 1))).2 = actN (runA tree0 (l.take i)).1 (runA tree0 (l.take i)).2 a) := ⟨by rw [HST.out]⟩
        clear c0
        by_cases e0 : a.f0 = 0
        · have HACT := Aside0.mk (dstep0 v3 a _ HDA.out HG.out e0 HSI.out)
          rw [← HS1.out, ← HS2.out] at HACT
          have d0 : (a.f0 == 0) = true := by simp [e0]
          clear e0
          go_wp2_with (first | (go_at_call 32; (with_reducible refine HACT.out.mono ?_); rintro e W3 ⟨v', x, y, rfl, hd, hb⟩; have HD3 := Aside0.mk hd; have HB3 := Aside0.mk (below_then HBA.out HBA.out.size hb); clear hd hb) | fail)
          go_roundg g0
          case measure => have := HK.out; omega
          case rel => exact ⟨i + 1, v', (by have := HI0.out; congr 1; unfold wrap64; omega), rfl, ⟨by have := HK.out; omega⟩, ⟨HI0.out⟩, HD3, HB3⟩
        have d0 : (a.f0 == 0) = false := by simp [e0]
        by_cases e1 : a.f0 = 1
        · have HACT := Aside0.mk (dstep1 v3 a _ HDA.out HG.out e1 HSI.out)
          rw [← HS1.out, ← HS2.out] at HACT
          have d1 : (a.f0 == 1) = true := by simp [e1]
          clear e1
          go_wp2_with (first | (go_at_call 33; (with_reducible refine HACT.out.mono ?_); rintro e W3 ⟨v', y, rfl, hd, hb⟩; have HD3 := Aside0.mk hd; have HB3 := Aside0.mk (below_then HBA.out HBA.out.size hb); clear hd hb) | fail)
          go_roundg g0
          case measure => have := HK.out; omega
          case rel => exact ⟨i + 1, v', (by have := HI0.out; congr 1; unfold wrap64; omega), rfl, ⟨by have := HK.out; omega⟩, ⟨HI0.out⟩, HD3, HB3⟩
        have d1 : (a.f0 == 1) = false := by simp [e1]
        by_cases e2 : a.f0 = 2
        · have HACT := Aside0.mk (dstep2 v3 a _ HDA.out HG.out e2 HSI.out)
          rw [← HS1.out, ← HS2.out] at HACT
          have d2 : (a.f0 == 2) = true := by simp [e2]
          clear e2
          go_wp2_with (first | (go_at_call 34; (with_reducible refine HACT.out.mono ?_); rintro e W3 ⟨v', y, rfl, hd, hb⟩; have HD3 := Aside0.mk hd; have HB3 := Aside0.mk (below_then HBA.out HBA.out.size hb); clear hd hb) | fail)
          go_roundg g0
          case measure => have := HK.out; omega
          case rel => exact ⟨i + 1, v', (by have := HI0.out; congr 1; unfold wrap64; omega), rfl, ⟨by have := HK.out; omega⟩, ⟨HI0.out⟩, HD3, HB3⟩
        have d2 : (a.f0 == 2) = false := by simp [e2]
        by_cases e3 : a.f0 = 3
        · have HACT := Aside0.mk (dstep3 v3 a _ HDA.out HG.out e3 HSI.out)
          rw [← HS1.out, ← HS2.out] at HACT
          have d3 : (a.f0 == 3) = true := by simp [e3]
          clear e3
          go_wp2_with (first | (go_at_call 35; (with_reducible refine HACT.out.mono ?_); rintro e W3 ⟨v', y, rfl, hd, hb⟩; have HD3 := Aside0.mk hd; have HB3 := Aside0.mk (below_then HBA.out HBA.out.size hb); clear hd hb) | fail)
          go_roundg g0
          case measure => have := HK.out; omega
          case rel => exact ⟨i + 1, v', (by have := HI0.out; congr 1; unfold wrap64; omega), rfl, ⟨by have := HK.out; omega⟩, ⟨HI0.out⟩, HD3, HB3⟩
        have d3 : (a.f0 == 3) = false := by simp [e3]
        by_cases e4 : a.f0 = 4
        · have HACT := Aside0.mk (dstep4 v3 a _ HDA.out HG.out e4 HSI.out)
          rw [← HS1.out, ← HS2.out] at HACT
          have d4 : (a.f0 == 4) = true := by simp [e4]
          clear e4
          go_wp2_with (first | (go_at_call 36; (with_reducible refine HACT.out.mono ?_); rintro e W3 ⟨v', y, rfl, hd, hb⟩; have HD3 := Aside0.mk hd; have HB3 := Aside0.mk (below_then HBA.out HBA.out.size hb); clear hd hb) | fail)
          go_roundg g0
          case measure => have := HK.out; omega
          case rel => exact ⟨i + 1, v', (by have := HI0.out; congr 1; unfold wrap64; omega), rfl, ⟨by have := HK.out; omega⟩, ⟨HI0.out⟩, HD3, HB3⟩
        have d4 : (a.f0 == 4) = false := by simp [e4]
        have HEL := Aside0.mk (act_else (f := (runA tree0 (l.take i)).1) (next := (runA tree0 (l.take i)).2) a e0 e1 e2 e3 e4)
        have HDN : Aside0 (DocO (fun _ => True) (wr.alloc (.cells #[.int .i64 a.f0, .int .i64 a.f1, .int .i64 a.f2, .int .i64 a.f3, .string a.f4, .string a.f5] 52)) v3 (runA tree0 (l.take (i + 1))).1 (runA tree0 (l.take (i + 1))).2) := ⟨by rw [HST.out, HEL.out.1, HEL.out.2]; exact HDA.out⟩
        clear e0 e1 e2 e3 e4
        go_wp2_with fail
        go_roundg g0
        case measure => have := HK.out; omega
        case rel => exact ⟨i + 1, v3, (by have := HI0.out; congr 1; unfold wrap64; omega), rfl, ⟨by have := HK.out; omega⟩, ⟨HI0.out⟩, HDN, HBA⟩
      · have c1 : decide (i < l.length) = false := decide_eq_false c0
        have HI2 : l.take i = l := List.take_of_length_le (by omega)
        rw [HI2] at HD
        clear HI2 c0 HK HI
        go_wp2_with (first | (go_at_call 37; refine (HOF.out _ HB.out).mono ?_; rintro e W4 ⟨u, rfl, hr, hb4⟩; have HR4 := Aside0.mk hr; have HB4 := Aside0.mk hb4; clear hr hb4) | fail)
        go_ret2
        exact ⟨v3, u, rfl, (HD.out.below HB4.out).doc, HR4.out.rd, below_then HB.out HB.out.size HB4.out⟩
end Go.Proofs.Ytpnlbmeeihbjaaa.P
end
