/- WalkOnce: for every input the law returns true, and each argument reads behind the call as it read before. -/
import Derived.Test.YtpnlbmeeihbjaaaZWC21
import Derived.Test.YtpnlbmeeihbjaaaZWC23
section
set_option linter.unusedVariables false
set_option linter.unusedSimpArgs false
namespace Go.Proofs.Ytpnlbmeeihbjaaa.P
open Go.RowKit Go.Proofs.YtpnlbmeeihbjaaaW.PrintWords Go.Proofs.YtpnlbmeeihbjaaaW.PrintLast Go.Proofs.YtpnlbmeeihbjaaaW.PrintMore
attribute [local go_sem] max2_int min2_int max_two min_two max_three min_three max_four min_four
set_option linter.unusedVariables false
set_option linter.unusedSimpArgs false
def ActPost (ok : Nat → Prop) (w : World) (v : Value) (E : Int) (F : Nat → Option S40) (next : Int) : Ending → World → Prop := fun e w' =>
  Below w.heap.size w w' ∧ ((E ≠ 0 ∧ e = .returned (.tuple #[v, .int .i64 E])) ∨ (E = 0 ∧ ∃ v', e = .returned (.tuple #[v', .int .i64 0]) ∧ DocO ok w' v' F next))
theorem ActPost.no {ok : Nat → Prop} {w w' : World} {v : Value} {E : Int} {F : Nat → Option S40} {next : Int} {e : Ending} (hb : Below w.heap.size w w') (h0 : E ≠ 0) (he : e = .returned (.tuple #[v, .int .i64 E])) : ActPost ok w v E F next e w' := ⟨hb, .inl ⟨h0, he⟩⟩
theorem ActPost.yes {ok : Nat → Prop} {w w' : World} {v v' : Value} {E : Int} {F : Nat → Option S40} {next : Int} {e : Ending} (hb : Below w.heap.size w w') (h0 : E = 0) (he : e = .returned (.tuple #[v', .int .i64 0])) (hd : DocO ok w' v' F next) : ActPost ok w v E F next e w' := ⟨hb, .inr ⟨h0, v', he, hd⟩⟩
def setE (f : Nat → Option S40) (id : Int) (name value : ByteArray) (nm : Bool) : Int :=
  match look f id with
  | none => 1
  | some y => if nm = false then 7 else if 1000 < value.size then 11 else if hasA y.f4 name = false ∧ 16 ≤ y.f4.length then 5 else 0
def setF (f : Nat → Option S40) (id : Int) (name value : ByteArray) : Nat → Option S40 :=
  putF f id (some (setA (posA ((look f id).getD z40).f4 name) (hasA ((look f id).getD z40).f4 name) name value ((look f id).getD z40)))
theorem hmf62 : ∀ (fn : Fn) (first cap : Array Value) (w : World), (Instr.makeFunc fn first cap).run Try.prog w = .ok (.func fn first cap) w := fun _ _ _ _ => rfl
theorem posA_le (l : List S70) (s : ByteArray) : posA l s ≤ l.length := List.countP_le_length
set_option maxHeartbeats 16000000 in
set_option maxRecDepth 100000 in
theorem set_calls (ok : Nat → Prop) (n : Nat) (v : Value) (f : Nat → Option S40) (next id : Int) (name value : ByteArray) (nm : Bool) (w : World) (hfresh : ∀ k, w.heap.size ≤ k → ok k) (h : DocO ok w v f next) (hn : nameL name n 0 = some nm)
    (hs : ((look f id).getD z40).f3.length ≤ 1099511627776 ∧ ((look f id).getD z40).f4.length ≤ 1099511627776) (hm : MonoA ((look f id).getD z40).f4 name) (hvl : value.size ≤ 140737488355332) :
    Calls Try.prog 35 #[v, .int .i64 id, .string name, .string value] w (ActPost ok w v (setE f id name value nm) (setF f id name value) next) := by
  have HDO := Aside0.mk h
  have HD := Aside0.mk h.doc
  have HFR := Aside0.mk hfresh
  have HN := Aside0.mk hn
  obtain ⟨E, hE⟩ : ∃ E, E = setE f id name value nm := ⟨_, rfl⟩
  rw [← hE]
  obtain ⟨y, hy⟩ : ∃ y, y = (look f id).getD z40 := ⟨_, rfl⟩
  rw [← hy] at hs hm
  have HF : Aside0 (setF f id name value = putF f id (some (setA (posA y.f4 name) (hasA y.f4 name) name value y))) := ⟨by unfold setF; rw [← hy]⟩
  obtain ⟨F, hF⟩ : ∃ F, F = setF f id name value := ⟨_, rfl⟩
  rw [← hF]
  have HFE := Aside0.mk hF
  obtain ⟨p, hp⟩ : ∃ p, p = posA y.f4 name := ⟨_, rfl⟩
  obtain ⟨hh, hhe⟩ : ∃ hh, hh = hasA y.f4 name := ⟨_, rfl⟩
  have HP := Aside0.mk (And.intro hp hhe)
  have HS := Aside0.mk (And.intro hs hm)
  have HY := Aside0.mk hy
  have HE := Aside0.mk hE
  have hu76 := Try.underlying76
  have hu40 := Try.underlying40
  have hu84 := Try.underlying84
  obtain ⟨b, t, rfl, _, _, _⟩ := h
  clear hfresh hn hs hm hF hp hhe hy hE
  go_enter Try.func35, Try.ntmps35
  go_wp2_with fail
  have HB0 : Aside0 (Below w.heap.size w ((w.alloc (.cells #[.string name] 9)).alloc (.cells #[.string value] 9))) := ⟨below_alloc (below_alloc (Below.refl _ _) _) _⟩
  have HKN : Aside0 (((w.alloc (.cells #[.string name] 9)).alloc (.cells #[.string value] 9)).heap[w.heap.size]? = some (.cells #[.string name] 9 (0, 0))) := ⟨blk_alloc (blk_new _ _) _⟩
  have HKV : Aside0 (((w.alloc (.cells #[.string name] 9)).alloc (.cells #[.string value] 9)).heap[w.heap.size + 1]? = some (.cells #[.string value] 9 (0, 0))) := ⟨heap_alloc2_new _ _ _⟩
  generalize (w.alloc (.cells #[.string name] 9)).alloc (.cells #[.string value] 9) = W0 at HB0 HKN HKV ⊢
  refine (dmade_calls _ f next _ (HD.out.below HB0.out)).mono ?_
  rintro e W1 ⟨rfl, hb1⟩
  have HB1 := Aside0.mk (below_then HB0.out HB0.out.size hb1)
  have HB01 := Aside0.mk hb1
  clear hb1
  go_wp2_with fail
  refine (node_calls _ f next id w _ HD.out HB1.out).mono ?_
  rintro e W2 ⟨cs, rfl, hK, hb2⟩
  rw [← HY.out] at hK
  obtain ⟨A3, c3, A4, c4, hcs, l3, g3, l4, g4⟩ := k40_open hK
  obtain ⟨cl⟩ := cs
  simp only at hcs
  subst hcs
  have HB2 := Aside0.mk (below_then HB1.out HB1.out.size hb2)
  have HB02 := Aside0.mk (below_then HB01.out HB01.out.size hb2)
  have HC4 := Aside0.mk g4
  clear hb2 hK l3 g3 g4 l4
  go_upto_region 4 with (fail)
  have HB3 : Aside0 (Below w.heap.size w (W2.alloc (.cells #[.int .i64 y.f0, .string y.f1, .int .i64 y.f2, .slice A3 y.f3.length c3, .slice A4 y.f4.length c4] 40))) := ⟨below_alloc HB2.out _⟩
  have HB03 : Aside0 (Below W0.heap.size W0 (W2.alloc (.cells #[.int .i64 y.f0, .string y.f1, .int .i64 y.f2, .slice A3 y.f3.length c3, .slice A4 y.f4.length c4] 40))) := ⟨below_alloc HB02.out _⟩
  have q4 : (W2.alloc (.cells #[.int .i64 y.f0, .string y.f1, .int .i64 y.f2, .slice A3 y.f3.length c3, .slice A4 y.f4.length c4] 40)).cell? ⟨W2.heap.size, 4, none⟩ = some (.slice A4 y.f4.length c4) := (blk_cell (blk_new W2 _) 4).trans rfl
  generalize W2.alloc (.cells #[.int .i64 y.f0, .string y.f1, .int .i64 y.f2, .slice A3 y.f3.length c3, .slice A4 y.f4.length c4] 40) = W3 at HB3 HB03 q4 ⊢
  generalize W2.heap.size = g at q4 ⊢
  have kn := (blk_cell (blk_below HKN.out HB03.out) 0).trans (show _ = some _ from rfl)
  have kv := (blk_cell (blk_below HKV.out HB03.out) 0).trans (show _ = some _ from rfl)
  have KN3 := Aside0.mk (blk_below HKN.out HB03.out)
  have KV3 := Aside0.mk (blk_below HKV.out HB03.out)
  clear HKN HKV HB0 HB01 HB02 HB03 HB1 HB2
  go_wp2_with fail
  refine (find_calls y.f4 A4 c4 name w _ HC4.out HB3.out HS.out.1.2 HS.out.2).mono ?_
  rintro e W4 ⟨rfl, hb4⟩
  rw [← HP.out.1, ← HP.out.2]
  have q44 := pw_cell_below hb4 q4
  have HB34 := Aside0.mk hb4
  clear hb4 kn kv
  go_upto_region 5 with (fail)
  have HB5 : Aside0 (Below W3.heap.size W3 ((W4.alloc (.cells #[.int .i64 p] 3)).alloc (.cells #[.bool hh] 4))) := ⟨below_alloc (below_alloc HB34.out _) _⟩
  have HKI : Aside0 (((W4.alloc (.cells #[.int .i64 p] 3)).alloc (.cells #[.bool hh] 4)).heap[W4.heap.size]? = some (.cells #[.int .i64 p] 3 (0, 0))) := ⟨blk_alloc (blk_new _ _) _⟩
  have HKH : Aside0 (((W4.alloc (.cells #[.int .i64 p] 3)).alloc (.cells #[.bool hh] 4)).heap[W4.heap.size + 1]? = some (.cells #[.bool hh] 4 (0, 0))) := ⟨heap_alloc2_new _ _ _⟩
  generalize (W4.alloc (.cells #[.int .i64 p] 3)).alloc (.cells #[.bool hh] 4) = W5 at HB5 HKI HKH ⊢
  generalize W4.heap.size + 1 = gh at HKH ⊢
  generalize W4.heap.size = gi at HKI ⊢
  generalize w.heap.size + 1 = gv at KV3 ⊢
  have HBW5 := Aside0.mk (below_then HB3.out HB3.out.size HB5.out)
  have kn := (blk_cell (blk_below KN3.out HB5.out) 0).trans (show _ = some _ from rfl)
  have kv := (blk_cell (blk_below KV3.out HB5.out) 0).trans (show _ = some _ from rfl)
  have q45 := pw_cell_below HB5.out q4
  have kh := (blk_cell HKH.out 0).trans (show _ = some _ from rfl)
  have hE := HE.out
  unfold setE at hE
  clear q4 q44 HB34
  cases hl : look f id with
  | none =>
    rw [hl] at hE
    obtain rfl : E = 1 := hE
    clear hl
    go_wp2_with fail
    go_ret2
    exact ActPost.no HBW5.out (by decide) rfl
  | some y0 =>
    rw [hl] at hE
    have hy0 : y = y0 := by rw [HY.out, hl]; rfl
    subst hy0
    have HL := Aside0.mk hl
    simp only at hE
    clear hl
    cases nm with
    | false =>
      rw [if_pos rfl] at hE
      subst hE
      go_wp2_with (first | (go_at_call 50; refine (name_calls n name false _ HN.out).mono ?_; rintro e W6 ⟨rfl, hb6⟩; have HB6 := Aside0.mk (below_then HBW5.out HBW5.out.size hb6); clear hb6) | fail)
      go_ret2
      exact ActPost.no HB6.out (by decide) rfl
    | true =>
      rw [if_neg (by decide)] at hE
      by_cases hv : 1000 < value.size
      · rw [if_pos hv] at hE
        subst hE
        have d1 : decide ((1000 : Int) < (value.size : Int)) = true := decide_eq_true (by omega)
        go_wp2_with (first | (go_at_call 50; refine (name_calls n name true _ HN.out).mono ?_; rintro e W6 ⟨rfl, hb6⟩; have HB6 := Aside0.mk (below_then HBW5.out HBW5.out.size hb6); have kv6 := pw_cell_below hb6 kv; clear hb6) | fail)
        go_ret2
        exact ActPost.no HB6.out (by decide) rfl
      · rw [if_neg hv] at hE
        have d1 : decide ((1000 : Int) < (value.size : Int)) = false := decide_eq_false (by omega)
        have d1' : decide (1000 < value.size) = false := decide_eq_false hv
        clear hv
        by_cases hx : hh = false ∧ 16 ≤ y.f4.length
        · rw [if_pos (by rw [← HP.out.2]; exact hx)] at hE
          subst hE
          obtain ⟨rfl, hx2⟩ := hx
          have d2 : decide ((16 : Int) ≤ (y.f4.length : Int)) = true := decide_eq_true (by omega)
          have d2' : decide (16 ≤ y.f4.length) = true := decide_eq_true hx2
          go_wp2_with (first | (go_at_call 50; refine (name_calls n name true _ HN.out).mono ?_; rintro e W6 ⟨rfl, hb6⟩; have HB6 := Aside0.mk (below_then HBW5.out HBW5.out.size hb6); have kv6 := pw_cell_below hb6 kv; have kh6 := pw_cell_below hb6 kh; have q46 := pw_cell_below hb6 q45; clear hb6) | fail)
          go_ret2
          exact ActPost.no HB6.out (by decide) rfl
        · rw [if_neg (by rw [← HP.out.2]; exact hx)] at hE
          subst hE
          have HX : Aside0 (if hh = true then p < y.f4.length else p ≤ y.f4.length) := ⟨by
            cases hh with
            | true => rw [if_pos rfl, HP.out.1]; exact hasA_lt HP.out.2.symm
            | false => rw [if_neg (by decide), HP.out.1]; exact posA_le _ _⟩
          have HD2 : Aside0 (hh = false → ¬ 16 ≤ y.f4.length) := ⟨fun e c => hx ⟨e, c⟩⟩
          have HGO : Aside0 (∀ (W : World) (gl : Nat), Below W5.heap.size W5 W → W.heap[gl]? = some (.cells #[.int .i64 id, .func (.func 63) #[] #[.pointer (some ⟨gh, 0, none⟩), .pointer (some ⟨gi, 0, none⟩), .pointer (some ⟨w.heap.size, 0, none⟩), .pointer (some ⟨gv, 0, none⟩)]] 84 (0, 0)) → Calls Try.prog 54 #[.pointer (some ⟨b, 0, none⟩), .slice (some ⟨gl, 0, none⟩) 1 1] W fun e w' => ∃ b' t', e = .returned (.pointer (some ⟨b', 0, none⟩)) ∧ w.heap.size ≤ b' ∧ w'.heap[b']? = some (.cells #[.pointer (some t'), .int .i64 next] 76 (0, 0)) ∧ TrieO (fun k => ok k ∧ k ≠ b') w' (.pointer (some t')) F ∧ Below w.heap.size w w') := ⟨by
            intro W gl hbW hgl
            have hBW := below_then HBW5.out HBW5.out.size hbW
            have hb35 := below_then HB5.out HB5.out.size hbW
            refine (with_O ok (.pointer (some ⟨b, 0, none⟩)) f next [⟨id, 63, #[.pointer (some ⟨gh, 0, none⟩), .pointer (some ⟨gi, 0, none⟩), .pointer (some ⟨w.heap.size, 0, none⟩), .pointer (some ⟨gv, 0, none⟩)], setA p hh name value⟩] gl W (fun k hk => HFR.out k (Nat.le_trans hBW.size hk)) (HDO.out.below hBW) (ChgRow.one hgl ent93) (by simp) (fun j c hc => ?_)).mono ?_
            · rcases j with _ | j
              · obtain rfl := Option.some.inj hc
                have e : (look (chgs f (List.take 0 [⟨id, 63, #[.pointer (some ⟨gh, 0, none⟩), .pointer (some ⟨gi, 0, none⟩), .pointer (some ⟨w.heap.size, 0, none⟩), .pointer (some ⟨gv, 0, none⟩)], setA p hh name value⟩])) id).getD z40 = y := HY.out.symm
                simp only
                rw [e]
                refine ⟨HS.out.1.1, HS.out.1.2, ?_⟩
                cases hh with
                | true => exact seta_yes W gh gi w.heap.size gv p name value id y (blk_below HKH.out hbW) (blk_below HKI.out hbW) (blk_below KN3.out hb35) (blk_below KV3.out hb35) (by have := HX.out; simpa using this) HS.out.1.2
                | false => exact seta_no W gh gi w.heap.size gv p name value id y (blk_below HKH.out hbW) (blk_below HKI.out hbW) (blk_below KN3.out hb35) (blk_below KV3.out hb35) (by have := HX.out; simpa using this) HS.out.1.2
              · simp at hc
            · rintro e w' ⟨b', t', he, hle, hbl, hT, hb'⟩
              refine ⟨b', t', he, Nat.le_trans hBW.size hle, hbl, ?_, below_then hBW hBW.size hb'⟩
              rw [HFE.out, HF.out, ← HP.out.1, ← HP.out.2, HY.out]
              exact hT⟩
          have hmf := hmf62
          clear hx
          cases hh with
          | true =>
            go_wp2_with (first
              | (go_at_call 50; refine (name_calls n name true _ HN.out).mono ?_; rintro e W6 ⟨rfl, hb6⟩; have HB6 := Aside0.mk hb6; have kv6 := pw_cell_below hb6 kv; have kh6 := pw_cell_below hb6 kh; have q46 := pw_cell_below hb6 q45; clear hb6)
              | (go_at_call 54; (with_reducible refine (HGO.out _ _ (below_alloc HB6.out _) (by exact blk_new _ _)).mono ?_); rintro e W7 ⟨b', t', rfl, hle, hbl, hT, hb7⟩; have HT := Aside0.mk hT; have HBL := Aside0.mk hbl; have HLE := Aside0.mk hle; have HB7 := Aside0.mk hb7; clear hT hbl hle hb7)
              | fail)
            go_ret2
            exact ActPost.yes HB7.out rfl rfl ⟨b', t', rfl, HFR.out _ HLE.out, HBL.out, HT.out.step (fun _ _ _ => rfl) (fun _ h => h.1)⟩
          | false =>
            have d2' : decide (16 ≤ y.f4.length) = false := decide_eq_false (HD2.out rfl)
            have d2 : decide ((16 : Int) ≤ (y.f4.length : Int)) = false := decide_eq_false (by have := HD2.out rfl; omega)
            go_wp2_with (first
              | (go_at_call 50; refine (name_calls n name true _ HN.out).mono ?_; rintro e W6 ⟨rfl, hb6⟩; have HB6 := Aside0.mk hb6; have kv6 := pw_cell_below hb6 kv; have kh6 := pw_cell_below hb6 kh; have q46 := pw_cell_below hb6 q45; clear hb6)
              | (go_at_call 54; (with_reducible refine (HGO.out _ _ (below_alloc HB6.out _) (by exact blk_new _ _)).mono ?_); rintro e W7 ⟨b', t', rfl, hle, hbl, hT, hb7⟩; have HT := Aside0.mk hT; have HBL := Aside0.mk hbl; have HLE := Aside0.mk hle; have HB7 := Aside0.mk hb7; clear hT hbl hle hb7)
              | fail)
            go_ret2
            exact ActPost.yes HB7.out rfl rfl ⟨b', t', rfl, HFR.out _ HLE.out, HBL.out, HT.out.step (fun _ _ _ => rfl) (fun _ h => h.1)⟩
end Go.Proofs.Ytpnlbmeeihbjaaa.P
end
section
set_option linter.unusedVariables false
set_option linter.unusedSimpArgs false
namespace Go.Proofs.Ytpnlbmeeihbjaaa.P
open Go.RowKit Go.Proofs.YtpnlbmeeihbjaaaW.PrintWords Go.Proofs.YtpnlbmeeihbjaaaW.PrintLast Go.Proofs.YtpnlbmeeihbjaaaW.PrintMore
attribute [local go_sem] max2_int min2_int max_two min_two max_three min_three max_four min_four
set_option linter.unusedVariables false
set_option linter.unusedSimpArgs false
def drpE (f : Nat → Option S40) (id : Int) (name : ByteArray) : Int :=
  match look f id with
  | none => 1
  | some y => if hasA y.f4 name = false then 7 else 0
def drpF (f : Nat → Option S40) (id : Int) (name : ByteArray) : Nat → Option S40 :=
  putF f id (some (dropA (posA ((look f id).getD z40).f4 name) ((look f id).getD z40)))
set_option maxHeartbeats 16000000 in
set_option maxRecDepth 100000 in
theorem drp_calls (ok : Nat → Prop) (v : Value) (f : Nat → Option S40) (next id : Int) (name : ByteArray) (w : World) (hfresh : ∀ k, w.heap.size ≤ k → ok k) (h : DocO ok w v f next)
    (hs : ((look f id).getD z40).f3.length ≤ 1099511627776 ∧ ((look f id).getD z40).f4.length ≤ 1099511627776) (hm : MonoA ((look f id).getD z40).f4 name) :
    Calls Try.prog 36 #[v, .int .i64 id, .string name] w (ActPost ok w v (drpE f id name) (drpF f id name) next) := by
  have HDO := Aside0.mk h
  have HD := Aside0.mk h.doc
  have HFR := Aside0.mk hfresh
  obtain ⟨E, hE⟩ : ∃ E, E = drpE f id name := ⟨_, rfl⟩
  rw [← hE]
  obtain ⟨y, hy⟩ : ∃ y, y = (look f id).getD z40 := ⟨_, rfl⟩
  rw [← hy] at hs hm
  have HF : Aside0 (drpF f id name = putF f id (some (dropA (posA y.f4 name) y))) := ⟨by unfold drpF; rw [← hy]⟩
  obtain ⟨F, hF⟩ : ∃ F, F = drpF f id name := ⟨_, rfl⟩
  rw [← hF]
  have HFE := Aside0.mk hF
  obtain ⟨p, hp⟩ : ∃ p, p = posA y.f4 name := ⟨_, rfl⟩
  obtain ⟨hh, hhe⟩ : ∃ hh, hh = hasA y.f4 name := ⟨_, rfl⟩
  have HP := Aside0.mk (And.intro hp hhe)
  have HS := Aside0.mk (And.intro hs hm)
  have HY := Aside0.mk hy
  have HE := Aside0.mk hE
  have hu76 := Try.underlying76
  have hu40 := Try.underlying40
  have hu84 := Try.underlying84
  obtain ⟨b, t, rfl, _, _, _⟩ := h
  clear hfresh hs hm hF hp hhe hy hE
  go_enter Try.func36, Try.ntmps36
  go_upto_region 4 with (first
    | (go_at_call 48; refine (dmade_calls _ f next w HD.out).mono ?_; rintro e W1 ⟨rfl, hb1⟩; have HB1 := Aside0.mk hb1; clear hb1)
    | (go_at_call 41; refine (node_calls _ f next id w _ HD.out HB1.out).mono ?_; rintro e W2 ⟨cs, rfl, hK, hb2⟩; rw [← HY.out] at hK; obtain ⟨A3, c3, A4, c4, hcs, l3, g3, l4, g4⟩ := k40_open hK; obtain ⟨cl⟩ := cs; simp only at hcs; subst hcs; have HB2 := Aside0.mk (below_then HB1.out HB1.out.size hb2); have HC4 := Aside0.mk g4; clear hb2 hK l3 g3 g4 l4)
    | fail)
  have HB3 : Aside0 (Below w.heap.size w (W2.alloc (.cells #[.int .i64 y.f0, .string y.f1, .int .i64 y.f2, .slice A3 y.f3.length c3, .slice A4 y.f4.length c4] 40))) := ⟨below_alloc HB2.out _⟩
  have q4 : (W2.alloc (.cells #[.int .i64 y.f0, .string y.f1, .int .i64 y.f2, .slice A3 y.f3.length c3, .slice A4 y.f4.length c4] 40)).cell? ⟨W2.heap.size, 4, none⟩ = some (.slice A4 y.f4.length c4) := (blk_cell (blk_new W2 _) 4).trans rfl
  generalize W2.alloc (.cells #[.int .i64 y.f0, .string y.f1, .int .i64 y.f2, .slice A3 y.f3.length c3, .slice A4 y.f4.length c4] 40) = W3 at HB3 q4 ⊢
  generalize W2.heap.size = g at q4 ⊢
  go_wp2_with fail
  refine (find_calls y.f4 A4 c4 name w _ HC4.out HB3.out HS.out.1.2 HS.out.2).mono ?_
  rintro e W4 ⟨rfl, hb4⟩
  rw [← HP.out.1, ← HP.out.2]
  have q44 := pw_cell_below hb4 q4
  have HB34 := Aside0.mk (below_then HB3.out HB3.out.size hb4)
  clear hb4
  go_upto_region 5 with (fail)
  have HB5 : Aside0 (Below w.heap.size w (W4.alloc (.cells #[.int .i64 p] 3))) := ⟨below_alloc HB34.out _⟩
  have HKI : Aside0 ((W4.alloc (.cells #[.int .i64 p] 3)).heap[W4.heap.size]? = some (.cells #[.int .i64 p] 3 (0, 0))) := ⟨blk_new _ _⟩
  generalize W4.alloc (.cells #[.int .i64 p] 3) = W5 at HB5 HKI ⊢
  generalize W4.heap.size = gi at HKI ⊢
  have hE := HE.out
  unfold drpE at hE
  clear q4 q44 HB34
  cases hl : look f id with
  | none =>
    rw [hl] at hE
    obtain rfl : E = 1 := hE
    clear hl
    go_wp2_with fail
    go_ret2
    exact ActPost.no HB5.out (by decide) rfl
  | some y0 =>
    rw [hl] at hE
    have hy0 : y = y0 := by rw [HY.out, hl]; rfl
    subst hy0
    have HL := Aside0.mk hl
    simp only at hE
    clear hl
    rw [← HP.out.2] at hE
    cases hh with
    | false =>
      rw [if_pos rfl] at hE
      subst hE
      go_wp2_with fail
      go_ret2
      exact ActPost.no HB5.out (by decide) rfl
    | true =>
      rw [if_neg (by decide)] at hE
      subst hE
      have HX : Aside0 (p < y.f4.length) := ⟨by rw [HP.out.1]; exact hasA_lt HP.out.2.symm⟩
      have HGO : Aside0 (∀ (W : World) (gl : Nat), Below W5.heap.size W5 W → W.heap[gl]? = some (.cells #[.int .i64 id, .func (.func 65) #[] #[.pointer (some ⟨gi, 0, none⟩)]] 84 (0, 0)) → Calls Try.prog 54 #[.pointer (some ⟨b, 0, none⟩), .slice (some ⟨gl, 0, none⟩) 1 1] W fun e w' => ∃ b' t', e = .returned (.pointer (some ⟨b', 0, none⟩)) ∧ w.heap.size ≤ b' ∧ w'.heap[b']? = some (.cells #[.pointer (some t'), .int .i64 next] 76 (0, 0)) ∧ TrieO (fun k => ok k ∧ k ≠ b') w' (.pointer (some t')) F ∧ Below w.heap.size w w') := ⟨by
        intro W gl hbW hgl
        have hBW := below_then HB5.out HB5.out.size hbW
        refine (with_O ok (.pointer (some ⟨b, 0, none⟩)) f next [⟨id, 65, #[.pointer (some ⟨gi, 0, none⟩)], dropA p⟩] gl W (fun k hk => HFR.out k (Nat.le_trans hBW.size hk)) (HDO.out.below hBW) (ChgRow.one hgl ent95) (by simp) (fun j c hc => ?_)).mono ?_
        · rcases j with _ | j
          · obtain rfl := Option.some.inj hc
            have e : (look (chgs f (List.take 0 [⟨id, 65, #[.pointer (some ⟨gi, 0, none⟩)], dropA p⟩])) id).getD z40 = y := HY.out.symm
            simp only
            rw [e]
            exact ⟨HS.out.1.1, HS.out.1.2, drop_gives W gi p id y (blk_below HKI.out hbW) HX.out HS.out.1.2⟩
          · simp at hc
        · rintro e w' ⟨b', t', he, hle, hbl, hT, hb'⟩
          refine ⟨b', t', he, Nat.le_trans hBW.size hle, hbl, ?_, below_then hBW hBW.size hb'⟩
          rw [HFE.out, HF.out, ← HP.out.1, HY.out]
          exact hT⟩
      have hmf := hmf62
      go_wp2_with (first
        | (go_at_call 54; (with_reducible refine (HGO.out _ _ (below_alloc (Below.refl _ _) _) (by exact blk_new _ _)).mono ?_); rintro e W7 ⟨b', t', rfl, hle, hbl, hT, hb7⟩; have HT := Aside0.mk hT; have HBL := Aside0.mk hbl; have HLE := Aside0.mk hle; have HB7 := Aside0.mk hb7; clear hT hbl hle hb7)
        | fail)
      go_ret2
      exact ActPost.yes HB7.out rfl rfl ⟨b', t', rfl, HFR.out _ HLE.out, HBL.out, HT.out.step (fun _ _ _ => rfl) (fun _ h => h.1)⟩
end Go.Proofs.Ytpnlbmeeihbjaaa.P
end
