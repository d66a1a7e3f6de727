/- WalkOnce: for every input the law returns true, and each argument reads behind the call as it read before. -/
import Derived.Test.YtpnlbmeeihbjaaaZWC9
import Derived.Test.YtpnlbmeeihbjaaaZWC13
import Derived.Test.YtpnlbmeeihbjaaaZWC20
section
set_option linter.unusedVariables false
set_option linter.unusedSimpArgs false
namespace Go.Proofs.Ytpnlbmeeihbjaaa.P
open Go.RowKit Go.Proofs.YtpnlbmeeihbjaaaW.PrintWords Go.Proofs.YtpnlbmeeihbjaaaW.PrintLast Go.Proofs.YtpnlbmeeihbjaaaW.PrintMore
attribute [local go_sem] max2_int min2_int max_two min_two max_three min_three max_four min_four
set_option linter.unusedVariables false
set_option linter.unusedSimpArgs false
def Small (f : Nat → Option S40) : Prop := ∀ j x, f j = some x → x.f3.length ≤ 1099511627776 ∧ x.f4.length ≤ 1099511627776
theorem Small.look {f : Nat → Option S40} (h : Small f) (n : Int) : ((look f n).getD z40).f3.length ≤ 1099511627776 ∧ ((look f n).getD z40).f4.length ≤ 1099511627776 := by
  unfold P.look
  split
  · cases e : f n.toNat with
    | none => decide
    | some x => exact h _ _ e
  · decide
def insE (f : Nat → Option S40) (next parent index : Int) (nm : Bool) (dep : Int) : Int :=
  match look f parent with
  | none => 1
  | some x => if index < 0 ∨ (x.f3.length : Int) < index then 3 else if nm = false then 7 else if 1048576 ≤ next ∨ 512 ≤ dep then 5 else 0
def insF (f : Nat → Option S40) (next parent : Int) (i : Nat) (tag : ByteArray) : Nat → Option S40 :=
  putF (putF f parent (some (gainA i next ((look f parent).getD z40)))) next (some (el next tag parent))
theorem ChgRow.one {w : World} {gl : Nat} {c : Chg} (hw : w.heap[gl]? = some (.cells #[.int .i64 c.id, .func (.func c.fn) #[] c.cap] 84 (0, 0))) (he : ∀ (args : Array Value) (w : World), (callFunc c.fn args).run Try.prog w = .ok (.enter c.fn args) w) : ChgRow w gl [c] := by
  refine ⟨_, hw, fun i d hd => ?_⟩
  cases i with
  | zero => obtain rfl := Option.some.inj hd; exact ⟨rfl, rfl, he⟩
  | succ i => simp at hd
theorem ent88 : ∀ (args : Array Value) (w : World), (callFunc 83 args).run Try.prog w = .ok (.enter 83 args) w := enters_of Try.func83 (by kernel_rfl) rfl
theorem ent90 : ∀ (args : Array Value) (w : World), (callFunc 85 args).run Try.prog w = .ok (.enter 85 args) w := enters_of Try.func85 (by kernel_rfl) rfl
theorem ent55 : ∀ (args : Array Value) (w : World), (callFunc 61 args).run Try.prog w = .ok (.enter 61 args) w := enters_of Try.func61 (by kernel_rfl) rfl
set_option maxHeartbeats 8000000 in
set_option maxRecDepth 100000 in
theorem ins_no (n m : Nat) (v : Value) (f : Nat → Option S40) (next parent index : Int) (tag : ByteArray) (nm : Bool) (dep : Int) (w : World) (h : DocF w v f next) (hn : nameL tag n 0 = some nm) (hd : depL f m (look f parent) 0 = some dep) (he : insE f next parent index nm dep ≠ 0) :
    Calls Try.prog 32 #[v, .int .i64 parent, .int .i64 index, .string tag] w fun e w' => e = .returned (.tuple #[v, .int .i64 0, .int .i64 (insE f next parent index nm dep)]) ∧ Below w.heap.size w w' := by
  have HD := Aside0.mk h
  have HN := Aside0.mk hn
  have HDE := Aside0.mk hd
  obtain ⟨E, hE⟩ : ∃ E, E = insE f next parent index nm dep := ⟨_, rfl⟩
  rw [← hE] at he ⊢
  obtain ⟨b, t, rfl, hb, _⟩ := h
  have HB := Aside0.mk hb
  have hu76 := Try.underlying76
  have hu40 := Try.underlying40
  clear hn hd hb
  go_enter Try.func32, Try.ntmps32
  go_upto_region 4 with (first
    | (go_at_call 48; refine (dmade_calls _ f next _ HD.out).mono ?_; rintro e W1 ⟨rfl, hb1⟩; have HB1 := Aside0.mk hb1; clear hb1)
    | (go_at_call 41; refine (node_calls _ f next parent w _ HD.out HB1.out).mono ?_; rintro e W2 ⟨cs, rfl, hK, hb2⟩; obtain ⟨y, hy⟩ : ∃ y, y = (look f parent).getD z40 := ⟨_, rfl⟩; rw [← hy] at hK; obtain ⟨A3, Ac3, A4, Ac4, rfl⟩ := k40_cells hK; have HB2 := Aside0.mk (below_then HB1.out HB1.out.size hb2); have HY := Aside0.mk hy; clear hb2 hK hy)
    | fail)
  have HB3 : Aside0 (Below w.heap.size w (W2.alloc (.cells #[.int .i64 y.f0, .string y.f1, .int .i64 y.f2, .slice A3 y.f3.length Ac3, .slice A4 y.f4.length Ac4] 40))) := ⟨below_alloc HB2.out _⟩
  have q3 := (blk_cell (blk_new W2 (.cells #[.int .i64 y.f0, .string y.f1, .int .i64 y.f2, .slice A3 y.f3.length Ac3, .slice A4 y.f4.length Ac4] 40)) 3).trans (show _ = some (.slice A3 y.f3.length Ac3) from rfl)
  have hnx := (blk_cell (blk_below HB.out HB3.out) 1).trans (show _ = some (.int .i64 next) from rfl)
  generalize W2.alloc (.cells #[.int .i64 y.f0, .string y.f1, .int .i64 y.f2, .slice A3 y.f3.length Ac3, .slice A4 y.f4.length Ac4] 40) = W3 at HB3 q3 hnx ⊢
  generalize W2.heap.size = g at q3 ⊢
  unfold insE at hE
  cases hl : look f parent with
  | none =>
    have hz : (none : Option S40).isSome = false := rfl
    rw [hl] at hE
    obtain rfl : E = 1 := hE
    clear hl he
    go_wp2_with fail
    go_ret3
    exact ⟨rfl, HB3.out⟩
  | some x =>
    have hz : (some x).isSome = true := rfl
    have hyx := HY.out
    rw [hl] at hyx
    obtain rfl : y = x := hyx
    rw [hl] at hE
    simp only at hE
    clear hl
    by_cases c1 : index < 0 ∨ (y.f3.length : Int) < index
    · rw [if_pos c1] at hE
      obtain rfl : E = 3 := hE
      clear he
      by_cases c2 : index < 0
      · have d2 : decide (index < 0) = true := decide_eq_true c2
        clear c1 c2
        go_wp2_with fail
        go_ret3
        exact ⟨rfl, HB3.out⟩
      · have d2 : decide (index < 0) = false := decide_eq_false c2
        have d3 : decide ((y.f3.length : Int) < index) = true := decide_eq_true (c1.resolve_left c2)
        clear c1 c2
        go_wp2_with fail
        go_ret3
        exact ⟨rfl, HB3.out⟩
    · rw [if_neg c1] at hE
      have d2 : decide (index < 0) = false := decide_eq_false (fun h => c1 (.inl h))
      have d3 : decide ((y.f3.length : Int) < index) = false := decide_eq_false (fun h => c1 (.inr h))
      clear c1
      cases nm with
      | false =>
        rw [if_pos rfl] at hE
        obtain rfl : E = 7 := hE
        clear he
        go_wp2_with (first | (go_at_call 50; refine (name_calls n tag false _ HN.out).mono ?_; rintro e W4 ⟨rfl, hb4⟩; have HB4 := Aside0.mk (below_then HB3.out HB3.out.size hb4); clear hb4) | fail)
        go_ret3
        exact ⟨rfl, HB4.out⟩
      | true =>
        rw [if_neg (by decide)] at hE
        by_cases c4 : 1048576 ≤ next ∨ 512 ≤ dep
        · rw [if_pos c4] at hE
          obtain rfl : E = 5 := hE
          clear he
          by_cases c5 : 1048576 ≤ next
          · have d5 : decide (1048576 ≤ next) = true := decide_eq_true c5
            clear c4 c5
            go_wp2_with (first | (go_at_call 50; refine (name_calls n tag true _ HN.out).mono ?_; rintro e W4 ⟨rfl, hb4⟩; have HB4 := Aside0.mk (below_then HB3.out HB3.out.size hb4); have hnx4 := (blk_cell (blk_below HB.out HB4.out) 1).trans (show _ = some (.int .i64 next) from rfl); clear hb4) | fail)
            go_ret3
            exact ⟨rfl, HB4.out⟩
          · have d5 : decide (1048576 ≤ next) = false := decide_eq_false c5
            have d6 : decide (512 ≤ dep) = true := decide_eq_true (c4.resolve_left c5)
            clear c4 c5
            go_wp2_with (first | (go_at_call 50; refine (name_calls n tag true _ HN.out).mono ?_; rintro e W4 ⟨rfl, hb4⟩; have HB4 := Aside0.mk (below_then HB3.out HB3.out.size hb4); have hnx4 := (blk_cell (blk_below HB.out HB4.out) 1).trans (show _ = some (.int .i64 next) from rfl); clear hb4) | (go_at_call 53; refine (depth_calls m _ f next parent dep w _ HD.out HB4.out HDE.out).mono ?_; rintro e W5 ⟨rfl, hb5⟩; have HB5 := Aside0.mk (below_then HB4.out HB4.out.size hb5); clear hb5) | fail)
            go_ret3
            exact ⟨rfl, HB5.out⟩
        · rw [if_neg c4] at hE
          exact absurd hE he
set_option maxHeartbeats 8000000 in
set_option maxRecDepth 100000 in
theorem ins_O (ok : Nat → Prop) (n m : Nat) (v : Value) (f : Nat → Option S40) (next parent : Int) (i : Nat) (tag : ByteArray) (dep : Int) (y : S40) (w : World) (hfresh : ∀ k, w.heap.size ≤ k → ok k) (h : DocO ok w v f next) (hn : nameL tag n 0 = some true) (hd : depL f m (look f parent) 0 = some dep) (hl : look f parent = some y) (hi : i ≤ y.f3.length) (hs : y.f3.length ≤ 1099511627776 ∧ y.f4.length ≤ 1099511627776) (hnx : next < 1048576) (hdp : dep < 512) :
    Calls Try.prog 32 #[v, .int .i64 parent, .int .i64 (i : Int), .string tag] w fun e w' => ∃ v', e = .returned (.tuple #[v', .int .i64 next, .int .i64 0]) ∧ DocO ok w' v' (insF f next parent i tag) (wrap64 (next + 1)) ∧ Below w.heap.size w w' := by
  have HDO := Aside0.mk h
  have HD := Aside0.mk h.doc
  have HFR := Aside0.mk hfresh
  have HN := Aside0.mk hn
  have HDE := Aside0.mk hd
  have HL := Aside0.mk hl
  have HS := Aside0.mk (And.intro hi hs)
  obtain ⟨b, t, rfl, _, hb, _⟩ := h
  have HB := Aside0.mk hb
  have hu76 := Try.underlying76
  have hu40 := Try.underlying40
  have hu84 := Try.underlying84
  have d2 : decide ((i : Int) < 0) = false := decide_eq_false (by omega)
  have d3 : decide (y.f3.length < i) = false := decide_eq_false (by omega)
  have d5 : decide (1048576 ≤ next) = false := decide_eq_false (by omega)
  have d6 : decide (512 ≤ dep) = false := decide_eq_false (by omega)
  clear hn hd hb hi hs hnx hdp hfresh
  go_enter Try.func32, Try.ntmps32
  go_upto_region 4 with (first
    | (go_at_call 48; refine (dmade_calls _ f next _ HD.out).mono ?_; rintro e W1 ⟨rfl, hb1⟩; have HB1 := Aside0.mk hb1; clear hb1)
    | (go_at_call 41; refine (node_calls _ f next parent w _ HD.out HB1.out).mono ?_; rintro e W2 ⟨cs, rfl, hK, hb2⟩; rw [hl] at hK ⊢; obtain ⟨A3, Ac3, A4, Ac4, rfl⟩ := k40_cells (x := y) hK; have HB2 := Aside0.mk (below_then HB1.out HB1.out.size hb2); clear hb2 hK)
    | fail)
  have HB3 : Aside0 (Below w.heap.size w (W2.alloc (.cells #[.int .i64 y.f0, .string y.f1, .int .i64 y.f2, .slice A3 y.f3.length Ac3, .slice A4 y.f4.length Ac4] 40))) := ⟨below_alloc HB2.out _⟩
  have q3 := (blk_cell (blk_new W2 (.cells #[.int .i64 y.f0, .string y.f1, .int .i64 y.f2, .slice A3 y.f3.length Ac3, .slice A4 y.f4.length Ac4] 40)) 3).trans (show _ = some (.slice A3 y.f3.length Ac3) from rfl)
  generalize W2.alloc (.cells #[.int .i64 y.f0, .string y.f1, .int .i64 y.f2, .slice A3 y.f3.length Ac3, .slice A4 y.f4.length Ac4] 40) = W3 at HB3 q3 ⊢
  generalize W2.heap.size = g at q3 ⊢
  have hz : (some y).isSome = true := rfl
  clear hl
  go_upto_region 13 with (first
    | (go_at_call 50; refine (name_calls n tag true _ HN.out).mono ?_; rintro e W4 ⟨rfl, hb4⟩; have HB4 := Aside0.mk (below_then HB3.out HB3.out.size hb4); have hnx4 := (blk_cell (blk_below HB.out HB4.out) 1).trans (show _ = some (.int .i64 next) from rfl); clear hb4)
    | (go_at_call 53; refine (depth_calls m _ f next parent dep w _ HD.out HB4.out HDE.out).mono ?_; rintro e W5 ⟨rfl, hb5⟩; have HB5 := Aside0.mk (below_then HB4.out HB4.out.size hb5); have hnx5 := (blk_cell (blk_below HB.out HB5.out) 1).trans (show _ = some (.int .i64 next) from rfl); clear hb5)
    | fail)
  go_wp2_with fail
  refine (gains_calls (i : Int) next W5).mono ?_
  rintro e W6 ⟨b1, b2, rfl, h1, h2, hb6⟩
  have HB6 := Aside0.mk (below_then HB5.out HB5.out.size hb6)
  have HW : Aside0 (∀ (W : World) (gl : Nat), Below W6.heap.size W6 W → W.heap[gl]? = some (.cells #[.int .i64 parent, .func (.func 83) #[] #[.pointer (some ⟨b1, 0, none⟩), .pointer (some ⟨b2, 0, none⟩)]] 84 (0, 0)) → Calls Try.prog 54 #[.pointer (some ⟨b, 0, none⟩), .slice (some ⟨gl, 0, none⟩) 1 1] W fun e w' => ∃ b' t', e = .returned (.pointer (some ⟨b', 0, none⟩)) ∧ w.heap.size ≤ b' ∧ w'.heap[b']? = some (.cells #[.pointer (some t'), .int .i64 next] 76 (0, 0)) ∧ TrieO (fun k => ok k ∧ k ≠ b') w' (.pointer (some t')) (putF f parent (some (gainA i next ((look f parent).getD z40)))) ∧ Below w.heap.size w w') := ⟨fun W gl hbW hgl => by
    refine (with_O ok (.pointer (some ⟨b, 0, none⟩)) f next [⟨parent, 83, #[.pointer (some ⟨b1, 0, none⟩), .pointer (some ⟨b2, 0, none⟩)], gainA i next⟩] gl W (fun k hk => HFR.out k (Nat.le_trans (below_then HB6.out HB6.out.size hbW).size hk)) (HDO.out.below (below_then HB6.out HB6.out.size hbW)) (ChgRow.one hgl ent88) (by simp) (fun j c hc => ?_)).mono ?_
    · cases j with
      | zero =>
        obtain rfl := Option.some.inj hc
        show ((look f parent).getD z40).f3.length ≤ _ ∧ ((look f parent).getD z40).f4.length ≤ _ ∧ Gives W _ (fun x => x = (look f parent).getD z40)
        rw [HL.out]
        exact ⟨HS.out.2.1, HS.out.2.2, gains_gives W b1 b2 i next parent y (blk_below h1 hbW) (blk_below h2 hbW) HS.out.1 HS.out.2.1⟩
      | succ j => simp at hc
    · rintro e w' ⟨b', t', he, hle, hbl, hT, hb'⟩
      have hB := below_then HB6.out HB6.out.size hbW
      exact ⟨b', t', he, Nat.le_trans hB.size hle, hbl, hT, below_then hB hB.size hb'⟩⟩
  clear h1 h2 hb6 q3 d2 d3 d5 d6
  go_upto_region 14 with (first
    | (go_at_call 54; refine (HW.out _ _ (by repeat (first | exact Below.refl _ _ | apply below_alloc)) (by exact blk_new _ _)).mono ?_; rintro e W7 ⟨b', t', rfl, hle, hbl, hT, hb7⟩; have c0 := (blk_cell hbl 0).trans (show _ = some (.pointer (some t')) from rfl); have HBL := Aside0.mk hbl; have HT := Aside0.mk hT; have HB7 := Aside0.mk hb7; have HLE := Aside0.mk hle; clear hbl hT hb7 hle)
    | fail)
  have HPUT : Aside0 (Calls Try.prog 52 #[.pointer (some t'), .int .i64 next, .agg #[.int .i64 next, .string tag, .int .i64 parent, .slice none 0 0, .slice none 0 0]] W7 (PutPost (fun k => ok k ∧ k ≠ b') W7 (insF f next parent i tag))) := ⟨put_O (fun k => ok k ∧ k ≠ b') next _ _ (el next tag parent) _ W7 (fun k hk => ⟨HFR.out k (Nat.le_trans HB7.out.size hk), by have := blk_lt HBL.out; omega⟩) HT.out (fun W _ => el_K W next tag parent)⟩
  go_wp2_with (first
    | (go_at_call 52; refine HPUT.out.mono ?_; rintro e W8 ⟨t8, rfl, hT8, hb8⟩; obtain ⟨q8, rfl⟩ := hT8.ptr; have hbl8 := blk_below HBL.out hb8; have e0 := (blk_cell hbl8 0).trans (show _ = some (.pointer (some t')) from rfl); have e0f := blk_frozen hbl8 0; have e1 := (blk_cell hbl8 1).trans (show _ = some (.int .i64 next) from rfl); have e1f := blk_frozen hbl8 1; have HBL8 := Aside0.mk hbl8; have HT8 := Aside0.mk hT8; have HB8 := Aside0.mk (below_then HB7.out HB7.out.size hb8); clear hbl8 hT8 hb8)
    | fail)
  go_ret3
  refine ⟨_, rfl, ⟨b', q8, rfl, HFR.out _ HLE.out, blk_put (cs := #[.pointer (some q8), .int .i64 next]) (blk_put (cs := #[.pointer (some t'), .int .i64 next]) HBL8.out 0 _ rfl) 1 _ rfl, ?_⟩, below_set (below_set HB8.out HLE.out) HLE.out⟩
  exact HT8.out.step (fun k hk _ => (heap_setCell_other _ _ k _ hk.2).trans (heap_setCell_other _ _ k _ hk.2)) (fun _ h => h.1)
end Go.Proofs.Ytpnlbmeeihbjaaa.P
end
