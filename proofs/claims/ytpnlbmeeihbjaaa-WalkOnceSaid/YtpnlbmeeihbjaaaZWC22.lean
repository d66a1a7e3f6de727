/- WalkOnce: for every input the law returns true, and each argument reads behind the call as it read before. -/
import Derived.Test.YtpnlbmeeihbjaaaZWC9
import Derived.Test.YtpnlbmeeihbjaaaZWC18
import Derived.Test.YtpnlbmeeihbjaaaZWC21
section
set_option linter.unusedVariables false
set_option linter.unusedSimpArgs false
namespace Go.Proofs.Ytpnlbmeeihbjaaa.P
open Go.RowKit Go.Proofs.YtpnlbmeeihbjaaaW.PrintWords Go.Proofs.YtpnlbmeeihbjaaaW.PrintLast Go.Proofs.YtpnlbmeeihbjaaaW.PrintMore
attribute [local go_sem] max2_int min2_int max_two min_two max_three min_three max_four min_four
set_option linter.unusedVariables false
set_option linter.unusedSimpArgs false
def movK (y z : S40) (parent : Int) : Int := if y.f2 = parent then wrap64 ((z.f3.length : Int) - 1) else z.f3.length
def movE (f : Nat → Option S40) (id parent index : Int) (wt : Bool) (dep tl : Int) : Int :=
  match look f id, look f parent with
  | none, _ => 1
  | some _, none => 1
  | some y, some z => if id = 1 ∨ wt = true then 2 else if index < 0 ∨ movK y z parent < index then 3 else if 512 < wrap64 (dep + tl) then 5 else 0
def movF1 (f : Nat → Option S40) (id pid : Int) : Nat → Option S40 := putF f pid (some (loseA id ((look f pid).getD z40)))
def movF2 (f : Nat → Option S40) (id pid parent : Int) (i : Nat) : Nat → Option S40 := putF (movF1 f id pid) parent (some (gainA i id ((look (movF1 f id pid) parent).getD z40)))
def movF (f : Nat → Option S40) (id pid parent : Int) (i : Nat) : Nat → Option S40 := putF (movF2 f id pid parent i) id (some (ownA parent ((look (movF2 f id pid parent i) id).getD z40)))
theorem ChgRow.three {w : World} {gl : Nat} {a c d : Chg} (hw : w.heap[gl]? = some (.cells #[.int .i64 a.id, .func (.func a.fn) #[] a.cap, .int .i64 c.id, .func (.func c.fn) #[] c.cap, .int .i64 d.id, .func (.func d.fn) #[] d.cap] 84 (0, 0)))
    (ha : ∀ (args : Array Value) (w : World), (callFunc a.fn args).run Try.prog w = .ok (.enter a.fn args) w) (hc : ∀ (args : Array Value) (w : World), (callFunc c.fn args).run Try.prog w = .ok (.enter c.fn args) w) (hd : ∀ (args : Array Value) (w : World), (callFunc d.fn args).run Try.prog w = .ok (.enter d.fn args) w) : ChgRow w gl [a, c, d] := by
  refine ⟨_, hw, fun i e he => ?_⟩
  rcases i with _ | _ | _ | i
  · obtain rfl := Option.some.inj he; exact ⟨rfl, rfl, ha⟩
  · obtain rfl := Option.some.inj he; exact ⟨rfl, rfl, hc⟩
  · obtain rfl := Option.some.inj he; exact ⟨rfl, rfl, hd⟩
  · simp at he
set_option maxHeartbeats 8000000 in
set_option maxRecDepth 100000 in
theorem mov_no (m : Nat) (v : Value) (f : Nat → Option S40) (next id parent index : Int) (wt : Bool) (dep tl : Int) (w : World) (h : DocF w v f next) (hw : witL f id m (look f parent) = some wt) (hd : depL f m (look f parent) 0 = some dep) (ht : ∀ W : World, Below w.heap.size w W → Calls Try.prog 60 #[v, .int .i64 id] W fun e w' => e = .returned (.int .i64 tl) ∧ Below W.heap.size W w') (he : movE f id parent index wt dep tl ≠ 0) :
    Calls Try.prog 34 #[v, .int .i64 id, .int .i64 parent, .int .i64 index] w fun e w' => e = .returned (.tuple #[v, .int .i64 (movE f id parent index wt dep tl)]) ∧ Below w.heap.size w w' := by
  have HWT := Aside0.mk hw
  have HDP := Aside0.mk hd
  have HTL := Aside0.mk ht
  obtain ⟨E, hE⟩ : ∃ E, E = movE f id parent index wt dep tl := ⟨_, rfl⟩
  rw [← hE] at he ⊢
  clear hw hd ht
  have HD := Aside0.mk h
  obtain ⟨b, t, rfl, hb, _⟩ := h
  have hu76 := Try.underlying76
  have hu40 := Try.underlying40
  have hu84 := Try.underlying84
  have hmf := hmf56
  clear hb
  go_enter Try.func34, Try.ntmps34
  go_upto_region 4 with (first
    | (go_at_call 48; refine (dmade_calls _ f next _ (HD.out.below (below_alloc (Below.refl _ _) _))).mono ?_; rintro e W1 ⟨rfl, hb1⟩; have h6 := blk_below (blk_new w (.cells #[.int .i64 parent] 3)) hb1; have HB1 := Aside0.mk (below_then (below_alloc (Below.refl _ w) (.cells #[.int .i64 parent] 3)) (below_alloc (Below.refl _ w) (.cells #[.int .i64 parent] 3)).size hb1); have H6 := Aside0.mk h6; clear hb1 h6)
    | (go_at_call 41; refine (node_calls _ f next id w _ HD.out HB1.out).mono ?_; rintro e W2 ⟨cs, rfl, hK, hb2⟩; obtain ⟨y, hy⟩ : ∃ y, y = (look f id).getD z40 := ⟨_, rfl⟩; rw [← hy] at hK; obtain ⟨A3, Ac3, A4, Ac4, rfl⟩ := k40_cells hK; have HB2 := Aside0.mk (below_then HB1.out HB1.out.size hb2); have H62 := Aside0.mk (blk_below H6.out hb2); have HY := Aside0.mk hy; clear hb2 hK hy)
    | fail)
  have HB3 : Aside0 (Below w.heap.size w (W2.alloc (.cells #[.int .i64 y.f0, .string y.f1, .int .i64 y.f2, .slice A3 y.f3.length Ac3, .slice A4 y.f4.length Ac4] 40))) := ⟨below_alloc HB2.out _⟩
  have H10 : Aside0 ((W2.alloc (.cells #[.int .i64 y.f0, .string y.f1, .int .i64 y.f2, .slice A3 y.f3.length Ac3, .slice A4 y.f4.length Ac4] 40)).cell? ⟨W2.heap.size, 2, none⟩ = some (.int .i64 y.f2)) := ⟨(blk_cell (blk_new W2 _) 2).trans rfl⟩
  have H63 : Aside0 ((W2.alloc (.cells #[.int .i64 y.f0, .string y.f1, .int .i64 y.f2, .slice A3 y.f3.length Ac3, .slice A4 y.f4.length Ac4] 40)).heap[w.heap.size]? = some (.cells #[.int .i64 parent] 3 (0, 0))) := ⟨blk_alloc H62.out _⟩
  generalize W2.alloc (.cells #[.int .i64 y.f0, .string y.f1, .int .i64 y.f2, .slice A3 y.f3.length Ac3, .slice A4 y.f4.length Ac4] 40) = W3 at HB3 H10 H63 ⊢
  generalize W2.heap.size = g10 at H10 ⊢
  have c6 := (blk_cell H63.out 0).trans (show _ = some (.int .i64 parent) from rfl)
  go_upto_region 5 with (first
    | (go_at_call 41; refine (node_calls _ f next parent w _ HD.out HB3.out).mono ?_; rintro e W4 ⟨cs, rfl, hK, hb4⟩; obtain ⟨z, hz⟩ : ∃ z, z = (look f parent).getD z40 := ⟨_, rfl⟩; rw [← hz] at hK; obtain ⟨B3, Bc3, B4, Bc4, rfl⟩ := k40_cells hK; have HB4 := Aside0.mk (below_then HB3.out HB3.out.size hb4); have H64 := Aside0.mk (blk_below H63.out hb4); have H104 := Aside0.mk (pw_cell_below hb4 H10.out); have HZ := Aside0.mk hz; clear hb4 hK hz)
    | fail)
  have HB5 : Aside0 (Below w.heap.size w (W4.alloc (.cells #[.int .i64 z.f0, .string z.f1, .int .i64 z.f2, .slice B3 z.f3.length Bc3, .slice B4 z.f4.length Bc4] 40))) := ⟨below_alloc HB4.out _⟩
  have c12 : (W4.alloc (.cells #[.int .i64 z.f0, .string z.f1, .int .i64 z.f2, .slice B3 z.f3.length Bc3, .slice B4 z.f4.length Bc4] 40)).cell? ⟨W4.heap.size, 3, none⟩ = some (.slice B3 z.f3.length Bc3) := (blk_cell (blk_new W4 _) 3).trans rfl
  have c10 := pw_cell_below (below_alloc (Below.refl _ W4) (.cells #[.int .i64 z.f0, .string z.f1, .int .i64 z.f2, .slice B3 z.f3.length Bc3, .slice B4 z.f4.length Bc4] 40)) H104.out
  have c65 := (blk_cell (blk_alloc H64.out (.cells #[.int .i64 z.f0, .string z.f1, .int .i64 z.f2, .slice B3 z.f3.length Bc3, .slice B4 z.f4.length Bc4] 40)) 0).trans (show _ = some (.int .i64 parent) from rfl)
  have H65 := Aside0.mk (blk_alloc H64.out (.cells #[.int .i64 z.f0, .string z.f1, .int .i64 z.f2, .slice B3 z.f3.length Bc3, .slice B4 z.f4.length Bc4] 40))
  generalize W4.alloc (.cells #[.int .i64 z.f0, .string z.f1, .int .i64 z.f2, .slice B3 z.f3.length Bc3, .slice B4 z.f4.length Bc4] 40) = W5 at HB5 c12 c10 c65 H65 ⊢
  generalize W4.heap.size = g12 at c12 ⊢
  clear c6
  unfold movE at hE
  cases hl : look f id with
  | none =>
    rw [hl] at hE
    obtain rfl : E = 1 := hE
    have hs : (none : Option S40).isSome = false := rfl
    clear hl he
    by_cases cp : y.f2 = parent
    · have e38 : (y.f2 == parent) = true := by simpa using cp
      clear cp
      go_wp2_with fail
      go_ret2
      exact ⟨rfl, HB5.out⟩
    · have e38 : (y.f2 == parent) = false := by simpa using cp
      clear cp
      go_wp2_with fail
      go_ret2
      exact ⟨rfl, HB5.out⟩
  | some y' =>
    have hs : (some y').isSome = true := rfl
    rw [hl] at hE
    have hyy := HY.out
    rw [hl] at hyy
    obtain rfl : y = y' := hyy
    clear hl
    cases hl2 : look f parent with
    | none =>
      rw [hl2] at hE
      obtain rfl : E = 1 := hE
      have hs2 : (none : Option S40).isSome = false := rfl
      clear hl2 he
      by_cases cp : y.f2 = parent
      · have e38 : (y.f2 == parent) = true := by simpa using cp
        clear cp
        go_wp2_with fail
        go_ret2
        exact ⟨rfl, HB5.out⟩
      · have e38 : (y.f2 == parent) = false := by simpa using cp
        clear cp
        go_wp2_with fail
        go_ret2
        exact ⟨rfl, HB5.out⟩
    | some z' =>
      have hs2 : (some z').isSome = true := rfl
      rw [hl2] at hE
      have hzz := HZ.out
      rw [hl2] at hzz
      obtain rfl : z = z' := hzz
      clear hl2
      simp only at hE
      by_cases c1 : id = 1 ∨ wt = true
      · rw [if_pos c1] at hE
        obtain rfl : E = 2 := hE
        clear he
        by_cases c2 : id = 1
        · subst c2
          clear c1
          by_cases cp : y.f2 = parent
          · have e38 : (y.f2 == parent) = true := by simpa using cp
            clear cp
            go_wp2_with fail
            go_ret2
            exact ⟨rfl, HB5.out⟩
          · have e38 : (y.f2 == parent) = false := by simpa using cp
            clear cp
            go_wp2_with fail
            go_ret2
            exact ⟨rfl, HB5.out⟩
        · obtain rfl : wt = true := c1.resolve_left c2
          have d1 : (id == 1) = false := by simpa using c2
          clear c1 c2
          by_cases cp : y.f2 = parent
          · have e38 : (y.f2 == parent) = true := by simpa using cp
            clear cp
            go_wp2_with (first | (go_at_call 59; refine (within_calls m _ f next parent id _ w _ HD.out HB5.out HWT.out).mono ?_; rintro e W6 ⟨rfl, hb6⟩; have HB6 := Aside0.mk (below_then HB5.out HB5.out.size hb6); have c66 := pw_cell_below hb6 c65; have c106 := pw_cell_below hb6 c10; have H66 := Aside0.mk (blk_below H65.out hb6); clear hb6) | fail)
            go_ret2
            exact ⟨rfl, HB6.out⟩
          · have e38 : (y.f2 == parent) = false := by simpa using cp
            clear cp
            go_wp2_with (first | (go_at_call 59; refine (within_calls m _ f next parent id _ w _ HD.out HB5.out HWT.out).mono ?_; rintro e W6 ⟨rfl, hb6⟩; have HB6 := Aside0.mk (below_then HB5.out HB5.out.size hb6); have c66 := pw_cell_below hb6 c65; have c106 := pw_cell_below hb6 c10; have H66 := Aside0.mk (blk_below H65.out hb6); clear hb6) | fail)
            go_ret2
            exact ⟨rfl, HB6.out⟩
      · rw [if_neg c1] at hE
        obtain rfl : wt = false := by cases wt with | false => rfl | true => exact absurd (.inr rfl) c1
        have d1 : (id == 1) = false := by simpa using (fun e => c1 (.inl e))
        clear c1
        by_cases c3 : index < 0 ∨ movK y z parent < index
        · rw [if_pos c3] at hE
          obtain rfl : E = 3 := hE
          clear he
          by_cases c4 : index < 0
          · have d4 : decide (index < 0) = true := decide_eq_true c4
            clear c3 c4
            by_cases cp : y.f2 = parent
            · have e38 : (y.f2 == parent) = true := by simpa using cp
              clear cp
              go_wp2_with (first | (go_at_call 59; refine (within_calls m _ f next parent id _ w _ HD.out HB5.out HWT.out).mono ?_; rintro e W6 ⟨rfl, hb6⟩; have HB6 := Aside0.mk (below_then HB5.out HB5.out.size hb6); have c66 := pw_cell_below hb6 c65; have c106 := pw_cell_below hb6 c10; have H66 := Aside0.mk (blk_below H65.out hb6); clear hb6) | fail)
              go_ret2
              exact ⟨rfl, HB6.out⟩
            · have e38 : (y.f2 == parent) = false := by simpa using cp
              clear cp
              go_wp2_with (first | (go_at_call 59; refine (within_calls m _ f next parent id _ w _ HD.out HB5.out HWT.out).mono ?_; rintro e W6 ⟨rfl, hb6⟩; have HB6 := Aside0.mk (below_then HB5.out HB5.out.size hb6); have c66 := pw_cell_below hb6 c65; have c106 := pw_cell_below hb6 c10; have H66 := Aside0.mk (blk_below H65.out hb6); clear hb6) | fail)
              go_ret2
              exact ⟨rfl, HB6.out⟩
          · have d4 : decide (index < 0) = false := decide_eq_false c4
            have c5 := c3.resolve_left c4
            unfold movK at c5
            clear c3 c4
            by_cases cp : y.f2 = parent
            · have e38 : (y.f2 == parent) = true := by simpa using cp
              rw [if_pos cp] at c5
              have d5 : decide (wrap64 ((z.f3.length : Int) - 1) < index) = true := decide_eq_true c5
              clear c5
              clear cp
              go_wp2_with (first | (go_at_call 59; refine (within_calls m _ f next parent id _ w _ HD.out HB5.out HWT.out).mono ?_; rintro e W6 ⟨rfl, hb6⟩; have HB6 := Aside0.mk (below_then HB5.out HB5.out.size hb6); have c66 := pw_cell_below hb6 c65; have c106 := pw_cell_below hb6 c10; have H66 := Aside0.mk (blk_below H65.out hb6); clear hb6) | fail)
              go_ret2
              exact ⟨rfl, HB6.out⟩
            · have e38 : (y.f2 == parent) = false := by simpa using cp
              rw [if_neg cp] at c5
              have d5 : decide ((z.f3.length : Int) < index) = true := decide_eq_true c5
              clear c5
              clear cp
              go_wp2_with (first | (go_at_call 59; refine (within_calls m _ f next parent id _ w _ HD.out HB5.out HWT.out).mono ?_; rintro e W6 ⟨rfl, hb6⟩; have HB6 := Aside0.mk (below_then HB5.out HB5.out.size hb6); have c66 := pw_cell_below hb6 c65; have c106 := pw_cell_below hb6 c10; have H66 := Aside0.mk (blk_below H65.out hb6); clear hb6) | fail)
              go_ret2
              exact ⟨rfl, HB6.out⟩
        · rw [if_neg c3] at hE
          by_cases c6 : 512 < wrap64 (dep + tl)
          · rw [if_pos c6] at hE
            obtain rfl : E = 5 := hE
            have d4 : decide (index < 0) = false := decide_eq_false (fun e => c3 (.inl e))
            have d6 : decide (512 < wrap64 (dep + tl)) = true := decide_eq_true c6
            have c5 : ¬ movK y z parent < index := fun e => c3 (.inr e)
            unfold movK at c5
            clear c3 c6 he
            by_cases cp : y.f2 = parent
            · have e38 : (y.f2 == parent) = true := by simpa using cp
              rw [if_pos cp] at c5
              have d5 : decide (wrap64 ((z.f3.length : Int) - 1) < index) = false := decide_eq_false c5
              clear c5
              clear cp
              go_wp2_with (first | (go_at_call 59; refine (within_calls m _ f next parent id _ w _ HD.out HB5.out HWT.out).mono ?_; rintro e W6 ⟨rfl, hb6⟩; have HB6 := Aside0.mk (below_then HB5.out HB5.out.size hb6); have c66 := pw_cell_below hb6 c65; have c106 := pw_cell_below hb6 c10; have H66 := Aside0.mk (blk_below H65.out hb6); clear hb6) | (go_at_call 53; refine (depth_calls m _ f next parent dep w _ HD.out HB6.out HDP.out).mono ?_; rintro e W7 ⟨rfl, hb7⟩; have HB7 := Aside0.mk (below_then HB6.out HB6.out.size hb7); have c67 := pw_cell_below hb7 c66; have c107 := pw_cell_below hb7 c106; have H67 := Aside0.mk (blk_below H66.out hb7); clear hb7) | (go_at_call 60; refine ((HTL.out _ HB7.out).mono ?_); rintro e W8 ⟨rfl, hb8⟩; have HB8 := Aside0.mk (below_then HB7.out HB7.out.size hb8); have c68 := pw_cell_below hb8 c67; have c108 := pw_cell_below hb8 c107; have H68 := Aside0.mk (blk_below H67.out hb8); clear hb8) | fail)
              go_ret2
              exact ⟨rfl, HB8.out⟩
            · have e38 : (y.f2 == parent) = false := by simpa using cp
              rw [if_neg cp] at c5
              have d5 : decide ((z.f3.length : Int) < index) = false := decide_eq_false c5
              clear c5
              clear cp
              go_wp2_with (first | (go_at_call 59; refine (within_calls m _ f next parent id _ w _ HD.out HB5.out HWT.out).mono ?_; rintro e W6 ⟨rfl, hb6⟩; have HB6 := Aside0.mk (below_then HB5.out HB5.out.size hb6); have c66 := pw_cell_below hb6 c65; have c106 := pw_cell_below hb6 c10; have H66 := Aside0.mk (blk_below H65.out hb6); clear hb6) | (go_at_call 53; refine (depth_calls m _ f next parent dep w _ HD.out HB6.out HDP.out).mono ?_; rintro e W7 ⟨rfl, hb7⟩; have HB7 := Aside0.mk (below_then HB6.out HB6.out.size hb7); have c67 := pw_cell_below hb7 c66; have c107 := pw_cell_below hb7 c106; have H67 := Aside0.mk (blk_below H66.out hb7); clear hb7) | (go_at_call 60; refine ((HTL.out _ HB7.out).mono ?_); rintro e W8 ⟨rfl, hb8⟩; have HB8 := Aside0.mk (below_then HB7.out HB7.out.size hb8); have c68 := pw_cell_below hb8 c67; have c108 := pw_cell_below hb8 c107; have H68 := Aside0.mk (blk_below H67.out hb8); clear hb8) | fail)
              go_ret2
              exact ⟨rfl, HB8.out⟩
          · rw [if_neg c6] at hE
            exact absurd hE he
set_option maxHeartbeats 8000000 in
set_option maxRecDepth 100000 in
theorem mov_O (ok : Nat → Prop) (m : Nat) (v : Value) (f : Nat → Option S40) (next id parent : Int) (i : Nat) (dep tl : Int) (y z : S40) (w : World) (hfresh : ∀ k, w.heap.size ≤ k → ok k) (h : DocO ok w v f next) (hw : witL f id m (look f parent) = some false) (hd : depL f m (look f parent) 0 = some dep) (ht : ∀ W : World, Below w.heap.size w W → Calls Try.prog 60 #[v, .int .i64 id] W fun e w' => e = .returned (.int .i64 tl) ∧ Below W.heap.size W w')
    (hly : look f id = some y) (hlz : look f parent = some z) (h1 : id ≠ 1) (hi : ¬ movK y z parent < i) (hlim : ¬ 512 < wrap64 (dep + tl))
    (hs0 : ((look f y.f2).getD z40).f3.length ≤ 1099511627776 ∧ ((look f y.f2).getD z40).f4.length ≤ 1099511627776)
    (hs1 : ((look (movF1 f id y.f2) parent).getD z40).f3.length ≤ 1099511627776 ∧ ((look (movF1 f id y.f2) parent).getD z40).f4.length ≤ 1099511627776) (hi1 : i ≤ ((look (movF1 f id y.f2) parent).getD z40).f3.length)
    (hs2 : ((look (movF2 f id y.f2 parent i) id).getD z40).f3.length ≤ 1099511627776 ∧ ((look (movF2 f id y.f2 parent i) id).getD z40).f4.length ≤ 1099511627776) :
    Calls Try.prog 34 #[v, .int .i64 id, .int .i64 parent, .int .i64 (i : Int)] w fun e w' => ∃ v', e = .returned (.tuple #[v', .int .i64 0]) ∧ DocO ok w' v' (movF f id y.f2 parent i) next ∧ Below w.heap.size w w' := by
  have HWT := Aside0.mk hw
  have HDP := Aside0.mk hd
  have HTL := Aside0.mk ht
  have HDO := Aside0.mk h
  have HFR := Aside0.mk hfresh
  replace h := h.doc
  have HSS := Aside0.mk (And.intro hs0 (And.intro hs1 (And.intro hi1 hs2)))
  have d1 : (id == 1) = false := by simpa using h1
  have d4 : decide ((i : Int) < 0) = false := decide_eq_false (by omega)
  have d6 : decide (512 < wrap64 (dep + tl)) = false := decide_eq_false hlim
  have HLZ := Aside0.mk hlz
  have HLY := Aside0.mk hly
  have HCI := Aside0.mk hi
  clear hw hd ht hs0 hs1 hi1 hs2 h1 hi hlim hly hlz hfresh
  have HD := Aside0.mk h
  obtain ⟨b, t, rfl, hb, _⟩ := h
  have hu76 := Try.underlying76
  have hu40 := Try.underlying40
  have hu84 := Try.underlying84
  have hmf := hmf56
  clear hb
  go_enter Try.func34, Try.ntmps34
  go_upto_region 4 with (first
    | (go_at_call 48; refine (dmade_calls _ f next _ (HD.out.below (below_alloc (Below.refl _ _) _))).mono ?_; rintro e W1 ⟨rfl, hb1⟩; have h6 := blk_below (blk_new w (.cells #[.int .i64 parent] 3)) hb1; have HB1 := Aside0.mk (below_then (below_alloc (Below.refl _ w) (.cells #[.int .i64 parent] 3)) (below_alloc (Below.refl _ w) (.cells #[.int .i64 parent] 3)).size hb1); have H6 := Aside0.mk h6; clear hb1 h6)
    | (go_at_call 41; refine (node_calls _ f next id w _ HD.out HB1.out).mono ?_; rintro e W2 ⟨cs, rfl, hK, hb2⟩; rw [HLY.out] at hK ⊢; obtain ⟨A3, Ac3, A4, Ac4, rfl⟩ := k40_cells (x := y) hK; have HB2 := Aside0.mk (below_then HB1.out HB1.out.size hb2); have H62 := Aside0.mk (blk_below H6.out hb2); clear hb2 hK)
    | fail)
  have HB3 : Aside0 (Below w.heap.size w (W2.alloc (.cells #[.int .i64 y.f0, .string y.f1, .int .i64 y.f2, .slice A3 y.f3.length Ac3, .slice A4 y.f4.length Ac4] 40))) := ⟨below_alloc HB2.out _⟩
  have H10 : Aside0 ((W2.alloc (.cells #[.int .i64 y.f0, .string y.f1, .int .i64 y.f2, .slice A3 y.f3.length Ac3, .slice A4 y.f4.length Ac4] 40)).cell? ⟨W2.heap.size, 2, none⟩ = some (.int .i64 y.f2)) := ⟨(blk_cell (blk_new W2 _) 2).trans rfl⟩
  have H63 : Aside0 ((W2.alloc (.cells #[.int .i64 y.f0, .string y.f1, .int .i64 y.f2, .slice A3 y.f3.length Ac3, .slice A4 y.f4.length Ac4] 40)).heap[w.heap.size]? = some (.cells #[.int .i64 parent] 3 (0, 0))) := ⟨blk_alloc H62.out _⟩
  generalize W2.alloc (.cells #[.int .i64 y.f0, .string y.f1, .int .i64 y.f2, .slice A3 y.f3.length Ac3, .slice A4 y.f4.length Ac4] 40) = W3 at HB3 H10 H63 ⊢
  generalize W2.heap.size = g10 at H10 ⊢
  have c6 := (blk_cell H63.out 0).trans (show _ = some (.int .i64 parent) from rfl)
  go_upto_region 5 with (first
    | (go_at_call 41; refine (node_calls _ f next parent w _ HD.out HB3.out).mono ?_; rintro e W4 ⟨cs, rfl, hK, hb4⟩; rw [HLZ.out] at hK ⊢; obtain ⟨B3, Bc3, B4, Bc4, rfl⟩ := k40_cells (x := z) hK; have HB4 := Aside0.mk (below_then HB3.out HB3.out.size hb4); have H64 := Aside0.mk (blk_below H63.out hb4); have H104 := Aside0.mk (pw_cell_below hb4 H10.out); clear hb4 hK)
    | fail)
  have HB5 : Aside0 (Below w.heap.size w (W4.alloc (.cells #[.int .i64 z.f0, .string z.f1, .int .i64 z.f2, .slice B3 z.f3.length Bc3, .slice B4 z.f4.length Bc4] 40))) := ⟨below_alloc HB4.out _⟩
  have c12 : (W4.alloc (.cells #[.int .i64 z.f0, .string z.f1, .int .i64 z.f2, .slice B3 z.f3.length Bc3, .slice B4 z.f4.length Bc4] 40)).cell? ⟨W4.heap.size, 3, none⟩ = some (.slice B3 z.f3.length Bc3) := (blk_cell (blk_new W4 _) 3).trans rfl
  have c10 := pw_cell_below (below_alloc (Below.refl _ W4) (.cells #[.int .i64 z.f0, .string z.f1, .int .i64 z.f2, .slice B3 z.f3.length Bc3, .slice B4 z.f4.length Bc4] 40)) H104.out
  have c65 := (blk_cell (blk_alloc H64.out (.cells #[.int .i64 z.f0, .string z.f1, .int .i64 z.f2, .slice B3 z.f3.length Bc3, .slice B4 z.f4.length Bc4] 40)) 0).trans (show _ = some (.int .i64 parent) from rfl)
  have H65 := Aside0.mk (blk_alloc H64.out (.cells #[.int .i64 z.f0, .string z.f1, .int .i64 z.f2, .slice B3 z.f3.length Bc3, .slice B4 z.f4.length Bc4] 40))
  generalize W4.alloc (.cells #[.int .i64 z.f0, .string z.f1, .int .i64 z.f2, .slice B3 z.f3.length Bc3, .slice B4 z.f4.length Bc4] 40) = W5 at HB5 c12 c10 c65 H65 ⊢
  generalize W4.heap.size = g12 at c12 ⊢
  clear c6
  have hs : (some y).isSome = true := rfl
  have hs2 : (some z).isSome = true := rfl
  have c5 := HCI.out
  unfold movK at c5
  by_cases cp : y.f2 = parent
  · have e38 : (y.f2 == parent) = true := by simpa using cp
    rw [if_pos cp] at c5
    have d5 : decide (wrap64 ((z.f3.length : Int) - 1) < (i : Int)) = false := decide_eq_false (by omega)
    clear c5 cp
    go_upto_region 17 with (first | (go_at_call 59; refine (within_calls m _ f next parent id _ w _ HD.out HB5.out HWT.out).mono ?_; rintro e W6 ⟨rfl, hb6⟩; have HB6 := Aside0.mk (below_then HB5.out HB5.out.size hb6); have c66 := pw_cell_below hb6 c65; have c106 := pw_cell_below hb6 c10; have H66 := Aside0.mk (blk_below H65.out hb6); clear hb6) | (go_at_call 53; refine (depth_calls m _ f next parent dep w _ HD.out HB6.out HDP.out).mono ?_; rintro e W7 ⟨rfl, hb7⟩; have HB7 := Aside0.mk (below_then HB6.out HB6.out.size hb7); have c67 := pw_cell_below hb7 c66; have c107 := pw_cell_below hb7 c106; have H67 := Aside0.mk (blk_below H66.out hb7); clear hb7) | (go_at_call 60; refine ((HTL.out _ HB7.out).mono ?_); rintro e W8 ⟨rfl, hb8⟩; have HB8 := Aside0.mk (below_then HB7.out HB7.out.size hb8); have c68 := pw_cell_below hb8 c67; have c108 := pw_cell_below hb8 c107; have H68 := Aside0.mk (blk_below H67.out hb8); clear hb8) | fail)
    have HLOSE : Aside0 (∀ W : World, Below W8.heap.size W8 W → Calls Try.prog 56 #[.int .i64 id] W fun e w' => ∃ b1, e = .returned (.func (.func 85) #[] #[.pointer (some ⟨b1, 0, none⟩)]) ∧ w'.heap[b1]? = some (.cells #[.int .i64 id] 3 (0, 0)) ∧ Below W8.heap.size W8 w') := ⟨fun W hW => (loses_calls id W).mono (by rintro e w' ⟨b1, he, h1, hb⟩; exact ⟨b1, he, h1, below_then hW hW.size hb⟩)⟩
    have HROW : Aside0 (∀ (b1 b2 b3 : Nat) (W9 W10 W : World) (gl : Nat), W9.heap[b1]? = some (.cells #[.int .i64 id] 3 (0, 0)) → Below W8.heap.size W8 W9 → W10.heap[b2]? = some (.cells #[.int .i64 (i : Int)] 3 (0, 0)) → W10.heap[b3]? = some (.cells #[.int .i64 id] 3 (0, 0)) → Below W9.heap.size W9 W10 → Below W10.heap.size W10 W → W.heap[gl]? = some (.cells #[.int .i64 y.f2, .func (.func 85) #[] #[.pointer (some ⟨b1, 0, none⟩)], .int .i64 parent, .func (.func 83) #[] #[.pointer (some ⟨b2, 0, none⟩), .pointer (some ⟨b3, 0, none⟩)], .int .i64 id, .func (.func 61) #[] #[.pointer (some ⟨w.heap.size, 0, none⟩)]] 84 (0, 0)) → Calls Try.prog 54 #[.pointer (some ⟨b, 0, none⟩), .slice (some ⟨gl, 0, none⟩) 3 3] W fun e w' => ∃ v', e = .returned v' ∧ DocO ok w' v' (movF f id y.f2 parent i) next ∧ Below W8.heap.size W8 w') := ⟨by
      intro b1 b2 b3 W9 W10 W gl h1 hb9 h2 h3 hb10 hbW hgl
      have h8W := below_then (below_then hb9 hb9.size hb10) (below_then hb9 hb9.size hb10).size hbW
      have hB9 := below_then HB8.out HB8.out.size hb9
      have hB10 := below_then hB9 hB9.size hb10
      have hBW := below_then hB10 hB10.size hbW
      refine (with_O ok (.pointer (some ⟨b, 0, none⟩)) f next [⟨y.f2, 85, #[.pointer (some ⟨b1, 0, none⟩)], loseA id⟩, ⟨parent, 83, #[.pointer (some ⟨b2, 0, none⟩), .pointer (some ⟨b3, 0, none⟩)], gainA i id⟩, ⟨id, 61, #[.pointer (some ⟨w.heap.size, 0, none⟩)], ownA parent⟩] gl W (fun k hk => HFR.out k (Nat.le_trans hBW.size hk)) (HDO.out.below hBW) (ChgRow.three hgl ent90 ent88 ent55) (by simp) (fun j c hc => ?_)).mono ?_
      · rcases j with _ | _ | _ | j
        · obtain rfl := Option.some.inj hc
          exact ⟨HSS.out.1.1, HSS.out.1.2, loses_gives W b1 id y.f2 _ (blk_below (blk_below h1 hb10) hbW) HSS.out.1.1⟩
        · obtain rfl := Option.some.inj hc
          exact ⟨HSS.out.2.1.1, HSS.out.2.1.2, gains_gives W b2 b3 i id parent _ (blk_below h2 hbW) (blk_below h3 hbW) HSS.out.2.2.1 HSS.out.2.1.1⟩
        · obtain rfl := Option.some.inj hc
          exact ⟨HSS.out.2.2.2.1, HSS.out.2.2.2.2, own_gives W w.heap.size parent id _ (blk_below (blk_below (blk_below H68.out hb9) hb10) hbW)⟩
        · simp at hc
      · rintro e w' ⟨b', t', he, hle, hbl, hT, hb'⟩
        exact ⟨_, he, ⟨b', t', rfl, HFR.out _ (Nat.le_trans hBW.size hle), hbl, hT.step (fun _ _ _ => rfl) (fun _ h => h.1)⟩, below_then h8W h8W.size hb'⟩⟩
    clear e38 d1 d4 d5 d6 c10 c12 c65 c66 c106 c67 c107
    go_region_held3 (fun w' => w'.cell? ⟨g10, 2, none⟩ = some (.int .i64 y.f2) ∧ w'.cell? ⟨w.heap.size, 0, none⟩ = some (.int .i64 parent)) (first | go_keep | exact ⟨pw_cell_below HB11.out c108, pw_cell_below HB11.out c68⟩ | exact ⟨pw_cell_below HB10.out c108, pw_cell_below HB10.out c68⟩ | exact ⟨pw_cell_below HB9.out c108, pw_cell_below HB9.out c68⟩) (first
      | (go_at_call 56; (with_reducible refine (HLOSE.out _ (by repeat (first | exact Below.refl _ _ | apply below_alloc | apply below_drew1 | apply pw_below_drewN))).mono ?_); rintro e W9 ⟨b1, rfl, h1, hb9⟩; have H1 := Aside0.mk h1; have HB9 := Aside0.mk hb9; have c69 := pw_cell_below hb9 c68; have c109 := pw_cell_below hb9 c108; clear h1 hb9)
      | (go_at_call 55; (with_reducible refine (gains_calls (i : Int) id _).mono ?_); rintro e W10 ⟨b2, b3, rfl, h2, h3, hb10⟩; have H23 := Aside0.mk (And.intro h2 h3); have HB910 := Aside0.mk (show Below W9.heap.size W9 W10 from ⟨hb10.os, hb10.tape, hb10.output, hb10.size, hb10.block⟩); have HB10 := Aside0.mk (below_then HB9.out HB9.out.size HB910.out); have c610 := pw_cell_below HB910.out c69; have c1010 := pw_cell_below HB910.out c109; clear h2 h3 hb10)
      | (go_at_call 54; (with_reducible refine (HROW.out b1 b2 b3 W9 W10 _ _ H1.out HB9.out H23.out.1 H23.out.2 HB910.out (by repeat (first | exact Below.refl _ _ | apply below_alloc | apply below_drew1 | apply pw_below_drewN)) (by repeat (first | exact blk_new _ _ | refine blk_drewN ?_ _ | refine blk_drew ?_))).mono ?_); rintro e W11 ⟨v', rfl, hD', hb11⟩; have HD' := Aside0.mk hD'; have HB11 := Aside0.mk hb11; have c611 := pw_cell_below hb11 c68; have c1011 := pw_cell_below hb11 c108; clear hD' hb11)
      | fail)
    all_goals
      go_wp2_with fail
      go_ret2
      exact ⟨_, rfl, HD'.out, below_then HB8.out HB8.out.size HB11.out⟩
  · have e38 : (y.f2 == parent) = false := by simpa using cp
    rw [if_neg cp] at c5
    have d5 : decide (z.f3.length < i) = false := decide_eq_false (by omega)
    clear c5 cp
    go_upto_region 17 with (first | (go_at_call 59; refine (within_calls m _ f next parent id _ w _ HD.out HB5.out HWT.out).mono ?_; rintro e W6 ⟨rfl, hb6⟩; have HB6 := Aside0.mk (below_then HB5.out HB5.out.size hb6); have c66 := pw_cell_below hb6 c65; have c106 := pw_cell_below hb6 c10; have H66 := Aside0.mk (blk_below H65.out hb6); clear hb6) | (go_at_call 53; refine (depth_calls m _ f next parent dep w _ HD.out HB6.out HDP.out).mono ?_; rintro e W7 ⟨rfl, hb7⟩; have HB7 := Aside0.mk (below_then HB6.out HB6.out.size hb7); have c67 := pw_cell_below hb7 c66; have c107 := pw_cell_below hb7 c106; have H67 := Aside0.mk (blk_below H66.out hb7); clear hb7) | (go_at_call 60; refine ((HTL.out _ HB7.out).mono ?_); rintro e W8 ⟨rfl, hb8⟩; have HB8 := Aside0.mk (below_then HB7.out HB7.out.size hb8); have c68 := pw_cell_below hb8 c67; have c108 := pw_cell_below hb8 c107; have H68 := Aside0.mk (blk_below H67.out hb8); clear hb8) | fail)
    have HLOSE : Aside0 (∀ W : World, Below W8.heap.size W8 W → Calls Try.prog 56 #[.int .i64 id] W fun e w' => ∃ b1, e = .returned (.func (.func 85) #[] #[.pointer (some ⟨b1, 0, none⟩)]) ∧ w'.heap[b1]? = some (.cells #[.int .i64 id] 3 (0, 0)) ∧ Below W8.heap.size W8 w') := ⟨fun W hW => (loses_calls id W).mono (by rintro e w' ⟨b1, he, h1, hb⟩; exact ⟨b1, he, h1, below_then hW hW.size hb⟩)⟩
    have HROW : Aside0 (∀ (b1 b2 b3 : Nat) (W9 W10 W : World) (gl : Nat), W9.heap[b1]? = some (.cells #[.int .i64 id] 3 (0, 0)) → Below W8.heap.size W8 W9 → W10.heap[b2]? = some (.cells #[.int .i64 (i : Int)] 3 (0, 0)) → W10.heap[b3]? = some (.cells #[.int .i64 id] 3 (0, 0)) → Below W9.heap.size W9 W10 → Below W10.heap.size W10 W → W.heap[gl]? = some (.cells #[.int .i64 y.f2, .func (.func 85) #[] #[.pointer (some ⟨b1, 0, none⟩)], .int .i64 parent, .func (.func 83) #[] #[.pointer (some ⟨b2, 0, none⟩), .pointer (some ⟨b3, 0, none⟩)], .int .i64 id, .func (.func 61) #[] #[.pointer (some ⟨w.heap.size, 0, none⟩)]] 84 (0, 0)) → Calls Try.prog 54 #[.pointer (some ⟨b, 0, none⟩), .slice (some ⟨gl, 0, none⟩) 3 3] W fun e w' => ∃ v', e = .returned v' ∧ DocO ok w' v' (movF f id y.f2 parent i) next ∧ Below W8.heap.size W8 w') := ⟨by
      intro b1 b2 b3 W9 W10 W gl h1 hb9 h2 h3 hb10 hbW hgl
      have h8W := below_then (below_then hb9 hb9.size hb10) (below_then hb9 hb9.size hb10).size hbW
      have hB9 := below_then HB8.out HB8.out.size hb9
      have hB10 := below_then hB9 hB9.size hb10
      have hBW := below_then hB10 hB10.size hbW
      refine (with_O ok (.pointer (some ⟨b, 0, none⟩)) f next [⟨y.f2, 85, #[.pointer (some ⟨b1, 0, none⟩)], loseA id⟩, ⟨parent, 83, #[.pointer (some ⟨b2, 0, none⟩), .pointer (some ⟨b3, 0, none⟩)], gainA i id⟩, ⟨id, 61, #[.pointer (some ⟨w.heap.size, 0, none⟩)], ownA parent⟩] gl W (fun k hk => HFR.out k (Nat.le_trans hBW.size hk)) (HDO.out.below hBW) (ChgRow.three hgl ent90 ent88 ent55) (by simp) (fun j c hc => ?_)).mono ?_
      · rcases j with _ | _ | _ | j
        · obtain rfl := Option.some.inj hc
          exact ⟨HSS.out.1.1, HSS.out.1.2, loses_gives W b1 id y.f2 _ (blk_below (blk_below h1 hb10) hbW) HSS.out.1.1⟩
        · obtain rfl := Option.some.inj hc
          exact ⟨HSS.out.2.1.1, HSS.out.2.1.2, gains_gives W b2 b3 i id parent _ (blk_below h2 hbW) (blk_below h3 hbW) HSS.out.2.2.1 HSS.out.2.1.1⟩
        · obtain rfl := Option.some.inj hc
          exact ⟨HSS.out.2.2.2.1, HSS.out.2.2.2.2, own_gives W w.heap.size parent id _ (blk_below (blk_below (blk_below H68.out hb9) hb10) hbW)⟩
        · simp at hc
      · rintro e w' ⟨b', t', he, hle, hbl, hT, hb'⟩
        exact ⟨_, he, ⟨b', t', rfl, HFR.out _ (Nat.le_trans hBW.size hle), hbl, hT.step (fun _ _ _ => rfl) (fun _ h => h.1)⟩, below_then h8W h8W.size hb'⟩⟩
    clear e38 d1 d4 d5 d6 c10 c12 c65 c66 c106 c67 c107
    go_region_held3 (fun w' => w'.cell? ⟨g10, 2, none⟩ = some (.int .i64 y.f2) ∧ w'.cell? ⟨w.heap.size, 0, none⟩ = some (.int .i64 parent)) (first | go_keep | exact ⟨pw_cell_below HB11.out c108, pw_cell_below HB11.out c68⟩ | exact ⟨pw_cell_below HB10.out c108, pw_cell_below HB10.out c68⟩ | exact ⟨pw_cell_below HB9.out c108, pw_cell_below HB9.out c68⟩) (first
      | (go_at_call 56; (with_reducible refine (HLOSE.out _ (by repeat (first | exact Below.refl _ _ | apply below_alloc | apply below_drew1 | apply pw_below_drewN))).mono ?_); rintro e W9 ⟨b1, rfl, h1, hb9⟩; have H1 := Aside0.mk h1; have HB9 := Aside0.mk hb9; have c69 := pw_cell_below hb9 c68; have c109 := pw_cell_below hb9 c108; clear h1 hb9)
      | (go_at_call 55; (with_reducible refine (gains_calls (i : Int) id _).mono ?_); rintro e W10 ⟨b2, b3, rfl, h2, h3, hb10⟩; have H23 := Aside0.mk (And.intro h2 h3); have HB910 := Aside0.mk (show Below W9.heap.size W9 W10 from ⟨hb10.os, hb10.tape, hb10.output, hb10.size, hb10.block⟩); have HB10 := Aside0.mk (below_then HB9.out HB9.out.size HB910.out); have c610 := pw_cell_below HB910.out c69; have c1010 := pw_cell_below HB910.out c109; clear h2 h3 hb10)
      | (go_at_call 54; (with_reducible refine (HROW.out b1 b2 b3 W9 W10 _ _ H1.out HB9.out H23.out.1 H23.out.2 HB910.out (by repeat (first | exact Below.refl _ _ | apply below_alloc | apply below_drew1 | apply pw_below_drewN)) (by repeat (first | exact blk_new _ _ | refine blk_drewN ?_ _ | refine blk_drew ?_))).mono ?_); rintro e W11 ⟨v', rfl, hD', hb11⟩; have HD' := Aside0.mk hD'; have HB11 := Aside0.mk hb11; have c611 := pw_cell_below hb11 c68; have c1011 := pw_cell_below hb11 c108; clear hD' hb11)
      | fail)
    all_goals
      go_wp2_with fail
      go_ret2
      exact ⟨_, rfl, HD'.out, below_then HB8.out HB8.out.size HB11.out⟩
end Go.Proofs.Ytpnlbmeeihbjaaa.P
end
section
set_option linter.unusedVariables false
set_option linter.unusedSimpArgs false
namespace Go.Proofs.Ytpnlbmeeihbjaaa.P
open Go.RowKit Go.Proofs.YtpnlbmeeihbjaaaW.PrintWords Go.Proofs.YtpnlbmeeihbjaaaW.PrintLast Go.Proofs.YtpnlbmeeihbjaaaW.PrintMore
attribute [local go_sem] max2_int min2_int max_two min_two max_three min_three max_four min_four
set_option linter.unusedVariables false
set_option linter.unusedSimpArgs false
def dropsF (f : Nat → Option S40) (l : List Int) : Nat → Option S40 := l.foldl (fun g k => putF g k none) f
theorem drops_snoc (f : Nat → Option S40) (l : List Int) (i : Nat) (h : i < l.length) : dropsF f (l.take (i + 1)) = putF (dropsF f (l.take i)) (l.getD i 0) none := by
  rw [List.take_succ_eq_append_getElem h]
  unfold dropsF
  rw [List.foldl_append]
  simp [h]
def remF (f : Nat → Option S40) (id pid : Int) (r : List Int) : Nat → Option S40 := dropsF (movF1 f id pid) r
def remE (f : Nat → Option S40) (id : Int) : Int :=
  match look f id with
  | none => 1
  | some _ => if id = 1 then 2 else 0
set_option maxHeartbeats 4000000 in
set_option maxRecDepth 100000 in
theorem rem_no (v : Value) (f : Nat → Option S40) (next id : Int) (w : World) (h : DocF w v f next) (he : remE f id ≠ 0) :
    Calls Try.prog 33 #[v, .int .i64 id] w fun e w' => e = .returned (.tuple #[v, .int .i64 (remE f id)]) ∧ Below w.heap.size w w' := by
  have HD := Aside0.mk h
  obtain ⟨E, hE⟩ : ∃ E, E = remE f id := ⟨_, rfl⟩
  rw [← hE] at he ⊢
  unfold remE at hE
  cases hl : look f id with
  | none =>
    rw [hl] at hE
    obtain rfl : E = 1 := hE
    have HL := Aside0.mk hl
    have hz : (none : Option S40).isSome = false := rfl
    clear hl he h
    go_enter Try.func33, Try.ntmps33
    go_wp2_with (first
      | (go_at_call 48; refine (dmade_calls _ f next _ HD.out).mono ?_; rintro e W1 ⟨rfl, hb1⟩; have HB1 := Aside0.mk hb1; clear hb1)
      | (go_at_call 41; refine (node_calls _ f next id w _ HD.out HB1.out).mono ?_; rintro e W2 ⟨cs, rfl, hK, hb2⟩; rw [HL.out] at hK ⊢; obtain ⟨A3, Ac3, A4, Ac4, rfl⟩ := k40_cells (x := z40) hK; have HB2 := Aside0.mk (below_alloc (below_then HB1.out HB1.out.size hb2) (.cells #[.int .i64 z40.f0, .string z40.f1, .int .i64 z40.f2, .slice A3 z40.f3.length Ac3, .slice A4 z40.f4.length Ac4] 40)); clear hb2 hK)
      | fail)
    go_ret2
    exact ⟨rfl, HB2.out⟩
  | some y =>
    rw [hl] at hE
    simp only at hE
    by_cases c : id = 1
    · rw [if_pos c] at hE
      obtain rfl : E = 2 := hE
      have HL := Aside0.mk hl
      have hz : (some y).isSome = true := rfl
      subst c
      clear hl he h
      go_enter Try.func33, Try.ntmps33
      go_wp2_with (first
        | (go_at_call 48; refine (dmade_calls _ f next _ HD.out).mono ?_; rintro e W1 ⟨rfl, hb1⟩; have HB1 := Aside0.mk hb1; clear hb1)
        | (go_at_call 41; refine (node_calls _ f next 1 w _ HD.out HB1.out).mono ?_; rintro e W2 ⟨cs, rfl, hK, hb2⟩; rw [HL.out] at hK ⊢; obtain ⟨A3, Ac3, A4, Ac4, rfl⟩ := k40_cells (x := y) hK; have HB2 := Aside0.mk (below_alloc (below_then HB1.out HB1.out.size hb2) (.cells #[.int .i64 y.f0, .string y.f1, .int .i64 y.f2, .slice A3 y.f3.length Ac3, .slice A4 y.f4.length Ac4] 40)); clear hb2 hK)
        | fail)
      go_ret2
      exact ⟨rfl, HB2.out⟩
    · rw [if_neg c] at hE
      exact absurd hE he
set_option maxHeartbeats 8000000 in
set_option maxRecDepth 100000 in
theorem rem_O (ok : Nat → Prop) (n : Nat) (v : Value) (f : Nat → Option S40) (next id : Int) (y : S40) (r : List Int) (w : World) (hfresh : ∀ k, w.heap.size ≤ k → ok k) (h : DocO ok w v f next) (hly : look f id = some y) (h1 : id ≠ 1)
    (hr : belL f n [id] 0 = some r) (hrl : r.length ≤ 1099511627776) (hs0 : ((look f y.f2).getD z40).f3.length ≤ 1099511627776 ∧ ((look f y.f2).getD z40).f4.length ≤ 1099511627776) :
    Calls Try.prog 33 #[v, .int .i64 id] w fun e w' => ∃ v', e = .returned (.tuple #[v', .int .i64 0]) ∧ DocO ok w' v' (remF f id y.f2 r) next ∧ Below w.heap.size w w' := by
  have HDO := Aside0.mk h
  have HD := Aside0.mk h.doc
  have HFR := Aside0.mk hfresh
  have HL := Aside0.mk hly
  have HR := Aside0.mk (And.intro hr hrl)
  have HS := Aside0.mk hs0
  obtain ⟨b, t, rfl, _, hb, _⟩ := h
  have hu76 := Try.underlying76
  have hu40 := Try.underlying40
  have hu84 := Try.underlying84
  have d1 : (id == 1) = false := by simpa using h1
  clear hfresh hly h1 hr hrl hs0 hb
  go_enter Try.func33, Try.ntmps33
  go_upto_region 4 with (first
    | (go_at_call 48; refine (dmade_calls _ f next _ HD.out).mono ?_; rintro e W1 ⟨rfl, hb1⟩; have HB1 := Aside0.mk hb1; clear hb1)
    | (go_at_call 41; refine (node_calls _ f next id w _ HD.out HB1.out).mono ?_; rintro e W2 ⟨cs, rfl, hK, hb2⟩; rw [HL.out] at hK ⊢; obtain ⟨A3, Ac3, A4, Ac4, rfl⟩ := k40_cells (x := y) hK; have HB2 := Aside0.mk (below_then HB1.out HB1.out.size hb2); clear hb2 hK)
    | fail)
  have HB3 : Aside0 (Below w.heap.size w (W2.alloc (.cells #[.int .i64 y.f0, .string y.f1, .int .i64 y.f2, .slice A3 y.f3.length Ac3, .slice A4 y.f4.length Ac4] 40))) := ⟨below_alloc HB2.out _⟩
  have c6 : (W2.alloc (.cells #[.int .i64 y.f0, .string y.f1, .int .i64 y.f2, .slice A3 y.f3.length Ac3, .slice A4 y.f4.length Ac4] 40)).cell? ⟨W2.heap.size, 2, none⟩ = some (.int .i64 y.f2) := (blk_cell (blk_new W2 _) 2).trans rfl
  generalize W2.alloc (.cells #[.int .i64 y.f0, .string y.f1, .int .i64 y.f2, .slice A3 y.f3.length Ac3, .slice A4 y.f4.length Ac4] 40) = W3 at HB3 c6 ⊢
  generalize W2.heap.size = g6 at c6 ⊢
  have hz : (some y).isSome = true := rfl
  go_upto_region 8 with (fail)
  have HLOSE : Aside0 (∀ W : World, Below W3.heap.size W3 W → Calls Try.prog 56 #[.int .i64 id] W fun e w' => ∃ b1, e = .returned (.func (.func 85) #[] #[.pointer (some ⟨b1, 0, none⟩)]) ∧ w'.heap[b1]? = some (.cells #[.int .i64 id] 3 (0, 0)) ∧ Below W3.heap.size W3 w') := ⟨fun W hW => (loses_calls id W).mono (by rintro e w' ⟨b1, he, h1, hb⟩; exact ⟨b1, he, h1, below_then hW hW.size hb⟩)⟩
  have HROW : Aside0 (∀ (b1 : Nat) (W9 W : World) (gl : Nat), W9.heap[b1]? = some (.cells #[.int .i64 id] 3 (0, 0)) → Below W3.heap.size W3 W9 → Below W9.heap.size W9 W → W.heap[gl]? = some (.cells #[.int .i64 y.f2, .func (.func 85) #[] #[.pointer (some ⟨b1, 0, none⟩)]] 84 (0, 0)) → Calls Try.prog 54 #[.pointer (some ⟨b, 0, none⟩), .slice (some ⟨gl, 0, none⟩) 1 1] W fun e w' => ∃ b' t', e = .returned (.pointer (some ⟨b', 0, none⟩)) ∧ w.heap.size ≤ b' ∧ w'.heap[b']? = some (.cells #[.pointer (some t'), .int .i64 next] 76 (0, 0)) ∧ TrieO (fun k => ok k ∧ k ≠ b') w' (.pointer (some t')) (movF1 f id y.f2) ∧ Below W3.heap.size W3 w') := ⟨by
    intro b1 W9 W gl h1 hb9 hbW hgl
    have h3W := below_then hb9 hb9.size hbW
    have hBW := below_then HB3.out HB3.out.size h3W
    refine (with_O ok (.pointer (some ⟨b, 0, none⟩)) f next [⟨y.f2, 85, #[.pointer (some ⟨b1, 0, none⟩)], loseA id⟩] gl W (fun k hk => HFR.out k (Nat.le_trans hBW.size hk)) (HDO.out.below hBW) (ChgRow.one hgl ent90) (by simp) (fun j c hc => ?_)).mono ?_
    · rcases j with _ | j
      · obtain rfl := Option.some.inj hc
        exact ⟨HS.out.1, HS.out.2, loses_gives W b1 id y.f2 _ (blk_below h1 hbW) HS.out.1⟩
      · simp at hc
    · rintro e w' ⟨b', t', he, hle, hbl, hT, hb'⟩
      exact ⟨b', t', he, Nat.le_trans hBW.size hle, hbl, hT, below_then h3W h3W.size hb'⟩⟩
  go_region_held3 (fun w' => w'.cell? ⟨g6, 2, none⟩ = some (.int .i64 y.f2)) (first | go_keep | exact pw_cell_below HB11.out c6 | exact pw_cell_below HB9.out c6) (first
    | (go_at_call 56; (with_reducible refine (HLOSE.out _ (by repeat (first | exact Below.refl _ _ | apply below_alloc | apply below_drew1 | apply pw_below_drewN))).mono ?_); rintro e W9 ⟨b1, rfl, h1, hb9⟩; have H1 := Aside0.mk h1; have HB9 := Aside0.mk hb9; have c69 := pw_cell_below hb9 c6; clear h1 hb9)
    | (go_at_call 54; (with_reducible refine (HROW.out b1 W9 _ _ H1.out HB9.out (by repeat (first | exact Below.refl _ _ | apply below_alloc | apply below_drew1 | apply pw_below_drewN)) (by repeat (first | exact blk_new _ _ | refine blk_drewN ?_ _ | refine blk_drew ?_))).mono ?_); rintro e W11 ⟨b', t', rfl, hle, hbl, hT, hb11⟩; have HT := Aside0.mk hT; have HBL := Aside0.mk hbl; have HLE := Aside0.mk hle; have HB11 := Aside0.mk hb11; have c611 := pw_cell_below hb11 c6; clear hT hbl hle hb11)
    | fail)
  all_goals
    have HBW := Aside0.mk (below_then HB3.out HB3.out.size HB11.out)
    clear c6 c69 c611 d1
    go_wp2_with (first | (go_at_call 57; refine (below_calls n _ f next id r _ (HD.out.below HBW.out) HR.out.1 HR.out.2).mono ?_; rintro e W12 ⟨v12, rfl, hR, hb12⟩; obtain ⟨A, c, rfl, hc, hC⟩ := Kd.R_reads hR; have HRR : Aside0 (Kd.R (Kd.int .i64) 3 W12 W11.heap.size (fun k => k ≠ b') (.slice A r.length c) r) := ⟨Kd.R_of_own (enc := Value.int .i64) (h1 := fun _ => rfl) (Kd.own_of_R hR) (fun k hk => by have := own_ge (Kd.own_of_R hR) k hk; have := blk_lt HBL.out; omega)⟩; have HBL12 := Aside0.mk (blk_below HBL.out hb12); have HT12 := Aside0.mk (HT.out.below hb12); have HB12 := Aside0.mk (below_then HBW.out HBW.out.size hb12); clear hR hb12 hC hc) | fail)
    go_loopg [10, 41] (r.length + 1) (fun kq v10 v41 w' => ∃ (i : Nat) (t2 : Addr), v41 = .int .i64 i ∧ Aside0 (i + kq = r.length + 1) ∧ Aside0 (i ≤ r.length) ∧ Aside0 (w'.heap[b']? = some (.cells #[.pointer (some t2), .int .i64 next] 76 (0, 0))) ∧ Aside0 (TrieO (fun k => ok k ∧ k ≠ b') w' (.pointer (some t2)) (dropsF (movF1 f id y.f2) (r.take i))) ∧ Aside0 (Kd.R (Kd.int .i64) 3 w' W11.heap.size (fun k => k ≠ b') (.slice A r.length c) r) ∧ Aside0 (Below w.heap.size w w'))
    case atStart => exact ⟨0, t', rfl, ⟨by omega⟩, ⟨Nat.zero_le _⟩, HBL12, HT12, HRR, HB12⟩
    case round =>
      clear HRR HBL12 HT12 HB12
      obtain ⟨i, t2, rfl, HK, HI, HX, HT2, HO, HB⟩ := hrel
      cases gk with
      | zero => exact absurd HK.out (by have := HI.out; omega)
      | succ g0 =>
        by_cases c0 : i < r.length
        · obtain ⟨g, c', e1, _, hglt, hcell⟩ := R_cell HO.out i c0
          injection e1 with e1 _ e3
          subst e1
          subst e3
          have c1 : decide (i < r.length) = true := decide_eq_true c0
          have c2 : decide ((i : Int) < (r.length : Int)) = true := decide_eq_true (by omega)
          have q0 : (0 ≤ (i : Int)) = True := eq_true (by omega)
          have q1 : ((i : Int) < (r.length : Int)) = True := eq_true (by omega)
          have q2 : (i < r.length) = True := eq_true c0
          have HDS := Aside0.mk (drops_snoc (movF1 f id y.f2) r i c0)
          generalize r.getD i 0 = k at hcell HDS
          obtain ⟨F, hF⟩ : ∃ F, F = dropsF (movF1 f id y.f2) (r.take i) := ⟨_, rfl⟩
          rw [← hF] at HT2 HDS
          have x0 := (blk_cell HX.out 0).trans (show _ = some (.pointer (some t2)) from rfl)
          have HI0 := Aside0.mk c0
          have HDROP : Aside0 (Calls Try.prog 58 #[.pointer (some t2), .int .i64 k] wr (PutPost (fun k => ok k ∧ k ≠ b') wr (putF F k none))) := ⟨drop_O (fun k => ok k ∧ k ≠ b') k _ F wr (fun k hk => ⟨HFR.out k (Nat.le_trans HB.out.size hk), by have := blk_lt HX.out; omega⟩) HT2.out⟩
          clear c0 hglt hF
          go_wp2_with (first
            | (go_at_call 58; refine HDROP.out.mono ?_; rintro e W13 ⟨t13, rfl, hT13, hb13⟩; obtain ⟨q13, rfl⟩ := hT13.ptr; have hx := blk_below HX.out hb13; have z0 := (blk_cell hx 0).trans (show _ = some (.pointer (some t2)) from rfl); have z0f := blk_frozen hx 0; have HX13 := Aside0.mk hx; have HT13 := Aside0.mk hT13; have HO13 := Aside0.mk (Kd.R_below HO.out hb13); have HB13 := Aside0.mk (below_then HB.out HB.out.size hb13); clear hx hT13 hb13)
            | fail)
          go_roundg g0
          case measure => have := HK.out; omega
          case rel => exact ⟨i + 1, q13, by (have := HI0.out; have := HR.out.2; congr 1; unfold wrap64; omega), ⟨by have := HK.out; omega⟩, ⟨HI0.out⟩, ⟨blk_put HX13.out 0 _ rfl⟩, ⟨by rw [HDS.out]; exact HT13.out.step (fun k hk _ => heap_setCell_other W13 _ k _ hk.2) (fun _ h => h)⟩, ⟨Kd.R_far HO13.out (fun k hk => hk) _⟩, ⟨below_set HB13.out HLE.out⟩⟩
        · have c1 : decide (i < r.length) = false := decide_eq_false c0
          have c2 : decide ((i : Int) < (r.length : Int)) = false := decide_eq_false (by omega)
          have HI2 := Aside0.mk (show r.take i = r from List.take_of_length_le (by omega))
          clear c0
          go_wp2_with fail
          go_ret2
          refine ⟨_, rfl, ⟨b', t2, rfl, HFR.out _ HLE.out, HX.out, ?_⟩, HB.out⟩
          have hT := HT2.out
          rw [HI2.out] at hT
          exact hT.step (fun _ _ _ => rfl) (fun _ h => h.1)
end Go.Proofs.Ytpnlbmeeihbjaaa.P
end
