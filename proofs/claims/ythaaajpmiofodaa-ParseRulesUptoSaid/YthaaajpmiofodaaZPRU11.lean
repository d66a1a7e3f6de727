/- ParseRules: for every input of bulk at most 1048576 the law returns true, and each argument reads behind the call as it read before. -/
import Derived.Test.YthaaajpmiofodaaZPRU6
import Derived.Test.YthaaajpmiofodaaZPRU7
import Derived.Test.YthaaajpmiofodaaZPRU8
import Derived.Test.YthaaajpmiofodaaZPRU9
import Derived.Test.YthaaajpmiofodaaZPRU10
import Derived.Deep.DeepCutAuto
section
set_option linter.unusedVariables false
set_option linter.unusedSimpArgs false
namespace Go.Proofs.Ythaaajpmiofodaa.P
open Go.RowKit Go.Proofs.YthaaajpmiofodaaW.PrintWords Go.Proofs.YthaaajpmiofodaaW.PrintLast Go.Proofs.YthaaajpmiofodaaW.PrintMore
set_option linter.unusedVariables false
set_option linter.unusedSimpArgs false
theorem rulesF_next (k : Nat) (l : List S45) (hk : l.length < k) : rulesF k l = if skipS [13, 14, 15] l = [] then [] else if firstS (skipS [13, 14, 15] l) [23] = (skipS [13, 14, 15] l).length then []
    else (⟨(skipS [13, 14, 15] l).take (firstS (skipS [13, 14, 15] l) [23]), (rd_T45 (skipS [13, 14, 15] l) (firstS (skipS [13, 14, 15] l) [23] : Nat)).f1⟩ : S36) :: rulesS ((skipS [13, 14, 15] l).drop (firstS (skipS [13, 14, 15] l) [23] + 1)) := by
  obtain ⟨k, rfl⟩ : ∃ m, k = m + 1 := ⟨k - 1, by omega⟩
  unfold rulesF rulesS
  split
  · rfl
  · rename_i h
    have hp := List.length_pos_iff.2 h
    have hl := skipS_len [13, 14, 15] l
    split
    · rfl
    · rw [rulesF_any k _ _ (by rw [List.length_drop]; omega) (Nat.lt_succ_self _)]
theorem rulesS_eq (l : List S45) : rulesS l = if skipS [13, 14, 15] l = [] then [] else if firstS (skipS [13, 14, 15] l) [23] = (skipS [13, 14, 15] l).length then []
    else (⟨(skipS [13, 14, 15] l).take (firstS (skipS [13, 14, 15] l) [23]), (rd_T45 (skipS [13, 14, 15] l) (firstS (skipS [13, 14, 15] l) [23] : Nat)).f1⟩ : S36) :: rulesS ((skipS [13, 14, 15] l).drop (firstS (skipS [13, 14, 15] l) [23] + 1)) := rulesF_next _ l (Nat.lt_succ_self _)
theorem rulesS_skip (l m : List S45) (h : skipS [13, 14, 15] l = skipS [13, 14, 15] m) : rulesS l = rulesS m := by rw [rulesS_eq l, rulesS_eq m, h]
theorem at_min (l : List S45) : l.drop (min (firstS l [17, 23] + 1) l.length) = behS l := by
  have := firstS_le l [17, 23]
  unfold behS
  split
  · rw [Nat.min_eq_left (by omega)]
  · rw [Nat.min_eq_right (by omega), List.drop_length]
theorem rrulesF_eq : ∀ (n k : Nat) (l : List S45), l.length ≤ n → l.length < k → rrulesF k l = (rulesS l).map (fun x => (⟨x.f0, x.f1⟩ : S37)) := by
  intro n
  induction n with
  | zero =>
    intro k l hn hk
    obtain rfl := List.eq_nil_of_length_eq_zero (Nat.le_zero.1 hn)
    obtain ⟨k, rfl⟩ : ∃ m, k = m + 1 := ⟨k - 1, by omega⟩
    rw [rulesS_eq, skipS_nil]
    simp [rrulesF]
  | succ n ih =>
    intro k l hn hk
    obtain ⟨k, rfl⟩ : ∃ m, k = m + 1 := ⟨k - 1, by omega⟩
    unfold rrulesF
    by_cases hl : l = []
    · subst hl
      rw [rulesS_eq, skipS_nil]
      simp
    · have hp := List.length_pos_iff.2 hl
      rw [if_neg hl]
      by_cases h1 : hasKind [13, 14, 15] (rd_T45 l 0).f0.f0 = true
      · rw [if_pos h1, ih k (l.drop 1) (by rw [List.length_drop]; omega) (by rw [List.length_drop]; omega), rulesS_skip l (l.drop 1) (skipS_hit _ l hp h1)]
      · have h1' : hasKind [13, 14, 15] (rd_T45 l 0).f0.f0 = false := by simpa using h1
        rw [if_neg h1]
        by_cases h2 : (rd_T45 l 0).f0.f0 = 3
        · have hlt := behS_lt l hp
          rw [if_pos h2, ih k (behS l) (by omega) (by omega), rulesS_skip l (behS l) (by rw [← at_min]; exact skipS_at _ l hp h1' h2)]
        · have hs := skipS_stop _ l hp h1' h2
          rw [if_neg h2, rulesS_eq, hs, if_neg hl]
          split
          · rfl
          · rw [ih k _ (by rw [List.length_drop]; omega) (by rw [List.length_drop]; omega)]
            rfl
theorem rrulesS_map (l : List S45) : rrulesS l = (rulesS l).map (fun x => (⟨x.f0, x.f1⟩ : S37)) := rrulesF_eq l.length _ l (Nat.le_refl _) (Nat.lt_succ_self _)
theorem bulk_nil : bulkV [] = 0 := by rw [bulkV]
theorem bulk_append : ∀ l m : List S45, bulkV (l ++ m) = bulkV l + bulkV m
  | [], m => by rw [bulk_nil]; simp
  | x :: l, m => by rw [List.cons_append, bulkV, bulkV, bulk_append l m]; omega
theorem bulk_take (l : List S45) (i : Nat) : bulkV (l.take i) ≤ bulkV l := by
  have := bulk_append (l.take i) (l.drop i)
  rw [List.take_append_drop] at this; omega
theorem bulk_drop (l : List S45) (i : Nat) : bulkV (l.drop i) ≤ bulkV l := by
  have := bulk_append (l.take i) (l.drop i)
  rw [List.take_append_drop] at this; omega
theorem bulk_mem : ∀ (l : List S45) (x : S45), x ∈ l → 1 + x.f0.f1.size + bulkV x.f1 ≤ bulkV l
  | y :: l, x, h => by
    rw [bulkV]
    rcases List.mem_cons.1 h with rfl | h
    · omega
    · have := bulk_mem l x h; omega
theorem bulk_len : ∀ l : List S45, l.length ≤ bulkV l
  | [] => by simp
  | x :: l => by have := bulk_len l; rw [bulkV, List.length_cons]; omega
theorem bulk_rd (l : List S45) (j : Nat) : bulkV (rd_T45 l (j : Nat)).f1 ≤ bulkV l := by
  by_cases h : j < l.length
  · have := bulk_mem l _ (rd45_mem l j h); omega
  · have : rd_T45 l (j : Nat) = z45 := by simp [rd_T45, List.getD_eq_getElem?_getD, h]
    rw [this]
    show bulkV [] ≤ _
    rw [bulk_nil]; omega
theorem okLens_bulk : ∀ (N : Nat) (l : List S45), SizeOf.sizeOf l < N → bulkV l ≤ 4611686018427387904 → okLens l := by
  intro N
  induction N with
  | zero => intro l h; omega
  | succ N ih =>
    intro l hN hb
    cases l with
    | nil => simp [okLens]
    | cons x l =>
      have h1 := bulk_len (x :: l)
      rw [okLens]
      rw [bulkV] at hb h1
      exact ⟨by omega, ih _ (by cases x; simp at hN ⊢; omega) (by omega), ih _ (by simp at hN; omega) (by omega)⟩
theorem ok_bulk (l : List S45) (h : bulkV l ≤ 1048576) : okLens l := okLens_bulk _ l (Nat.lt_succ_self _) (by omega)
theorem flat_bulk : ∀ (N : Nat) (l : List S45), SizeOf.sizeOf l < N → (flatS l).length ≤ 2 * bulkV l := by
  intro N
  induction N with
  | zero => intro l h; omega
  | succ N ih =>
    intro l hN
    cases l with
    | nil => simp [flatS]
    | cons x l =>
      have h1 := ih x.f1 (by cases x; simp at hN ⊢; omega)
      have h2 := ih l (by simp at hN; omega)
      rw [flatS, bulkV]
      simp only [List.length_cons, List.length_append]
      split
      · simp only [List.length_nil]; omega
      · simp only [List.length_append, List.length_singleton]; omega
theorem allLens_bulk : ∀ (N : Nat) (l : List S45), SizeOf.sizeOf l < N → bulkV l ≤ 1048576 → allLens l := by
  intro N
  induction N with
  | zero => intro l h; omega
  | succ N ih =>
    intro l hN hb
    cases l with
    | nil => simp [allLens]
    | cons x l =>
      have h1 := flat_bulk _ (x :: l) (Nat.lt_succ_self _)
      rw [allLens]
      rw [bulkV] at hb h1
      exact ⟨by omega, ih _ (by cases x; simp at hN ⊢; omega) (by omega), ih _ (by simp at hN; omega) (by omega)⟩
theorem all_bulk (l : List S45) (h : bulkV l ≤ 1048576) : allLens l := allLens_bulk _ l (Nat.lt_succ_self _) h
def countS : List S45 → Nat
  | [] => 0
  | x :: l => 1 + countS x.f1 + countS l
termination_by l => SizeOf.sizeOf l
decreasing_by
  · cases x; simp; omega
  · simp; omega
theorem count_bulk : ∀ (N : Nat) (l : List S45), SizeOf.sizeOf l < N → countS l ≤ bulkV l := by
  intro N
  induction N with
  | zero => intro l h; omega
  | succ N ih =>
    intro l hN
    cases l with
    | nil => rw [countS]; omega
    | cons x l =>
      have h1 := ih x.f1 (by cases x; simp at hN ⊢; omega)
      have h2 := ih l (by simp at hN; omega)
      rw [countS, bulkV]; omega
theorem count_kid : ∀ (l : List S45) (j : Nat), j < l.length → 1 + countS (rd_T45 l (j : Nat)).f1 + countS (l.drop (j + 1)) = countS (l.drop j) := by
  intro l j h
  rw [rd45_drop l j h, countS]
theorem ev_Count_l0 (l : List S45) (hb : countS l ≤ 1048576) (hl : l.length ≤ 1048576)
    (hk : ∀ j, j < l.length → Ev (fun k => gouacheref03_Count.f k (rd_T45 l (j : Nat)).f1) (countS (rd_T45 l (j : Nat)).f1 : Int)) :
    ∀ (d i acc : Nat), i + d = l.length → acc + countS (l.drop i) = countS l → Ev (fun k => gouacheref03_Count.l0 k (acc : Int) l (l.length : Int) (i : Nat)) (countS l : Int) := by
  intro d
  induction d with
  | zero =>
    intro i acc hi ha
    refine Ev.step (fun k => by unfold gouacheref03_Count.l0; exact rfl) ?_
    refine Ev.ifn (by omega) ?_
    rw [List.drop_eq_nil_of_le (by omega), countS] at ha
    have : (acc : Int) = (countS l : Int) := by omega
    rw [this]
    exact Ev.now _
  | succ d ih =>
    intro i acc hi ha
    have hc := count_kid l i (by omega)
    refine Ev.step (fun k => by unfold gouacheref03_Count.l0; exact rfl) ?_
    refine Ev.ifp (by omega) (Ev.ifp (by omega) (Ev.ifp (by omega) ?_))
    refine Ev.bind (hk i (by omega)) ?_
    have hw : wrap64 ((i : Int) + 1) = ((i + 1 : Nat) : Int) := by rw [w64 (by omega) (by omega)]; omega
    have hw2 : wrap64 ((acc : Int) + wrap64 (1 + (countS (rd_T45 l (i : Nat)).f1 : Int))) = ((acc + (1 + countS (rd_T45 l (i : Nat)).f1) : Nat) : Int) := by
      rw [w64 (x := 1 + (countS (rd_T45 l (i : Nat)).f1 : Int)) (by omega) (by omega), w64 (by omega) (by omega)]; omega
    rw [hw, hw2]
    exact ih (i + 1) _ (by omega) (by omega)
theorem ev_Count : ∀ (N : Nat) (l : List S45), SizeOf.sizeOf l < N → bulkV l ≤ 1048576 → Ev (fun k => gouacheref03_Count.f k l) (countS l : Int) := by
  intro N
  induction N with
  | zero => intro l h; omega
  | succ N ih =>
    intro l hN hb
    have h1 := count_bulk _ l (Nat.lt_succ_self _)
    have h2 := bulk_len l
    refine Ev.step (fun k => by unfold gouacheref03_Count.f; exact rfl) ?_
    exact ev_Count_l0 l (by omega) (by omega) (fun j hj => ih _ (by have := z45_size l j hj; omega) (by have := bulk_rd l j; omega)) l.length 0 0 (by omega) (by simp)
theorem ev_great (l : List S45) (hb : bulkV l ≤ 1048576) : ∃ b, Ev (fun k => gouachelaw03_great.f k l) b := by
  unfold gouachelaw03_great.f
  have h1 := ev_Deep _ l 100 (Nat.lt_succ_self _) (ok_bulk l hb) (by omega) (by omega)
  cases hd : deepS l 100 with
  | true => exact ⟨true, Ev.bind h1 (by rw [hd]; exact Ev.ifp rfl (Ev.now true))⟩
  | false => exact ⟨_, Ev.bind h1 (by rw [hd]; exact Ev.ifn (by simp) (Ev.bind (ev_Count _ l (Nat.lt_succ_self _) hb) (Ev.now _)))⟩
theorem ev_rFlat_l0 (l : List S45) (hl : l.length ≤ 1000000000)
    (hk : ∀ j, j < l.length → Ev (fun k => gouacheref03_Flat.f k (rd_T45 l (j : Nat)).f1) (flatS (rd_T45 l (j : Nat)).f1)) :
    ∀ (d i : Nat) (acc : List S43), i + d = l.length → acc.length + (flatS (l.drop i)).length ≤ 1000000000 → Ev (fun k => gouacheref03_Flat.l0 k acc l (l.length : Int) (i : Nat)) (acc ++ flatS (l.drop i)) := by
  intro d
  induction d with
  | zero =>
    intro i acc hi hb
    refine Ev.step (fun k => by unfold gouacheref03_Flat.l0; exact rfl) ?_
    refine Ev.ifn (by omega) ?_
    rw [List.drop_eq_nil_of_le (by omega)]
    simpa [flatS] using Ev.now acc
  | succ d ih =>
    intro i acc hi hb
    have hd := rd45_drop l i (by omega)
    rw [hd, flatS] at hb
    simp only [List.length_cons, List.length_append] at hb
    refine Ev.step (fun k => by unfold gouacheref03_Flat.l0; exact rfl) ?_
    refine Ev.ifp (by omega) (Ev.ifp (by omega) (Ev.ifp (by omega) (Ev.ifp (by omega) ?_)))
    rw [hd, flatS]
    simp only [Option.bind_some]
    refine Ev.bind (ev_end _) ?_
    have hw : wrap64 ((i : Int) + 1) = ((i + 1 : Nat) : Int) := by rw [w64 (by omega) (by omega)]; omega
    by_cases hc : closeS (rd_T45 l (i : Nat)).f0.f0 = 0
    · rw [if_pos hc] at hb
      refine Ev.ifp hc ?_
      rw [hw, if_pos hc]
      have := ih (i + 1) (acc ++ [(rd_T45 l (i : Nat)).f0]) (by omega) (by rw [List.length_append, List.length_singleton]; simp at hb; omega)
      simpa using this
    · rw [if_neg hc] at hb
      simp only [List.length_append, List.length_singleton] at hb
      refine Ev.ifn hc (Ev.bind (hk i (by omega)) ?_)
      refine Ev.ifp (by rw [List.length_append, List.length_singleton]; omega) ?_
      refine Ev.ifp (by simp only [List.length_append, List.length_singleton]; omega) ?_
      rw [hw, if_neg hc]
      have := ih (i + 1) (((acc ++ [(rd_T45 l (i : Nat)).f0]) ++ flatS (rd_T45 l (i : Nat)).f1) ++ [closer (rd_T45 l (i : Nat)).f0.f0]) (by omega) (by simp only [List.length_append, List.length_singleton]; omega)
      simpa [closer] using this
theorem ev_rFlat : ∀ (N : Nat) (l : List S45), SizeOf.sizeOf l < N → allLens l → Ev (fun k => gouacheref03_Flat.f k l) (flatS l) := by
  intro N
  induction N with
  | zero => intro l h; omega
  | succ N ih =>
    intro l hN hok
    have hlen := allLens_len l hok
    have := flatS_len l
    refine Ev.step (fun k => by unfold gouacheref03_Flat.f; exact rfl) ?_
    have := ev_rFlat_l0 l (by omega) (fun j hj => ih _ (by have := z45_size l j hj; omega) (allLens_kid l j hj hok)) l.length 0 [] (by omega) (by simpa using hlen)
    simpa using this
theorem ev_tSame_l0 (l : List S43) (hl : l.length ≤ 1000000000) : ∀ (d i : Nat), i + d = l.length → Ev (fun k => gouacheref02_Same.l0 k l l (l.length : Int) (i : Nat)) true := by
  intro d
  induction d with
  | zero =>
    intro i hi
    refine Ev.step (fun k => by unfold gouacheref02_Same.l0; exact rfl) ?_
    exact Ev.ifn (by omega) (Ev.now true)
  | succ d ih =>
    intro i hi
    refine Ev.step (fun k => by unfold gouacheref02_Same.l0; exact rfl) ?_
    refine Ev.ifp (by omega) (Ev.ifp (by omega) (Ev.ifp (by omega) (Ev.ifp (by omega) (Ev.ifn (by rw [tok_ne, tokEq_refl]; simp) ?_))))
    rw [w64 (by omega) (by omega)]
    exact ih (i + 1) (by omega)
theorem ev_tSame (l : List S43) (hl : l.length ≤ 1000000000) : Ev (fun k => gouacheref02_Same.f k l l) true := by
  unfold gouacheref02_Same.f
  exact Ev.ifp rfl (ev_tSame_l0 l hl l.length 0 (by omega))
end Go.Proofs.Ythaaajpmiofodaa.P
end
section
set_option linter.unusedVariables false
set_option linter.unusedSimpArgs false
namespace Go.Proofs.Ythaaajpmiofodaa.P
open Go.RowKit Go.Proofs.YthaaajpmiofodaaW.PrintWords Go.Proofs.YthaaajpmiofodaaW.PrintLast Go.Proofs.YthaaajpmiofodaaW.PrintMore
theorem bulk_skip (ks : List Int) (l : List S45) : bulkV (skipS ks l) ≤ bulkV l := by
  obtain ⟨j, _, e⟩ := skipF_suffix ks (l.length + 1) l
  unfold skipS
  rw [e]
  exact bulk_drop l j
theorem rules_bulk : ∀ (n : Nat) (l : List S45), l.length ≤ n → ∀ x, x ∈ rulesS l → bulkV x.f0 ≤ bulkV l ∧ bulkV x.f1 ≤ bulkV l := by
  intro n
  induction n with
  | zero =>
    intro l hn x hx
    obtain rfl := List.eq_nil_of_length_eq_zero (Nat.le_zero.1 hn)
    rw [rulesS_eq, skipS_nil] at hx
    simp at hx
  | succ n ih =>
    intro l hn x hx
    have hb := bulk_skip [13, 14, 15] l
    have hl := skipS_len [13, 14, 15] l
    rw [rulesS_eq] at hx
    generalize skipS [13, 14, 15] l = m at hx hb hl
    split at hx
    · cases hx
    · rename_i hm
      have hp := List.length_pos_iff.2 hm
      split at hx
      · cases hx
      · rcases List.mem_cons.1 hx with rfl | hx
        · exact ⟨Nat.le_trans (bulk_take m _) hb, Nat.le_trans (bulk_rd m _) hb⟩
        · have h1 := ih _ (by rw [List.length_drop]; omega) x hx
          have h2 := bulk_drop m (firstS m [23] + 1)
          omega
theorem rd36_mem (l : List S36) (i : Nat) (h : i < l.length) : rd_T36 l (i : Int) ∈ l := by
  have : rd_T36 l (i : Int) = l[i] := by simp [rd_T36, List.getD_eq_getElem?_getD, h]
  rw [this]
  exact List.getElem_mem h
theorem rd37_map (l : List S36) (i : Nat) (h : i < l.length) : rd_T37 (l.map (fun x => (⟨x.f0, x.f1⟩ : S37))) (i : Int) = ⟨(rd_T36 l (i : Int)).f0, (rd_T36 l (i : Int)).f1⟩ := by
  simp [rd_T37, rd_T36, List.getD_eq_getElem?_getD, h]
end Go.Proofs.Ythaaajpmiofodaa.P
end
section
set_option linter.unusedVariables false
set_option linter.unusedSimpArgs false
namespace Go.Proofs.Ythaaajpmiofodaa.P
open Go.RowKit Go.Proofs.YthaaajpmiofodaaW.PrintWords Go.Proofs.YthaaajpmiofodaaW.PrintLast Go.Proofs.YthaaajpmiofodaaW.PrintMore
attribute [local go_sem] max2_int min2_int max_two min_two max_three min_three max_four min_four
set_option linter.unusedVariables false
set_option linter.unusedSimpArgs false
theorem rsame_at (A : Option Addr) (c : Nat) (l : List S45) (A' : Option Addr) (c' : Nat) (w : World) (hl : Kd.C k45 w A l.length l) (hc : l.length ≤ c) (hm : Kd.C k45 w A' l.length l) (hc' : l.length ≤ c') (hb : bulkV l ≤ 1048576) :
    Calls Try.prog 11 #[.slice A l.length c, .slice A' l.length c'] w fun e w' => e = .returned (.bool true) ∧ Below w.heap.size w w' := by
  obtain ⟨k, h⟩ := Ev.rounds (ev_Same _ l l (Nat.lt_succ_self _) (ok_bulk l hb))
  rw [sameS_refl] at h
  exact gouacheref03_Same.calls k A c l A' c' l true w hl hc hm hc' h
set_option maxHeartbeats 16000000 in
set_option maxRecDepth 100000 in
theorem prules_calls (A0 : Option Addr) (c0 : Nat) (l : List S45) (w : World) (hl : Kd.C k45 w A0 l.length l) (hc0 : l.length ≤ c0) (hb : bulkV l ≤ 1048576) :
    Calls Try.prog 4 #[.slice A0 l.length c0] w fun e w' => e = .returned (.bool true) ∧ Below w.heap.size w w' := by
  obtain ⟨b1, h1⟩ := ev_great l hb
  obtain ⟨k1, h1⟩ := Ev.rounds h1
  have hll := bulk_len l
  have H1 := Aside0.mk h1
  have HL := Aside0.mk (Kd.C_F k45_heap hl)
  have HC0 := Aside0.mk hc0
  have HBK := Aside0.mk hb
  have HLL := Aside0.mk (show l.length ≤ 1048576 by omega)
  clear hl hc0 hb h1 hll
  go_enter Try.func4, Try.ntmps4
  go_wp2_with fail
  refine (gouachelaw03_great.calls k1 A0 c0 l b1 _ (Kd.F_now HL.out) HC0.out H1.out).mono ?_
  rintro e W1 ⟨rfl, hb1⟩
  have HB := Aside0.mk hb1
  clear hb1 H1
  cases b1 with
  | true =>
    go_wp2_with fail
    refine (gouachelaw03_lives.calls 200 true _ lives_200).mono ?_
    rintro e WL ⟨rfl, hbl⟩
    go_wp2
    go_ret
    exact ⟨rfl, below_step HB.out hbl⟩
  | false =>
    go_wp2_with fail
    refine (rules_calls _ A0 c0 l W1 (Kd.F_below HL.out HB.out) HC0.out (fun k hk => Nat.lt_of_lt_of_le hk HB.out.size) (by have := HLL.out; omega)).mono ?_
    rintro e W2 ⟨v2, rfl, hN2, hb2⟩
    have HN2 := Aside0.mk hN2
    have HB2 := Aside0.mk (below_step HB.out hb2)
    clear hb2 hN2
    go_wp2_with fail
    refine (rrules_calls _ A0 c0 l W2 (Kd.F_below HL.out HB2.out) HC0.out (fun k hk => Nat.lt_of_lt_of_le hk HB2.out.size) (by have := HLL.out; omega)).mono ?_
    rintro e W3 ⟨v3, rfl, hN3, hb3⟩
    have HNA := Aside0.mk (Kd.N_below HN2.out hb3)
    have HB3 := Aside0.mk (below_step HB2.out hb3)
    clear hb3 HN2
    have hcnt := rulesF_count (l.length + 1) l
    have hbk : ∀ i : Nat, i < (rulesS l).length → bulkV (rd_T36 (rulesS l) (i : Nat)).f0 ≤ 1048576 ∧ bulkV (rd_T36 (rulesS l) (i : Nat)).f1 ≤ 1048576 := fun i hi => by
      have h := rules_bulk l.length l (Nat.le_refl _) _ (rd36_mem (rulesS l) i hi)
      have := HBK.out
      omega
    have hrd : ∀ i : Nat, i < (rulesS l).length → rd_T37 (rrulesS l) (i : Nat) = ⟨(rd_T36 (rulesS l) (i : Nat)).f0, (rd_T36 (rulesS l) (i : Nat)).f1⟩ := fun i hi => by
      rw [rrulesS_map]; exact rd37_map (rulesS l) i hi
    have hlen2 : (rrulesS l).length = (rulesS l).length := by rw [rrulesS_map, List.length_map]
    rw [show rulesF (l.length + 1) l = rulesS l from rfl] at hcnt
    generalize rulesS l = ra at hcnt hbk hrd hlen2 HNA
    generalize rrulesS l = rb at hrd hlen2 hN3
    obtain ⟨A3, c3, rfl⟩ := Kd.N_slice HNA.out
    obtain ⟨A4, c4, rfl⟩ := Kd.N_slice hN3
    have HNB := Aside0.mk hN3
    have HCA := Aside0.mk (Kd.N_reads' HNA.out).2.2
    have HCB := Aside0.mk (Kd.N_reads' HNB.out).2.2
    have HBULK := Aside0.mk hbk
    have HRD := Aside0.mk hrd
    rw [hlen2]
    rw [hlen2] at HCB
    have HLEN := Aside0.mk hlen2
    have HRA := Aside0.mk (show ra.length ≤ 1048576 by have := HLL.out; omega)
    have hraz : (ra.length : Int) ≤ 1048576 := by have := HRA.out; omega
    clear hcnt hbk hrd hlen2 hN3
    obtain ⟨k4, h4⟩ := Ev.rounds (ev_pFlat _ l (Nat.lt_succ_self _) (all_bulk l HBK.out))
    obtain ⟨k5, h5⟩ := Ev.rounds (ev_rFlat _ l (Nat.lt_succ_self _) (all_bulk l HBK.out))
    have hfl := flat_bulk _ l (Nat.lt_succ_self _)
    obtain ⟨k6, h6⟩ := Ev.rounds (ev_tSame (flatS l) (by have := HBK.out; omega))
    have H4 := Aside0.mk h4
    have H5 := Aside0.mk h5
    have H6 := Aside0.mk h6
    clear h4 h5 h6 hfl
    go_wp2_with fail
    refine (parse_Flat.calls k4 A0 c0 l (flatS l) _ (Kd.F_now (Kd.F_below HL.out HB3.out)) HC0.out H4.out).mono ?_
    rintro e W4 ⟨v4, rfl, hR4, hb4⟩
    have HR4 := Aside0.mk hR4
    have HB4 := Aside0.mk hb4
    clear hb4 hR4
    go_wp2_with fail
    refine (gouacheref03_Flat.calls k5 A0 c0 l (flatS l) _ (Kd.F_now (Kd.F_below (Kd.F_below HL.out HB3.out) HB4.out)) HC0.out H5.out).mono ?_
    rintro e W5 ⟨v5, rfl, hR5, hb5⟩
    have HR4 := Aside0.mk (Kd.R_below HR4.out hb5)
    have HB5 := Aside0.mk (below_step HB4.out hb5)
    generalize flatS l = fl at hR5 HR4 H6
    obtain ⟨A5, c5, rfl, hl5, hC5⟩ := Kd.R_reads hR5
    obtain ⟨A6, c6, rfl, hl6, hC6⟩ := Kd.R_reads HR4.out
    have HX := Aside0.mk (fun (r : Unit) => gouacheref02_Same.calls k6 A6 c6 fl A5 c5 fl true W5 hC6 hl6 hC5 hl5 H6.out)
    clear hb5 hR5 hl5 hC5 hl6 hC6
    go_wp2_with fail
    refine (HX.out ()).mono ?_
    rintro e W6 ⟨rfl, hb6⟩
    have HB36 := Aside0.mk (below_step HB5.out hb6.below)
    have HB6 := Aside0.mk (below_step HB3.out HB36.out)
    clear hb6 HX HR4 HB4 HB5 H4 H5 H6
    go_wp2_with fail
    go_loopg [5, 28] ra.length (fun gg _ s28 wr => ∃ i : Nat, i ≤ ra.length ∧ ra.length - i ≤ gg ∧ s28 = .int .i64 i ∧ Aside0 (Below W3.heap.size W3 wr))
    case atStart => exact ⟨0, Nat.zero_le _, by omega, rfl, HB36⟩
    case round =>
      clear HB36
      obtain ⟨i, hi, hg, rfl, HBR⟩ := hrel
      by_cases hlt : i < ra.length
      · have hltz : (i : Int) < (ra.length : Int) := by omega
        obtain ⟨ad, B0, d0, B1, d1, rfl, a0, a1, hd0, hC0, hd1, hC1⟩ := at_T36 (Kd.C_below HCA.out HBR.out) i (by omega) hltz
        obtain ⟨bd, E0, f0, E1, f1, rfl, b0, b1, hf0, hD0, hf1, hD1⟩ := at_T37 (Kd.C_below HCB.out HBR.out) i (by omega) hltz
        rw [HRD.out i hlt] at b0 b1 hf0 hD0 hf1 hD1
        simp only [Int.toNat_natCast] at a0 a1 b0 b1
        obtain ⟨hu0, hu1⟩ := HBULK.out i hlt
        generalize (rd_T36 ra (i : Nat)).f0 = p0 at *
        generalize (rd_T36 ra (i : Nat)).f1 = p1 at *
        have HSA := Aside0.mk (fun W (h : Below wr.heap.size wr W) => rsame_at B0 d0 p0 E0 f0 W (Kd.C_below hC0 h) hd0 (Kd.C_below hD0 h) hf0 hu0)
        have HSB := Aside0.mk (fun W (h : Below wr.heap.size wr W) => rsame_at B1 d1 p1 E1 f1 W (Kd.C_below hC1 h) hd1 (Kd.C_below hD1 h) hf1 hu1)
        clear hd0 hC0 hd1 hC1 hf0 hD0 hf1 hD1 hu0 hu1
        go_wp2_with fail
        go_region_held3 (fun w' => w'.cell? (ad.add (i * 2)) = some (.slice B0 p0.length d0) ∧ w'.cell? ⟨(ad.add (i * 2)).block, (ad.add (i * 2)).off + 1, none⟩ = some (.slice B1 p1.length d1) ∧ w'.cell? (bd.add (i * 2)) = some (.slice E0 p0.length f0) ∧ w'.cell? ⟨(bd.add (i * 2)).block, (bd.add (i * 2)).off + 1, none⟩ = some (.slice E1 p1.length f1)) (first | go_keep | exact ⟨pw_cell_below HBX2.out a0, pw_cell_below HBX2.out a1, pw_cell_below HBX2.out b0, pw_cell_below HBX2.out b1⟩ | exact ⟨pw_cell_below HBX1.out a0, pw_cell_below HBX1.out a1, pw_cell_below HBX1.out b0, pw_cell_below HBX1.out b1⟩) (first | (go_at_call 11; (with_reducible refine (HSA.out _ (by repeat (first | exact Below.refl _ _ | apply below_drew1 | apply pw_below_drewN))).mono ?_); rintro e w1 ⟨rfl, hbx1⟩; have HBX1 := Aside0.mk (show Below wr.heap.size wr w1 from ⟨hbx1.os, hbx1.tape, hbx1.output, hbx1.size, hbx1.block⟩)) | (go_at_call 11; (with_reducible refine (HSB.out _ (by repeat (first | exact HBX1.out | apply below_drew1 | apply pw_below_drewN))).mono ?_); rintro e w2 ⟨rfl, hbx2⟩; have HBX2 := Aside0.mk (below_step HBX1.out (show Below w1.heap.size w1 w2 from ⟨hbx2.os, hbx2.tape, hbx2.output, hbx2.size, hbx2.block⟩))))
        go_wp2_with fail
        go_roundg (ra.length - (i + 1))
        case measure => omega
        case rel => exact ⟨i + 1, by omega, by omega, by go_num, ⟨below_step HBR.out HBX2.out⟩⟩
      · have hltz : ¬ (i : Int) < (ra.length : Int) := by omega
        have HBE := Aside0.mk (below_step HB3.out HBR.out)
        go_wp2_with fail
        refine (gouachelaw03_lives.calls 200 true _ lives_200).mono ?_
        rintro e WL ⟨rfl, hbl⟩
        go_wp2
        go_ret
        exact ⟨rfl, below_step HBE.out hbl⟩
def gouachelaw03_ParseRules.f (_ : Nat) (l : List S45) : Option Bool := if bulkV l ≤ 1048576 then some true else none
theorem gouachelaw03_ParseRules.calls (k : Nat) (A0 : Option Addr) (c0 : Nat) (l : List S45) (r : Bool) (w : World) (hl : Kd.C k45 w A0 l.length l) (hc0 : l.length ≤ c0) (h : gouachelaw03_ParseRules.f k l = some r) :
    Calls Try.prog 4 #[.slice A0 l.length c0] w fun e w' => e = .returned (.bool r) ∧ Below w.heap.size w w' := by
  unfold gouachelaw03_ParseRules.f at h
  split at h
  · rename_i hb
    obtain rfl := Option.some.inj h
    exact prules_calls A0 c0 l w hl hc0 hb
  · cases h
theorem pure_ParseRules (l : List S45) (hb : bulkV l ≤ 1048576) : ∃ k, gouachelaw03_ParseRules.f k l = some true := ⟨0, by unfold gouachelaw03_ParseRules.f; rw [if_pos hb]⟩
end Go.Proofs.Ythaaajpmiofodaa.P
end
