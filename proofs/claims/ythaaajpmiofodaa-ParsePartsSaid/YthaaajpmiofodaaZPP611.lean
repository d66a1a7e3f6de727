/- ParseParts: for every input the law returns true, and each argument reads behind the call as it read before. -/
import Derived.Test.YthaaajpmiofodaaZPP66
import Derived.Test.YthaaajpmiofodaaZPP67
import Derived.Test.YthaaajpmiofodaaZPP68
import Derived.Test.YthaaajpmiofodaaZPP69
import Derived.Test.YthaaajpmiofodaaZPP610
import Derived.Deep.DeepCutAuto
section
set_option linter.unusedVariables false
set_option linter.unusedSimpArgs false
namespace Go.Proofs.Ythaaajpmiofodaa.P
open Go.RowKit Go.Proofs.YthaaajpmiofodaaW.PrintWords Go.Proofs.YthaaajpmiofodaaW.PrintLast Go.Proofs.YthaaajpmiofodaaW.PrintMore
set_option linter.unusedVariables false
set_option linter.unusedSimpArgs false
theorem rulesF_next (k : Nat) (l : List S45) (hk : l.length < k) : rulesF k l = if skipS [13, 14, 15] l = [] then [] else if firstS (skipS [13, 14, 15] l) [23] = (skipS [13, 14, 15] l).length then []
    else (⟨(skipS [13, 14, 15] l).take (firstS (skipS [13, 14, 15] l) [23]), (rd_T45 (skipS [13, 14, 15] l) (firstS (skipS [13, 14, 15] l) [23] : Nat)).f1⟩ : S36) :: rulesS ((skipS [13, 14, 15] l).drop (firstS (skipS [13, 14, 15] l) [23] + 1)) := by
  obtain ⟨k, rfl⟩ : ∃ m, k = m + 1 := ⟨k - 1, by omega⟩
  unfold rulesF rulesS
  split
  · rfl
  · rename_i h
    have hp := List.length_pos_iff.2 h
    have hl := skipS_len [13, 14, 15] l
    split
    · rfl
    · rw [rulesF_any k _ _ (by rw [List.length_drop]; omega) (Nat.lt_succ_self _)]
theorem rulesS_eq (l : List S45) : rulesS l = if skipS [13, 14, 15] l = [] then [] else if firstS (skipS [13, 14, 15] l) [23] = (skipS [13, 14, 15] l).length then []
    else (⟨(skipS [13, 14, 15] l).take (firstS (skipS [13, 14, 15] l) [23]), (rd_T45 (skipS [13, 14, 15] l) (firstS (skipS [13, 14, 15] l) [23] : Nat)).f1⟩ : S36) :: rulesS ((skipS [13, 14, 15] l).drop (firstS (skipS [13, 14, 15] l) [23] + 1)) := rulesF_next _ l (Nat.lt_succ_self _)
theorem rulesS_skip (l m : List S45) (h : skipS [13, 14, 15] l = skipS [13, 14, 15] m) : rulesS l = rulesS m := by rw [rulesS_eq l, rulesS_eq m, h]
theorem declsS_eq (l : List S45) : declsS l = if skipS [13, 17] l = [] then [] else (declS ((skipS [13, 17] l).take (firstS (skipS [13, 17] l) [17]))).toList ++ declsS ((skipS [13, 17] l).drop (firstS (skipS [13, 17] l) [17])) := by
  unfold declsS
  rw [declsF]
  split
  · rfl
  · rename_i h
    have hp := decls_pos l h
    have h2 := List.length_pos_iff.2 h
    have hl := skipS_len [13, 17] l
    rw [declsF_any l.length ((List.drop (firstS (skipS [13, 17] l) [17]) (skipS [13, 17] l)).length + 1) _ (by rw [List.length_drop]; omega) (Nat.lt_succ_self _)]
theorem declsS_skip (l m : List S45) (h : skipS [13, 17] l = skipS [13, 17] m) : declsS l = declsS m := by rw [declsS_eq l, declsS_eq m, h]
def countS : List S45 → Nat
  | [] => 0
  | x :: l => 1 + countS x.f1 + countS l
termination_by l => SizeOf.sizeOf l
decreasing_by
  · cases x; simp; omega
  · simp; omega
end Go.Proofs.Ythaaajpmiofodaa.P
end
section
set_option linter.unusedVariables false
set_option linter.unusedSimpArgs false
namespace Go.Proofs.Ythaaajpmiofodaa.P
open Go.RowKit Go.Proofs.YthaaajpmiofodaaW.PrintWords Go.Proofs.YthaaajpmiofodaaW.PrintLast Go.Proofs.YthaaajpmiofodaaW.PrintMore
set_option linter.unusedVariables false
theorem first_app (l y : List S45) (ks : List Int) (h : firstS l ks < l.length) : firstS (l ++ y) ks = firstS l ks := by
  unfold firstS at h ⊢
  rw [List.findIdx_append, if_pos h]
theorem first_lt (l : List S45) (ks : List Int) (x : S45) (t : List S45) (e : l = t ++ [x]) (h : kindIn ks x = true) : firstS l ks < l.length := by
  unfold firstS
  rw [List.findIdx_lt_length]
  exact ⟨x, by rw [e]; simp, h⟩
theorem rd45_append (l y : List S45) (i : Nat) (h : i < l.length) : rd_T45 (l ++ y) (i : Nat) = rd_T45 l (i : Nat) := by
  simp [rd_T45, List.getD_eq_getElem?_getD, List.getElem?_append_left h]
def LastK (k : Int) (l : List S45) : Prop := ∀ x t, l = t ++ [x] → x.f0.f0 = k
theorem LastK_drop {k : Int} {l : List S45} (h : LastK k l) (j : Nat) : LastK k (l.drop j) := by
  intro x t e
  refine h x (l.take j ++ t) ?_
  rw [List.append_assoc, ← e, List.take_append_drop]
theorem LastK_lt {k : Int} {l : List S45} (h : LastK k l) (ks : List Int) (hk : hasKind ks k = true) (hl : l ≠ []) : firstS l ks < l.length := by
  rcases List.eq_nil_or_concat l with e | ⟨t, x, e⟩
  · exact absurd e hl
  · rw [List.concat_eq_append] at e
    exact first_lt l ks x t e (by unfold kindIn; rw [h x t e]; exact hk)
theorem skip_app (ks : List Int) (k : Int) (hk : hasKind [17, 23] k = true) (y : List S45) : ∀ (n : Nat) (l : List S45), l.length ≤ n → LastK k l →
    (skipS ks l = [] ∧ skipS ks (l ++ y) = skipS ks y) ∨ (skipS ks l ≠ [] ∧ skipS ks (l ++ y) = skipS ks l ++ y ∧ LastK k (skipS ks l)) := by
  intro n
  induction n with
  | zero =>
    intro l hn _
    obtain rfl := List.eq_nil_of_length_eq_zero (Nat.le_zero.1 hn)
    exact .inl ⟨skipS_nil ks, rfl⟩
  | succ n ih =>
    intro l hn hQ
    by_cases hl : l = []
    · subst hl; exact .inl ⟨skipS_nil ks, rfl⟩
    · have hp := List.length_pos_iff.2 hl
      have hp2 : 0 < (l ++ y).length := by rw [List.length_append]; omega
      have e0 : rd_T45 (l ++ y) 0 = rd_T45 l 0 := rd45_append l y 0 hp
      by_cases h1 : hasKind ks (rd_T45 l 0).f0.f0 = true
      · rw [skipS_hit ks l hp h1, skipS_hit ks (l ++ y) hp2 (by rw [e0]; exact h1), List.drop_append_of_le_length (by omega)]
        exact ih (l.drop 1) (by rw [List.length_drop]; omega) (LastK_drop hQ 1)
      · have h1' : hasKind ks (rd_T45 l 0).f0.f0 = false := by simpa using h1
        by_cases h2 : (rd_T45 l 0).f0.f0 = 3
        · have hf := LastK_lt hQ [17, 23] hk hl
          rw [skipS_at ks l hp h1' h2, skipS_at ks (l ++ y) hp2 (by rw [e0]; exact h1') (by rw [e0]; exact h2), first_app l y _ hf, Nat.min_eq_left (by omega), Nat.min_eq_left (by rw [List.length_append]; omega), List.drop_append_of_le_length (by omega)]
          exact ih _ (by rw [List.length_drop]; omega) (LastK_drop hQ _)
        · rw [skipS_stop ks l hp h1' h2, skipS_stop ks (l ++ y) hp2 (by rw [e0]; exact h1') (by rw [e0]; exact h2)]
          exact .inr ⟨hl, rfl, hQ⟩
theorem rulesS_nil : rulesS [] = [] := by rw [rulesS_eq, skipS_nil]; simp
theorem declsS_nil : declsS [] = [] := by rw [declsS_eq, skipS_nil]; simp
theorem rules_app (y : List S45) : ∀ (n : Nat) (l : List S45), l.length ≤ n → LastK 23 l → rulesS (l ++ y) = rulesS l ++ rulesS y := by
  intro n
  induction n with
  | zero =>
    intro l hn _
    obtain rfl := List.eq_nil_of_length_eq_zero (Nat.le_zero.1 hn)
    rw [rulesS_nil]; rfl
  | succ n ih =>
    intro l hn hQ
    have hsl := skipS_len [13, 14, 15] l
    rcases skip_app [13, 14, 15] 23 (by decide) y l.length l (Nat.le_refl _) hQ with ⟨e1, e2⟩ | ⟨e1, e2, hQ2⟩
    · rw [rulesS_eq l, e1, if_pos rfl, List.nil_append]
      exact rulesS_skip _ _ e2
    · rw [rulesS_eq (l ++ y), rulesS_eq l, e2]
      generalize skipS [13, 14, 15] l = m at e1 hQ2 hsl
      have hf := LastK_lt hQ2 [23] (by decide) e1
      have hm2 : ¬ m ++ y = [] := by simp [e1]
      have hL : ¬ firstS m [23] = (m ++ y).length := by rw [List.length_append]; omega
      have hR : ¬ firstS m [23] = m.length := by omega
      rw [if_neg e1, if_neg hm2, first_app m y _ hf, if_neg hL, if_neg hR, rd45_append m y _ hf, List.take_append_of_le_length (by omega), List.drop_append_of_le_length (by omega),
        ih _ (by rw [List.length_drop]; omega) (LastK_drop hQ2 _)]
      rfl
theorem decls_app (y : List S45) : ∀ (n : Nat) (l : List S45), l.length ≤ n → LastK 17 l → declsS (l ++ y) = declsS l ++ declsS y := by
  intro n
  induction n with
  | zero =>
    intro l hn _
    obtain rfl := List.eq_nil_of_length_eq_zero (Nat.le_zero.1 hn)
    rw [declsS_nil]; rfl
  | succ n ih =>
    intro l hn hQ
    have hsl := skipS_len [13, 17] l
    rcases skip_app [13, 17] 17 (by decide) y l.length l (Nat.le_refl _) hQ with ⟨e1, e2⟩ | ⟨e1, e2, hQ2⟩
    · rw [declsS_eq l, e1, if_pos rfl, List.nil_append]
      exact declsS_skip _ _ e2
    · have hpos := decls_pos l e1
      rw [declsS_eq (l ++ y), declsS_eq l, e2]
      generalize skipS [13, 17] l = m at e1 hQ2 hsl hpos
      have hf := LastK_lt hQ2 [17] (by decide) e1
      have hm2 : ¬ m ++ y = [] := by simp [e1]
      rw [if_neg e1, if_neg hm2, first_app m y _ hf, List.take_append_of_le_length (by omega), List.drop_append_of_le_length (by omega),
        ih _ (by rw [List.length_drop]; omega) (LastK_drop hQ2 _), List.append_assoc]
theorem first_snoc (l : List S45) (s : S45) (ks : List Int) (h : firstS l ks = l.length) (hk : kindIn ks s = true) : firstS (l ++ [s]) ks = l.length := by
  unfold firstS at h ⊢
  rw [List.findIdx_append, if_neg (by omega)]
  simp [List.findIdx_cons, hk]
theorem skip_semi (s : S45) (hs : s.f0.f0 = 17) : ∀ (n : Nat) (l : List S45), l.length ≤ n →
    (skipS [13, 17] l = [] ∧ skipS [13, 17] (l ++ [s]) = []) ∨ (skipS [13, 17] l ≠ [] ∧ skipS [13, 17] (l ++ [s]) = skipS [13, 17] l ++ [s]) := by
  have h0 : skipS [13, 17] [s] = [] := by
    rw [skipS_hit [13, 17] [s] (by simp) (by show hasKind [13, 17] s.f0.f0 = true; rw [hs]; decide)]
    exact skipS_nil _
  intro n
  induction n with
  | zero =>
    intro l hn
    obtain rfl := List.eq_nil_of_length_eq_zero (Nat.le_zero.1 hn)
    exact .inl ⟨skipS_nil _, h0⟩
  | succ n ih =>
    intro l hn
    by_cases hl : l = []
    · subst hl; exact .inl ⟨skipS_nil _, h0⟩
    · have hp := List.length_pos_iff.2 hl
      have hp2 : 0 < (l ++ [s]).length := by rw [List.length_append]; omega
      have e0 : rd_T45 (l ++ [s]) 0 = rd_T45 l 0 := rd45_append l [s] 0 hp
      by_cases h1 : hasKind [13, 17] (rd_T45 l 0).f0.f0 = true
      · rw [skipS_hit _ l hp h1, skipS_hit _ (l ++ [s]) hp2 (by rw [e0]; exact h1), List.drop_append_of_le_length (by omega)]
        exact ih (l.drop 1) (by rw [List.length_drop]; omega)
      · have h1' : hasKind [13, 17] (rd_T45 l 0).f0.f0 = false := by simpa using h1
        by_cases h2 : (rd_T45 l 0).f0.f0 = 3
        · rw [skipS_at _ l hp h1' h2, skipS_at _ (l ++ [s]) hp2 (by rw [e0]; exact h1') (by rw [e0]; exact h2)]
          have hle := firstS_le l [17, 23]
          by_cases hf : firstS l [17, 23] < l.length
          · rw [first_app l _ _ hf, Nat.min_eq_left (by omega), Nat.min_eq_left (by rw [List.length_append]; omega), List.drop_append_of_le_length (by omega)]
            exact ih _ (by rw [List.length_drop]; omega)
          · have hf2 : firstS l [17, 23] = l.length := by omega
            rw [first_snoc l s _ hf2 (by unfold kindIn; rw [hs]; decide), hf2, Nat.min_eq_right (by omega), Nat.min_eq_left (by simp), List.drop_length]
            left
            refine ⟨skipS_nil _, ?_⟩
            rw [List.drop_eq_nil_of_le (by simp)]
            exact skipS_nil _
        · rw [skipS_stop _ l hp h1' h2, skipS_stop _ (l ++ [s]) hp2 (by rw [e0]; exact h1') (by rw [e0]; exact h2)]
          exact .inr ⟨hl, rfl⟩
theorem decls_semi (s : S45) (hs : s.f0.f0 = 17) : ∀ (n : Nat) (l : List S45), l.length ≤ n → declsS (l ++ [s]) = declsS l := by
  intro n
  induction n with
  | zero =>
    intro l hn
    obtain rfl := List.eq_nil_of_length_eq_zero (Nat.le_zero.1 hn)
    rw [declsS_nil, declsS_eq]
    rcases skip_semi s hs 0 [] (Nat.le_refl _) with ⟨_, e⟩ | ⟨e, _⟩
    · rw [e, if_pos rfl]
    · exact absurd (skipS_nil _) e
  | succ n ih =>
    intro l hn
    have hsl := skipS_len [13, 17] l
    rcases skip_semi s hs l.length l (Nat.le_refl _) with ⟨e1, e2⟩ | ⟨e1, e2⟩
    · rw [declsS_eq (l ++ [s]), declsS_eq l, e1, e2]
    · have hpos := decls_pos l e1
      rw [declsS_eq (l ++ [s]), declsS_eq l, e2]
      generalize skipS [13, 17] l = m at e1 hsl hpos
      have hm2 : ¬ m ++ [s] = [] := by simp
      rw [if_neg e1, if_neg hm2]
      have hle := firstS_le m [17]
      by_cases hf : firstS m [17] < m.length
      · rw [first_app m _ _ hf, List.take_append_of_le_length (by omega), List.drop_append_of_le_length (by omega), ih _ (by rw [List.length_drop]; omega)]
      · have hf2 : firstS m [17] = m.length := by omega
        rw [first_snoc m s _ hf2 (by unfold kindIn; rw [hs]; decide), hf2, List.take_append_of_le_length (Nat.le_refl _), List.drop_append_of_le_length (Nat.le_refl _), List.drop_length, List.nil_append, declsS_nil]
        have := ih [] (by simp)
        rw [List.nil_append, declsS_nil] at this
        rw [this]
theorem decls_parts (x y : List S45) (s : S45) (hs : s.f0.f0 = 17) : declsS ((x ++ [s]) ++ y) = declsS x ++ declsS y := by
  rw [decls_app y _ (x ++ [s]) (Nat.le_refl _) (fun z t e => by
    have := List.append_inj_right' e rfl
    injection this with h _
    rw [← h]; exact hs), decls_semi s hs _ x (Nat.le_refl _)]
theorem rules_parts (x y : List S45) (s : S45) (hs : s.f0.f0 = 23) : rulesS ((x ++ [s]) ++ y) = rulesS (x ++ [s]) ++ rulesS y :=
  rules_app y _ (x ++ [s]) (Nat.le_refl _) (fun z t e => by
    have := List.append_inj_right' e rfl
    injection this with h _
    rw [← h]; exact hs)
end Go.Proofs.Ythaaajpmiofodaa.P
end
section
set_option linter.unusedVariables false
set_option linter.unusedSimpArgs false
namespace Go.Proofs.Ythaaajpmiofodaa.P
open Go.RowKit Go.Proofs.YthaaajpmiofodaaW.PrintWords Go.Proofs.YthaaajpmiofodaaW.PrintLast Go.Proofs.YthaaajpmiofodaaW.PrintMore
theorem rd47_mem (l : List S47) (i : Nat) (h : i < l.length) : rd_T47 l (i : Int) ∈ l := by
  have : rd_T47 l (i : Int) = l[i] := by simp [rd_T47, List.getD_eq_getElem?_getD, h]
  rw [this]
  exact List.getElem_mem h
theorem ev_SameDecls_l0 (a : List S47) (ha : a.length ≤ 1000000000) (hb : ∀ x, x ∈ a → okLens x.f1) : ∀ (d i : Nat), i + d = a.length →
    Ev (fun k => gouacheref03_SameDecls.l0 k a a (a.length : Int) (i : Nat)) true := by
  intro d
  induction d with
  | zero =>
    intro i hi
    refine Ev.step (fun k => by unfold gouacheref03_SameDecls.l0; exact rfl) ?_
    exact Ev.ifn (by omega) (Ev.now true)
  | succ d ih =>
    intro i hi
    have hm := hb _ (rd47_mem a i (by omega))
    refine Ev.step (fun k => by unfold gouacheref03_SameDecls.l0; exact rfl) ?_
    refine Ev.ifp (by omega) (Ev.ifp (by omega) (Ev.ifp (by omega) (Ev.ifp (by omega) (Ev.ifp rfl (Ev.ifn (by simp) ?_)))))
    refine Ev.bind (ev_Same _ _ _ (Nat.lt_succ_self _) hm) ?_
    rw [sameS_refl, w64 (by omega) (by omega)]
    exact Ev.ifp rfl (ih (i + 1) (by omega))
theorem ev_SameDecls' (a : List S47) (ha : a.length ≤ 1000000000) (hb : ∀ x, x ∈ a → okLens x.f1) : Ev (fun k => gouacheref03_SameDecls.f k a a) true := by
  unfold gouacheref03_SameDecls.f
  exact Ev.ifp rfl (ev_SameDecls_l0 a ha hb a.length 0 (by omega))
end Go.Proofs.Ythaaajpmiofodaa.P
end
section
set_option linter.unusedVariables false
set_option linter.unusedSimpArgs false
namespace Go.Proofs.Ythaaajpmiofodaa.P
open Go.RowKit Go.Proofs.YthaaajpmiofodaaW.PrintWords Go.Proofs.YthaaajpmiofodaaW.PrintLast Go.Proofs.YthaaajpmiofodaaW.PrintMore
set_option linter.unusedVariables false
theorem cnt_nil : countS [] = 0 := by rw [countS]
theorem cnt_append : ∀ l m : List S45, countS (l ++ m) = countS l + countS m
  | [], m => by rw [cnt_nil]; simp
  | x :: l, m => by rw [List.cons_append, countS, countS, cnt_append l m]; omega
theorem cnt_take (l : List S45) (i : Nat) : countS (l.take i) ≤ countS l := by
  have := cnt_append (l.take i) (l.drop i)
  rw [List.take_append_drop] at this; omega
theorem cnt_drop (l : List S45) (i : Nat) : countS (l.drop i) ≤ countS l := by
  have := cnt_append (l.take i) (l.drop i)
  rw [List.take_append_drop] at this; omega
theorem cnt_mem : ∀ (l : List S45) (x : S45), x ∈ l → 1 + countS x.f1 ≤ countS l
  | y :: l, x, h => by
    rw [countS]
    rcases List.mem_cons.1 h with rfl | h
    · omega
    · have := cnt_mem l x h; omega
theorem cnt_len : ∀ l : List S45, l.length ≤ countS l
  | [] => by simp
  | x :: l => by have := cnt_len l; rw [countS, List.length_cons]; omega
theorem cnt_rd (l : List S45) (j : Nat) : countS (rd_T45 l (j : Nat)).f1 ≤ countS l := by
  by_cases h : j < l.length
  · have := cnt_mem l _ (rd45_mem l j h); omega
  · have : rd_T45 l (j : Nat) = z45 := by simp [rd_T45, List.getD_eq_getElem?_getD, h]
    rw [this]
    show countS [] ≤ _
    rw [cnt_nil]; omega
theorem cnt_dropWhile (p : S45 → Bool) : ∀ l : List S45, countS (l.dropWhile p) ≤ countS l
  | [] => Nat.le_refl _
  | x :: l => by
    rw [List.dropWhile_cons]
    split
    · have := cnt_dropWhile p l; rw [countS]; omega
    · exact Nat.le_refl _
theorem cnt_reverse : ∀ l : List S45, countS l.reverse = countS l
  | [] => rfl
  | x :: l => by rw [List.reverse_cons, cnt_append, cnt_reverse l]; simp only [countS]; omega
theorem cnt_trim (l : List S45) : countS (trimS l) ≤ countS l := by
  unfold trimS trimBack
  rw [cnt_reverse]
  refine Nat.le_trans (cnt_dropWhile _ _) ?_
  rw [cnt_reverse]
  exact cnt_dropWhile _ _
theorem okLens_cnt : ∀ (N : Nat) (l : List S45), SizeOf.sizeOf l < N → countS l ≤ 4611686018427387904 → okLens l := by
  intro N
  induction N with
  | zero => intro l h; omega
  | succ N ih =>
    intro l hN hb
    cases l with
    | nil => simp [okLens]
    | cons x l =>
      have h1 := cnt_len (x :: l)
      rw [okLens]
      rw [countS] at hb h1
      exact ⟨by omega, ih _ (by cases x; simp at hN ⊢; omega) (by omega), ih _ (by simp at hN; omega) (by omega)⟩
theorem ok_cnt (l : List S45) (h : countS l ≤ 1048576) : okLens l := okLens_cnt _ l (Nat.lt_succ_self _) (by omega)
theorem cnt_skip (ks : List Int) (l : List S45) : countS (skipS ks l) ≤ countS l := by
  obtain ⟨j, _, e⟩ := skipF_suffix ks (l.length + 1) l
  unfold skipS
  rw [e]
  exact cnt_drop l j
theorem cnt_rules : ∀ (n : Nat) (l : List S45), l.length ≤ n → ∀ x, x ∈ rulesS l → countS x.f0 ≤ countS l ∧ countS x.f1 ≤ countS l := by
  intro n
  induction n with
  | zero =>
    intro l hn x hx
    obtain rfl := List.eq_nil_of_length_eq_zero (Nat.le_zero.1 hn)
    rw [rulesS_eq, skipS_nil] at hx
    simp at hx
  | succ n ih =>
    intro l hn x hx
    have hb := cnt_skip [13, 14, 15] l
    have hl := skipS_len [13, 14, 15] l
    rw [rulesS_eq] at hx
    generalize skipS [13, 14, 15] l = m at hx hb hl
    split at hx
    · cases hx
    · rename_i hm
      have hp := List.length_pos_iff.2 hm
      split at hx
      · cases hx
      · rcases List.mem_cons.1 hx with rfl | hx
        · exact ⟨Nat.le_trans (cnt_take m _) hb, Nat.le_trans (cnt_rd m _) hb⟩
        · have h1 := ih _ (by rw [List.length_drop]; omega) x hx
          have h2 := cnt_drop m (firstS m [23] + 1)
          omega
theorem cnt_valImp (v : List S45) : countS (valImp v).1 ≤ countS v := by
  unfold valImp
  split
  · split
    · have h1 := cnt_trim ((trimS (v.take (v.length - 1))).take ((trimS (v.take (v.length - 1))).length - 1))
      have h2 := cnt_take (trimS (v.take (v.length - 1))) ((trimS (v.take (v.length - 1))).length - 1)
      have h3 := cnt_trim (v.take (v.length - 1))
      have h4 := cnt_take v (v.length - 1)
      show countS (trimS _) ≤ _
      omega
    · exact Nat.le_refl _
  · exact Nat.le_refl _
theorem cnt_decl (l : List S45) (d : S47) (h : declS l = some d) : countS d.f1 ≤ countS l := by
  unfold declS at h
  split at h
  · cases h
  · obtain rfl := Option.some.inj h
    have h1 := cnt_valImp (trimS ((trimS (l.drop 1)).drop 1))
    have h2 := cnt_trim ((trimS (l.drop 1)).drop 1)
    have h3 := cnt_drop (trimS (l.drop 1)) 1
    have h4 := cnt_trim (l.drop 1)
    have h5 := cnt_drop l 1
    show countS (valImp _).1 ≤ _
    omega
theorem cnt_decls : ∀ (n : Nat) (l : List S45), l.length ≤ n → ∀ x, x ∈ declsS l → countS x.f1 ≤ countS l := by
  intro n
  induction n with
  | zero =>
    intro l hn x hx
    obtain rfl := List.eq_nil_of_length_eq_zero (Nat.le_zero.1 hn)
    rw [declsS_eq, skipS_nil] at hx
    simp at hx
  | succ n ih =>
    intro l hn x hx
    have hb := cnt_skip [13, 17] l
    have hl := skipS_len [13, 17] l
    rw [declsS_eq] at hx
    split at hx
    · cases hx
    · rename_i hm
      have hf := decls_pos l hm
      have hp := List.length_pos_iff.2 hm
      rcases List.mem_append.1 hx with hx | hx
      · have h1 := cnt_decl _ x (by simpa using hx)
        have h2 := cnt_take (skipS [13, 17] l) (firstS (skipS [13, 17] l) [17])
        omega
      · have h1 := ih _ (by rw [List.length_drop]; omega) x hx
        have h2 := cnt_drop (skipS [13, 17] l) (firstS (skipS [13, 17] l) [17])
        omega
theorem cnt_valsF : ∀ (k : Nat) (l : List S43) (nest close : Int), countS (valsF k l nest close).1 + (valsF k l nest close).2.length ≤ l.length
  | 0, l, _, _ => by simp [valsF, countS]
  | _ + 1, [], _, _ => by simp [valsF, countS]
  | k + 1, t :: r, nest, close => by
    have h1 := cnt_valsF k r nest close
    have h2 := cnt_valsF k r (nest + 1) (closeS t.f0)
    have h3 := cnt_valsF k (valsF k r (nest + 1) (closeS t.f0)).2 nest close
    unfold valsF
    split
    · simp [countS]
    · split
      · simp only [countS, List.length_cons]; omega
      · split
        · simp only [List.length_cons]; omega
        · simp only [countS, List.length_cons]; omega
theorem cnt_valsS (l : List S43) : countS (valsS l) ≤ l.length := by
  have := cnt_valsF (l.length + 1) l 0 0
  unfold valsS; omega
theorem valsF_toks : ∀ (k : Nat) (l : List S43) (nest close : Int), (∀ x, x ∈ (valsF k l nest close).1 → x.f0 ∈ l) ∧ (∀ t, t ∈ (valsF k l nest close).2 → t ∈ l)
  | 0, l, _, _ => by simp [valsF]
  | _ + 1, [], _, _ => by simp [valsF]
  | k + 1, t :: r, nest, close => by
    have h1 := valsF_toks k r nest close
    have h2 := valsF_toks k r (nest + 1) (closeS t.f0)
    have h3 := valsF_toks k (valsF k r (nest + 1) (closeS t.f0)).2 nest close
    unfold valsF
    split
    · exact ⟨fun x hx => (by cases hx), fun s hs => List.mem_cons_of_mem _ hs⟩
    · split
      · refine ⟨fun x hx => ?_, fun s hs => List.mem_cons_of_mem _ (h1.2 s hs)⟩
        rcases List.mem_cons.1 hx with rfl | hx
        · exact List.mem_cons_self
        · exact List.mem_cons_of_mem _ (h1.1 x hx)
      · split
        · exact ⟨fun x hx => List.mem_cons_of_mem _ (h2.2 _ (h3.1 x hx)), fun s hs => List.mem_cons_of_mem _ (h2.2 _ (h3.2 s hs))⟩
        · refine ⟨fun x hx => ?_, fun s hs => List.mem_cons_of_mem _ (h2.2 _ (h3.2 s hs))⟩
          rcases List.mem_cons.1 hx with rfl | hx
          · exact List.mem_cons_self
          · exact List.mem_cons_of_mem _ (h2.2 _ (h3.1 x hx))
theorem valsS_texts (l : List S43) (ht : ∀ p, p ∈ l → p.f1.size ≤ 140737488351232) : okTexts (valsS l) := fun x hx => ht _ ((valsF_toks _ l 0 0).1 x hx)
theorem valsS_len (l : List S43) : (valsS l).length ≤ l.length := valsF_count _ l 0 0
end Go.Proofs.Ythaaajpmiofodaa.P
end
section
set_option linter.unusedVariables false
set_option linter.unusedSimpArgs false
namespace Go.Proofs.Ythaaajpmiofodaa.P
open Go.RowKit Go.Proofs.YthaaajpmiofodaaW.PrintWords Go.Proofs.YthaaajpmiofodaaW.PrintLast Go.Proofs.YthaaajpmiofodaaW.PrintMore
attribute [local go_sem] max2_int min2_int max_two min_two max_three min_three max_four min_four
set_option linter.unusedVariables false
set_option linter.unusedSimpArgs false
theorem same_at (A : Option Addr) (c n : Nat) (l : List S45) (A' : Option Addr) (c' n' : Nat) (m : List S45) (r : Bool) (w : World) (hl : Kd.C k45 w A l.length l) (hc : l.length ≤ c) (hm : Kd.C k45 w A' m.length m) (hc' : m.length ≤ c') (hn : l.length = n) (hn' : m.length = n') (hr : sameS l m = r) :
    Calls Try.prog 25 #[.slice A n c, .slice A' n' c'] w fun e w' => e = .returned (.bool r) ∧ Below w.heap.size w w' := by
  subst hn hn' hr
  exact parse_Same.calls 0 A c l A' c' m _ w hl hc hm hc' rfl
theorem block_C {W : World} {g : Nat} (l : List S45) (A : Option Addr) (c : Nat) (k : Int) (hb : W.heap[g]? = some (.cells #[.int .i64 k, .string ⟨#[]⟩, .string ⟨#[]⟩, .bool false, .bool false, .slice A l.length c] 45 (0, 0))) (hl : Kd.C k45 W A l.length l) (hc : l.length ≤ c) :
    Kd.C k45 W (some ⟨g, 0, none⟩) 1 [(⟨⟨k, ⟨#[]⟩, ⟨#[]⟩, false, false⟩, l⟩ : S45)] := by
  refine ⟨rfl, by decide, fun _ => ⟨_, rfl, fun j p hj => ?_⟩⟩
  cases j with
  | succ j => simp at hj
  | zero =>
    simp only [List.getElem?_cons_zero, Option.some.injEq] at hj
    subst hj
    refine ⟨_, rfl, k45_mk W ⟨⟨k, ⟨#[]⟩, ⟨#[]⟩, false, false⟩, l⟩ hc hl, fun i u hu => ?_⟩
    rw [Nat.zero_mul, Nat.zero_add, add_plain]
    refine (blk_cell hb i).trans ?_
    simpa using hu
end Go.Proofs.Ythaaajpmiofodaa.P
end
section
set_option linter.unusedVariables false
set_option linter.unusedSimpArgs false
namespace Go.Proofs.Ythaaajpmiofodaa.P
open Go.RowKit Go.Proofs.YthaaajpmiofodaaW.PrintWords Go.Proofs.YthaaajpmiofodaaW.PrintLast Go.Proofs.YthaaajpmiofodaaW.PrintMore
attribute [local go_sem] max2_int min2_int max_two min_two max_three min_three max_four min_four
set_option linter.unusedVariables false
set_option linter.unusedSimpArgs false
theorem same_step (B : Option Addr) (cb : Nat) (V : List S45) (A : Option Addr) (c : Nat) (W5 W : World) (hB : Kd.C k45 W5 B V.length V) (hb : V.length ≤ cb) (hA : Kd.C k45 W5 A V.length V) (ha : V.length ≤ c) (h : Below W5.heap.size W5 W) : Calls Try.prog 25 #[.slice B V.length cb, .slice A V.length c] W fun e w' => e = .returned (.bool true) ∧ Below W5.heap.size W5 w' :=
  (same_at B cb _ V A c _ V true W (Kd.C_below hB h) hb (Kd.C_below hA h) ha rfl rfl (sameS_refl V)).mono (fun _ _ q => ⟨q.1, below_step h q.2⟩)
end Go.Proofs.Ythaaajpmiofodaa.P
end
section
set_option linter.unusedVariables false
set_option linter.unusedSimpArgs false
namespace Go.Proofs.Ythaaajpmiofodaa.P
open Go.RowKit Go.Proofs.YthaaajpmiofodaaW.PrintWords Go.Proofs.YthaaajpmiofodaaW.PrintLast Go.Proofs.YthaaajpmiofodaaW.PrintMore
attribute [local go_sem] max2_int min2_int max_two min_two max_three min_three max_four min_four
set_option linter.unusedVariables false
set_option linter.unusedSimpArgs false
theorem blk6 {W : World} {g t : Nat} {a b c d e f : Value} (h : W.heap[g]? = some (.cells #[a, b, c, d, e, f] t (0, 0))) : W.cell? ⟨g, 0, none⟩ = some a ∧ W.cell? ⟨g, 1, none⟩ = some b ∧ W.cell? ⟨g, 2, none⟩ = some c ∧ W.cell? ⟨g, 3, none⟩ = some d ∧ W.cell? ⟨g, 4, none⟩ = some e ∧ W.cell? ⟨g, 5, none⟩ = some f :=
  ⟨(blk_cell h 0).trans rfl, (blk_cell h 1).trans rfl, (blk_cell h 2).trans rfl, (blk_cell h 3).trans rfl, (blk_cell h 4).trans rfl, (blk_cell h 5).trans rfl⟩
theorem sd_at (k : Nat) (A : Option Addr) (c n : Nat) (l : List S47) (A' : Option Addr) (c' n' : Nat) (w : World) (hl : Kd.C k47 w A l.length l) (hc : l.length ≤ c) (hm : Kd.C k47 w A' l.length l) (hc' : l.length ≤ c') (h : gouacheref03_SameDecls.f k l l = some true) (hn : l.length = n) (hn' : l.length = n') :
    Calls Try.prog 20 #[.slice A n c, .slice A' n' c'] w fun e w' => e = .returned (.bool true) ∧ Below w.heap.size w w' := by
  subst hn
  subst hn'
  exact gouacheref03_SameDecls.calls k A c l A' c' l true w hl hc hm hc' h
theorem declsS_len (l : List S45) : (declsS l).length ≤ l.length := declsF_count _ l
theorem ev_parts (X Y ZS : List S45) (k : Int) (hk : k = 17) (hz : (X ++ [(⟨⟨k, ⟨#[]⟩, ⟨#[]⟩, false, false⟩, []⟩ : S45)]) ++ Y = ZS) (hx : X.length ≤ 2000) (hy : Y.length ≤ 2000) (hcx : countS X ≤ 2000) (hcy : countS Y ≤ 2000) :
    Ev (fun k => gouacheref03_SameDecls.f k (declsS X ++ declsS Y) (declsS X ++ declsS Y)) true := by
  have hd : declsS ZS = declsS X ++ declsS Y := by rw [← hz]; exact decls_parts X Y _ hk
  have e : countS ZS = countS X + 1 + countS Y := by rw [← hz, cnt_append, cnt_append, countS, cnt_nil]
  have hl := declsS_len ZS
  have el : ZS.length = X.length + 1 + Y.length := by rw [← hz]; simp; omega
  rw [← hd]
  exact ev_SameDecls' (declsS ZS) (by omega) (fun x hx => ok_cnt _ (by have := cnt_decls ZS.length ZS (Nat.le_refl _) x hx; omega))
theorem ok_parts (X Y : List S45) (k : Int) (hx : okTexts X) (hy : okTexts Y) : okTexts ((X ++ [(⟨⟨k, ⟨#[]⟩, ⟨#[]⟩, false, false⟩, []⟩ : S45)]) ++ Y) := by
  intro x h
  rcases List.mem_append.1 h with h | h
  · rcases List.mem_append.1 h with h | h
    · exact hx x h
    · rw [List.mem_singleton.1 h]; exact Nat.zero_le _
  · exact hy x h
theorem size_al (W : World) (o : Obj) : (W.alloc o).heap.size = W.heap.size + 1 := Array.size_push ..
theorem heap_old (W : World) (o : Obj) (k : Nat) (h : k < W.heap.size) : (W.alloc o).heap[k]? = W.heap[k]? := Array.getElem?_push_lt h |>.trans (Array.getElem?_eq_getElem h).symm
theorem blk_two (W : World) (o1 o2 : Obj) : ((W.alloc o1).alloc o2).heap[W.heap.size + 1]? = some o2 := by
  have h := blk_new (W.alloc o1) o2
  rwa [size_al] at h
theorem blk_two0 (W : World) (o1 o2 : Obj) : ((W.alloc o1).alloc o2).heap[W.heap.size]? = some o1 := by
  have h := blk_new W o1
  have hl : W.heap.size < (W.alloc o1).heap.size := by rw [size_al]; omega
  exact (heap_old _ o2 _ hl).trans h
theorem N_emp4 (W : World) (o : Obj) : Kd.N k45 45 ((W.alloc o).alloc (.cells #[] 45)) W.heap.size (okN (fun k => k < W.heap.size) W) (.slice (some ⟨W.heap.size + 1, 0, none⟩) 0 0) [] := by
  have h := N_empty k45 (W.alloc o) 45 W.heap.size (okN (fun k => k < W.heap.size) W) (by rw [size_al]; omega) (.inr (by rw [size_al]; omega))
  rwa [size_al] at h
theorem gate_world {P : Program} {o : Oper} {ys : Nat → Option Bool} {a : Act} (W : World) {K : Act → World → Prop} {Q : Exit → Act → World → Prop} {N : Tmp} (_ : o.dst = some N) (h : if Region.wanted o ys = true then Oper.wp P o a W K Q else K (a.put o.dst undef) W) : if Region.wanted o ys = true then Oper.wp P o a W K Q else K (a.put o.dst undef) W := h
theorem N_emp3 (W : World) : Kd.N k45 45 (W.alloc (.cells #[] 45)) W.heap.size (okN (fun k => k < W.heap.size) W) (.slice (some ⟨W.heap.size, 0, none⟩) 0 0) [] := N_empty k45 W 45 W.heap.size _ (Nat.le_refl _) (.inr (Nat.le_refl _))
theorem gate_step {P : Program} {o : Oper} {ys : Nat → Option Bool} {a : Act} {W : World} {K : Act → World → Prop} {Q : Exit → Act → World → Prop} {N : Tmp} (_ : o.dst = some N) (h : if Region.wanted o ys = true then Oper.wp P o a W K Q else K (a.put o.dst undef) W) : if Region.wanted o ys = true then Oper.wp P o a W K Q else K (a.put o.dst undef) W := h
theorem block_F {W : World} {g : Nat} {k : Int} (hb : W.heap[g]? = some (.cells #[.int .i64 k, .string ⟨#[]⟩, .string ⟨#[]⟩, .bool false, .bool false, .slice none 0 0] 45 (0, 0))) : Kd.F k45 W (fun j => j = g) (some ⟨g, 0, none⟩) 1 [(⟨⟨k, ⟨#[]⟩, ⟨#[]⟩, false, false⟩, []⟩ : S45)] := by
  intro W' hW
  have := hW g rfl (blk_lt hb)
  exact block_C [] none 0 k (this.trans hb) (Kd.F_now (F_nil45 W' (fun _ => True))) (Nat.le_refl _)
theorem rules_C (A : Option Addr) (c n : Nat) (l : List S45) (w : World) (hl : Kd.C k45 w A l.length l) (hc : l.length ≤ c) (hs : l.length ≤ 1000000000) (hn : l.length = n) :
    Calls Try.prog 15 #[.slice A n c] w fun e w' => ∃ A2 c2, e = .returned (.slice A2 (rulesS l).length c2) ∧ (rulesS l).length ≤ c2 ∧ Kd.C k36 w' A2 (rulesS l).length (rulesS l) ∧ Below w.heap.size w w' := by
  subst hn
  refine (rules_calls _ A c l w (Kd.C_F k45_heap hl) hc (fun k hk => hk) (by omega)).mono ?_
  rintro e w' ⟨v, rfl, hN, hb⟩
  obtain ⟨A2, c2, rfl⟩ := Kd.N_slice hN
  exact ⟨A2, c2, rfl, (Kd.N_reads' hN).2.1, (Kd.N_reads' hN).2.2, hb⟩
theorem decls_N (P : Nat → Prop) (A : Option Addr) (c n : Nat) (l : List S45) (w : World) (hl : Kd.F k45 w P A l.length l) (hP : ∀ k, P k → k < w.heap.size) (hc : l.length ≤ c) (hs : l.length ≤ 1000000000) (ht : okTexts l) (hn : l.length = n) :
    Calls Try.prog 21 #[.slice A n c] w fun e w' => ∃ A2 c2, e = .returned (.slice A2 (declsS l).length c2) ∧ (declsS l).length ≤ c2 ∧ Kd.N k47 47 w' w.heap.size (okN P w) (.slice A2 (declsS l).length c2) (declsS l) ∧ Below w.heap.size w w' := by
  subst hn
  refine (decls_calls P A c l w hl hc hP (by omega) ht).mono ?_
  rintro e w' ⟨v, rfl, hN, hb⟩
  obtain ⟨A2, c2, rfl⟩ := Kd.N_slice hN
  exact ⟨A2, c2, rfl, (Kd.N_reads' hN).2.1, hN, hb⟩
set_option maxHeartbeats 32000000 in
set_option maxRecDepth 100000 in
theorem pparts_calls (A0 : Option Addr) (c0 : Nat) (l : List S43) (A1 : Option Addr) (c1 : Nat) (m : List S43) (w : World) (hl : Kd.C k43 w A0 l.length l) (hc0 : l.length ≤ c0) (hm : Kd.C k43 w A1 m.length m) (hc1 : m.length ≤ c1)
    (ht : ∀ p, p ∈ l → p.f1.size ≤ 140737488351232) (hn : l.length * 48 ≤ 140737488351232) (ht2 : ∀ p, p ∈ m → p.f1.size ≤ 140737488351232) (hn2 : m.length * 48 ≤ 140737488351232) :
    Calls Try.prog 6 #[.slice A0 l.length c0, .slice A1 m.length c1] w fun e w' => e = .returned (.bool true) ∧ Below w.heap.size w w' := by
  have hu36 := Try.underlying36
  have hu43 := Try.underlying43
  have hu45 := Try.underlying45
  have hu47 := Try.underlying47
  have HL := Aside0.mk hl
  have HM := Aside0.mk hm
  have HC0 := Aside0.mk hc0
  have HC1 := Aside0.mk hc1
  have HT := Aside0.mk ht
  have HT2 := Aside0.mk ht2
  have hlz : (l.length : Int) ≤ 140737488351232 := by omega
  have hmz : (m.length : Int) ≤ 140737488351232 := by omega
  have hlz0 : (0 : Int) ≤ (l.length : Int) := by omega
  have hmz0 : (0 : Int) ≤ (m.length : Int) := by omega
  have HB := Aside0.mk (Below.refl w.heap.size w)
  clear hl hm hc0 hc1 ht ht2 hn hn2
  by_cases hs : (l.length : Int) + (m.length : Int) > 2000
  · go_enter Try.func6, Try.ntmps6
    go_wp2_with fail
    refine (gouachelaw03_lives.calls 200 true _ lives_200).mono ?_
    rintro e WL ⟨rfl, hbl⟩
    go_wp2
    go_ret
    exact ⟨rfl, below_step HB.out hbl⟩
  · have HS := Aside0.mk (show l.length ≤ 2000 ∧ m.length ≤ 2000 by omega)
    have hvl : parse_Values.f l = some (valsS l) := by unfold parse_Values.f; rw [if_pos (by omega)]
    have hvm : parse_Values.f m = some (valsS m) := by unfold parse_Values.f; rw [if_pos (by omega)]
    have HVL := Aside0.mk hvl
    have HVM := Aside0.mk hvm
    clear hvl hvm
    go_enter Try.func6, Try.ntmps6
    go_upto_region 3 with (fail)
    clear hs hlz hmz hlz0 hmz0
    go_wp2_with fail
    refine (parse_Values.calls A0 c0 l _ _ HL.out HC0.out HVL.out).mono ?_
    rintro e W1 ⟨v1, rfl, hR1, hb1⟩
    obtain ⟨A5, c5, rfl, hx1, hx2⟩ := Kd.R_reads hR1
    have HB1 := Aside0.mk hb1
    have HCX := Aside0.mk hx1
    have HX1 := Aside0.mk hx2
    clear hR1 hb1 hx1 hx2
    go_wp2_with fail
    refine (parse_Values.calls A1 c1 m _ _ (Kd.C_below HM.out HB1.out) HC1.out HVM.out).mono ?_
    rintro e W2 ⟨v2, rfl, hR2, hb2⟩
    obtain ⟨A6, c6, rfl, hy1, hy2⟩ := Kd.R_reads hR2
    have HB2 := Aside0.mk (below_step HB1.out hb2)
    have HCY := Aside0.mk hy1
    have HY2 := Aside0.mk hy2
    have HX2 := Aside0.mk (Kd.C_below HX1.out hb2)
    have hXl := valsS_len l
    have hYl := valsS_len m
    have HXL := Aside0.mk (show (valsS l).length ≤ 2000 by have := HS.out; omega)
    have HYL := Aside0.mk (show (valsS m).length ≤ 2000 by have := HS.out; omega)
    have HXC := Aside0.mk (show countS (valsS l) ≤ 2000 by have := cnt_valsS l; have := HS.out; omega)
    have HYC := Aside0.mk (show countS (valsS m) ≤ 2000 by have := cnt_valsS m; have := HS.out; omega)
    have HXT := Aside0.mk (valsS_texts l HT.out)
    have HYT := Aside0.mk (valsS_texts m HT2.out)
    generalize valsS l = X at *
    generalize valsS m = Y at *
    clear hR2 hb2 hy1 hy2 HX1 hXl hYl HVL HVM HL HM HT HT2
    go_upto_region 5 with (fail)
    obtain ⟨g, hg⟩ : ∃ g, g = W2.heap.size := ⟨_, rfl⟩
    have hblk := blk_new W2 (Obj.cells #[.int .i64 23, .string ⟨#[]⟩, .string ⟨#[]⟩, .bool false, .bool false, .slice none 0 0] 45)
    have hbw := below_alloc (Below.refl W2.heap.size W2) (Obj.cells #[.int .i64 23, .string ⟨#[]⟩, .string ⟨#[]⟩, .bool false, .bool false, .slice none 0 0] 45)
    rw [← hg] at hblk ⊢
    generalize W2.alloc (Obj.cells #[.int .i64 23, .string ⟨#[]⟩, .string ⟨#[]⟩, .bool false, .bool false, .slice none 0 0] 45) = W3 at hblk hbw ⊢
    obtain ⟨q0, q1, q2, q3, q4, q5⟩ := blk6 hblk
    have HB3 := Aside0.mk (below_step HB2.out hbw)
    have HX3 := Aside0.mk (Kd.C_below HX2.out hbw)
    have HY3 := Aside0.mk (Kd.C_below HY2.out hbw)
    have HFX := Aside0.mk (Kd.C_F k45_heap HX3.out)
    clear hbw hg hblk HX2 HY2
    go_region_held3 (fun w' => w'.cell? ⟨g, 0, none⟩ = some (.int .i64 23) ∧ w'.cell? ⟨g, 1, none⟩ = some (.string ⟨#[]⟩) ∧ w'.cell? ⟨g, 2, none⟩ = some (.string ⟨#[]⟩) ∧ w'.cell? ⟨g, 3, none⟩ = some (.bool false) ∧ w'.cell? ⟨g, 4, none⟩ = some (.bool false) ∧ w'.cell? ⟨g, 5, none⟩ = some (.slice none 0 0)) (first | go_keep | exact ⟨pw_cell_below hb34 q0, pw_cell_below hb34 q1, pw_cell_below hb34 q2, pw_cell_below hb34 q3, pw_cell_below hb34 q4, pw_cell_below hb34 q5⟩ | exact ⟨pw_cell_below hb31 q0, pw_cell_below hb31 q1, pw_cell_below hb31 q2, pw_cell_below hb31 q3, pw_cell_below hb31 q4, pw_cell_below hb31 q5⟩) (first
      | ((first | (with_reducible refine gate_world (W3.alloc (.cells #[] 45)) (N := 31) rfl ?_) | (with_reducible refine gate_world (W3.alloc (.cells #[] 45)).drew (N := 31) rfl ?_)); refine Kd.N_append_rows_step k45 (w0 := W3) W3.heap.size (by rfl) (.tmp 29) (.tmp 30) 25 45 (.agg #[(.int .i64 0), (.string ⟨#[]⟩), (.string ⟨#[]⟩), (.bool false), (.bool false), (.slice none 0 0)]) 72 (by rfl) Try.underlying25 info45 rfl (by decide) (by omega) (.slice (some ⟨W3.heap.size, 0, none⟩) 0 0) [] X A5 X.length c5 (okN (fun k => k < W3.heap.size) W3) (fun k => k < W3.heap.size) (by rfl) (by first | (go_simp; done) | (go_simp; rfl) | rfl) (by (repeat (first | (with_reducible apply Kd.N_drew) | (with_reducible exact N_emp3 _))); done) (Kd.F_below HFX.out (by (repeat (first | (with_reducible refine below_alloc ?_ _) | (with_reducible apply below_drew1) | (with_reducible exact Below.refl _ _))); done)) (fun k hk => ⟨.inl hk, fun e => by have h1 : k < W3.heap.size := hk; have h2 : k = W3.heap.size := (Option.some.inj e); omega⟩) (fun k hk => .inr (Nat.le_trans (by simp <;> omega) hk)) (by (repeat (first | (with_reducible refine below_alloc ?_ _) | (with_reducible apply below_drew1) | (with_reducible exact Below.refl _ _))); done) (by simp <;> omega) (by have := HXL.out; simp; omega) ?_; intro v31 w31 hN31 hb31 hg31 hat31; rw [List.nil_append] at hN31)
      | ((first | (with_reducible refine gate_world ((W3.alloc (.cells #[] 45)).alloc (.cells #[.int .i64 23, .string ⟨#[]⟩, .string ⟨#[]⟩, .bool false, .bool false, .slice none 0 0] 45)) (N := 31) rfl ?_) | (with_reducible refine gate_world ((W3.alloc (.cells #[] 45)).alloc (.cells #[.int .i64 23, .string ⟨#[]⟩, .string ⟨#[]⟩, .bool false, .bool false, .slice none 0 0] 45)).drew (N := 31) rfl ?_)); refine Kd.N_append_rows_step k45 (w0 := W3) W3.heap.size (by rfl) (.tmp 29) (.tmp 30) 25 45 (.agg #[(.int .i64 0), (.string ⟨#[]⟩), (.string ⟨#[]⟩), (.bool false), (.bool false), (.slice none 0 0)]) 72 (by rfl) Try.underlying25 info45 rfl (by decide) (by omega) (.slice (some ⟨W3.heap.size, 0, none⟩) 0 0) [] X A5 X.length c5 (okN (fun k => k < W3.heap.size) W3) (fun k => k < W3.heap.size) (by rfl) (by first | (go_simp; done) | (go_simp; rfl) | rfl) (by (repeat (first | (with_reducible apply Kd.N_drew) | (with_reducible exact N_emp3 _) | (with_reducible apply Kd.N_alloc))); done) (Kd.F_below HFX.out (by (repeat (first | (with_reducible refine below_alloc ?_ _) | (with_reducible apply below_drew1) | (with_reducible exact Below.refl _ _))); done)) (fun k hk => ⟨.inl hk, fun e => by have h1 : k < W3.heap.size := hk; have h2 : k = W3.heap.size := (Option.some.inj e); omega⟩) (fun k hk => .inr (Nat.le_trans (by simp <;> omega) hk)) (by (repeat (first | (with_reducible refine below_alloc ?_ _) | (with_reducible apply below_drew1) | (with_reducible exact Below.refl _ _))); done) (by simp <;> omega) (by have := HXL.out; simp; omega) ?_; intro v31 w31 hN31 hb31 hg31 hat31; rw [List.nil_append] at hN31; have hA31 : some (W3.heap.size + 1) ≠ v31.ownBlock := (by rcases hat31 with h | ⟨b, h, hb⟩; (rw [h]; exact fun e => absurd (show W3.heap.size + 1 = W3.heap.size from Option.some.inj e) (by omega)); (rw [h]; intro e; have e2 := Option.some.inj e; have hb2 : W3.heap.size + 1 + 1 ≤ b := (by simpa using hb); omega)); have hL31 : w31.heap[W3.heap.size + 1]? = some (.cells #[.int .i64 23, .string ⟨#[]⟩, .string ⟨#[]⟩, .bool false, .bool false, .slice none 0 0] 45 (0, 0)) := (hg31.block (W3.heap.size + 1) (by simp; done) (by simp [Value.ownBlock]; done)).trans (blk_two W3 (.cells #[] 45) (.cells #[.int .i64 23, .string ⟨#[]⟩, .string ⟨#[]⟩, .bool false, .bool false, .slice none 0 0] 45)))
      | ((first | (with_reducible refine gate_world ((W3.alloc (.cells #[.int .i64 23, .string ⟨#[]⟩, .string ⟨#[]⟩, .bool false, .bool false, .slice none 0 0] 45)).alloc (.cells #[] 45)) (N := 31) rfl ?_) | (with_reducible refine gate_world ((W3.alloc (.cells #[.int .i64 23, .string ⟨#[]⟩, .string ⟨#[]⟩, .bool false, .bool false, .slice none 0 0] 45)).alloc (.cells #[] 45)).drew (N := 31) rfl ?_)); refine Kd.N_append_rows_step k45 (w0 := W3) W3.heap.size (by rfl) (.tmp 29) (.tmp 30) 25 45 (.agg #[(.int .i64 0), (.string ⟨#[]⟩), (.string ⟨#[]⟩), (.bool false), (.bool false), (.slice none 0 0)]) 72 (by rfl) Try.underlying25 info45 rfl (by decide) (by omega) (.slice (some ⟨W3.heap.size + 1, 0, none⟩) 0 0) [] X A5 X.length c5 (okN (fun k => k < W3.heap.size) W3) (fun k => k < W3.heap.size) (by rfl) (by first | (go_simp; done) | (go_simp; rfl) | rfl) (by (repeat (first | (with_reducible apply Kd.N_drew) | (with_reducible exact N_emp4 _ _) | (with_reducible apply Kd.N_alloc))); done) (Kd.F_below HFX.out (by (repeat (first | (with_reducible refine below_alloc ?_ _) | (with_reducible apply below_drew1) | (with_reducible exact Below.refl _ _))); done)) (fun k hk => ⟨.inl hk, fun e => by have h1 : k < W3.heap.size := hk; have h2 : k = W3.heap.size + 1 := (Option.some.inj e); omega⟩) (fun k hk => .inr (Nat.le_trans (by simp <;> omega) hk)) (by (repeat (first | (with_reducible refine below_alloc ?_ _) | (with_reducible apply below_drew1) | (with_reducible exact Below.refl _ _))); done) (by simp <;> omega) (by have := HXL.out; simp; omega) ?_; intro v31 w31 hN31 hb31 hg31 hat31; rw [List.nil_append] at hN31; have hA31 : some (W3.heap.size) ≠ v31.ownBlock := (by rcases hat31 with h | ⟨b, h, hb⟩; (rw [h]; exact fun e => absurd (show W3.heap.size = W3.heap.size + 1 from Option.some.inj e) (by omega)); (rw [h]; intro e; have e2 := Option.some.inj e; have hb2 : W3.heap.size + 1 + 1 ≤ b := (by simpa using hb); omega)); have hM31 : w31.heap[W3.heap.size]? = some (.cells #[.int .i64 23, .string ⟨#[]⟩, .string ⟨#[]⟩, .bool false, .bool false, .slice none 0 0] 45 (0, 0)) := (hg31.block (W3.heap.size) (by simp <;> omega) (by simp [Value.ownBlock]; done)).trans (blk_two0 W3 (.cells #[.int .i64 23, .string ⟨#[]⟩, .string ⟨#[]⟩, .bool false, .bool false, .slice none 0 0] 45) (.cells #[] 45)))
      | ((with_reducible refine gate_step (N := 34) rfl ?_); have q2_ := hL31; have q_ := hN31; refine Kd.N_append_rows_step k45 (w0 := W3) W3.heap.size (by rfl) (.tmp 31) (.tmp 33) 25 45 (.agg #[(.int .i64 0), (.string ⟨#[]⟩), (.string ⟨#[]⟩), (.bool false), (.bool false), (.slice none 0 0)]) 72 (by rfl) Try.underlying25 info45 rfl (by decide) (by omega) v31 X [(⟨⟨23, ⟨#[]⟩, ⟨#[]⟩, false, false⟩, []⟩ : S45)] (some ⟨W3.heap.size + 1, 0, none⟩) 1 1 (okN (fun k => k < W3.heap.size) W3) (fun k => k = W3.heap.size + 1) (by rfl) (by first | (go_simp; done) | (go_simp; rfl) | rfl) (by (repeat (first | (with_reducible exact hN31) | (with_reducible apply Kd.N_drew))); done) (by (repeat (first | (with_reducible exact block_F hL31) | (with_reducible apply Kd.F_drew))); done) (fun k hk => ⟨.inr (by omega), fun e => hA31 (hk ▸ e)⟩) (fun k hk => .inr (Nat.le_trans hb31.size hk)) (by (repeat (first | (with_reducible exact hb31) | (with_reducible apply below_drew1))); done) hb31.size (by have := HXL.out; omega) ?_; intro v34 w34 hN34 hb34 hg34 hat34)
      | ((with_reducible refine gate_step (N := 34) rfl ?_); have q2_ := hM31; have q_ := hN31; refine Kd.N_append_rows_step k45 (w0 := W3) W3.heap.size (by rfl) (.tmp 31) (.tmp 33) 25 45 (.agg #[(.int .i64 0), (.string ⟨#[]⟩), (.string ⟨#[]⟩), (.bool false), (.bool false), (.slice none 0 0)]) 72 (by rfl) Try.underlying25 info45 rfl (by decide) (by omega) v31 X [(⟨⟨23, ⟨#[]⟩, ⟨#[]⟩, false, false⟩, []⟩ : S45)] (some ⟨W3.heap.size, 0, none⟩) 1 1 (okN (fun k => k < W3.heap.size) W3) (fun k => k = W3.heap.size) (by rfl) (by first | (go_simp; done) | (go_simp; rfl) | rfl) (by (repeat (first | (with_reducible exact hN31) | (with_reducible apply Kd.N_drew))); done) (by (repeat (first | (with_reducible exact block_F hM31) | (with_reducible apply Kd.F_drew))); done) (fun k hk => ⟨.inr (by omega), fun e => hA31 (hk ▸ e)⟩) (fun k hk => .inr (Nat.le_trans hb31.size hk)) (by (repeat (first | (with_reducible exact hb31) | (with_reducible apply below_drew1))); done) hb31.size (by have := HXL.out; omega) ?_; intro v34 w34 hN34 hb34 hg34 hat34)
      | ((with_reducible refine gate_step (N := 34) rfl ?_); have q_ := hN31; refine Kd.N_append_rows_step k45 (w0 := W3) W3.heap.size (by rfl) (.tmp 31) (.tmp 33) 25 45 (.agg #[(.int .i64 0), (.string ⟨#[]⟩), (.string ⟨#[]⟩), (.bool false), (.bool false), (.slice none 0 0)]) 72 (by rfl) Try.underlying25 info45 rfl (by decide) (by omega) v31 X [(⟨⟨23, ⟨#[]⟩, ⟨#[]⟩, false, false⟩, []⟩ : S45)] (some ⟨w31.heap.size, 0, none⟩) 1 1 (okN (fun k => k < W3.heap.size) W3) (fun k => k = w31.heap.size) (by rfl) (by first | (go_simp; done) | (go_simp; rfl) | rfl) (by (repeat (first | (with_reducible exact hN31) | (with_reducible apply Kd.N_drew) | (with_reducible apply Kd.N_alloc))); done) (by (repeat (first | (with_reducible exact block_F (blk_new w31 (.cells #[.int .i64 23, .string ⟨#[]⟩, .string ⟨#[]⟩, .bool false, .bool false, .slice none 0 0] 45))) | (with_reducible apply Kd.F_drew))); done) (fun k hk => ⟨.inr (hk ▸ hb31.size), fun e => absurd (Kd.N_lt hN31 k e.symm) (by omega)⟩) (fun k hk => .inr (Nat.le_trans (below_alloc hb31 (.cells #[.int .i64 23, .string ⟨#[]⟩, .string ⟨#[]⟩, .bool false, .bool false, .slice none 0 0] 45)).size hk)) (by (repeat (first | (with_reducible exact hb31) | (with_reducible apply below_drew1) | (with_reducible refine below_alloc ?_ _))); done) (below_alloc hb31 (.cells #[.int .i64 23, .string ⟨#[]⟩, .string ⟨#[]⟩, .bool false, .bool false, .slice none 0 0] 45)).size (by have := HXL.out; omega) ?_; intro v34 w34 hN34 hb34 hg34 hat34))
    all_goals
      obtain ⟨Z, hz⟩ : ∃ q, X ++ [(⟨⟨23, ⟨#[]⟩, ⟨#[]⟩, false, false⟩, []⟩ : S45)] = q := ⟨_, rfl⟩
      rw [hz] at hN34
      obtain ⟨A8, c8, hv⟩ := Kd.N_slice hN34
      subst hv
      have HZ := Aside0.mk hz
      have HZL := Aside0.mk (show Z.length ≤ 2001 by rw [← hz]; have := HXL.out; simp; omega)
      have HZC := Aside0.mk (show countS Z ≤ 2001 by rw [← hz, cnt_append, countS, cnt_nil]; have := HXC.out; omega)
      have HB4 := Aside0.mk (below_step HB3.out hb34)
      have HX4 := Aside0.mk (Kd.C_below HX3.out hb34)
      have HY4 := Aside0.mk (Kd.C_below HY3.out hb34)
      have HZ4 := Aside0.mk (Kd.N_reads' hN34).2.2
      have HCZ := Aside0.mk (Kd.N_reads' hN34).2.1
      clear hz hN34 hb34 hg34 hat34 hN31 hb31 hg31 hat31 q0 q1 q2 q3 q4 q5 HX3 HY3 HFX
      go_wp2_with fail
      refine (rules_C A8 c8 _ Z _ HZ4.out HCZ.out (by have := HZL.out; omega) rfl).mono ?_
      rintro e W5 ⟨A9, c9, rfl, ha1, ha2, hb5⟩
      have HB5 := Aside0.mk (below_step HB4.out hb5)
      have HX5 := Aside0.mk (Kd.C_below HX4.out hb5)
      have HY5 := Aside0.mk (Kd.C_below HY4.out hb5)
      have HZ5 := Aside0.mk (Kd.C_below HZ4.out hb5)
      have HCA := Aside0.mk ha1
      have HA5 := Aside0.mk ha2
      clear hb5 ha1 ha2 HX4 HY4 HZ4
      go_wp2_with fail
      refine (rules_C A6 c6 _ Y _ HY5.out HCY.out (by have := HYL.out; omega) rfl).mono ?_
      rintro e W6 ⟨A10, c10, rfl, ha1, ha2, hb6⟩
      have HB6 := Aside0.mk (below_step HB5.out hb6)
      have HX6 := Aside0.mk (Kd.C_below HX5.out hb6)
      have HY6 := Aside0.mk (Kd.C_below HY5.out hb6)
      have HFZ := Aside0.mk (Kd.C_F k45_heap (Kd.C_below HZ5.out hb6))
      have HFY := Aside0.mk (Kd.C_F k45_heap HY6.out)
      have HA6 := Aside0.mk (Kd.C_below HA5.out hb6)
      have HCB := Aside0.mk ha1
      have HR6 := Aside0.mk ha2
      clear hb6 ha1 ha2 HX5 HY5 HZ5 HA5
      have hra := rulesF_count (Z.length + 1) Z
      have hrb := rulesF_count (Y.length + 1) Y
      have hap := rules_parts X Y (⟨⟨23, ⟨#[]⟩, ⟨#[]⟩, false, false⟩, []⟩ : S45) rfl
      rw [HZ.out] at hap
      have HCN := Aside0.mk (cnt_rules (Z ++ Y).length (Z ++ Y) (Nat.le_refl _))
      rw [show rulesF (Z.length + 1) Z = rulesS Z from rfl] at hra
      rw [show rulesF (Y.length + 1) Y = rulesS Y from rfl] at hrb
      go_wp2_with (first
        | ((with_reducible refine gate_dst (N := 39) rfl ?_); refine Kd.N_lit k45 (w0 := W6) W6.heap.size 45 ?hg (N' := 39) ?hd (xs := ([] : List S45)) (inner := []) (ok := (okN (fun k => k < W6.heap.size) W6)) (okp := (okN (fun k => k < W6.heap.size) W6)) ?hr ?hp (fun _ hk => hk) (.inr (Nat.le_refl _)) (Below.refl _ _) (Nat.le_refl _) (by simp) ?_; (case hd => rfl); (case hg => rfl); (case hr => first | (go_simp; done) | (go_simp; rfl)); (case hp => exact (Reps.none _ _)); intro v39 w39 ho39 hb39 hg39 hat39; have HO39 := Aside0.mk ho39; have HG39 := Aside0.mk hb39; clear ho39 hb39 hg39 hat39)
        | ((with_reducible refine gate_builtin (b := .append) (xs := #[.tmp 39, .tmp 40]) rfl ?_); at_builtin; refine Kd.N_append_rows k45 (w0 := W6) W6.heap.size rfl (.tmp 39) (.tmp 40) 25 45 (.agg #[(.int .i64 0), (.string ⟨#[]⟩), (.string ⟨#[]⟩), (.bool false), (.bool false), (.slice none 0 0)]) 72 rfl Try.underlying25 info45 rfl (by decide) (by omega) v39 [] Z _ _ _ (okN (fun k => k < W6.heap.size) W6) (fun k => k < W6.heap.size) rfl rfl HO39.out (Kd.F_below HFZ.out HG39.out) ?ok41 ?fr41 HG39.out HG39.out.size (by have := HZL.out; simp; omega) ?_; (case ok41 => exact fun k hk => ⟨.inl hk, fun e => absurd (Kd.N_base HO39.out k e.symm) (Nat.not_le.2 hk)⟩); (case fr41 => exact fun k hk => .inr (Nat.le_trans HG39.out.size hk)); intro v41 w41 ho41 hb41 hg41 hat41; rw [List.nil_append] at ho41; have HO41 := Aside0.mk ho41; have HG41 := Aside0.mk hb41; clear ho41 hb41 hg41 hat41)
        | ((with_reducible refine gate_builtin (b := .append) (xs := #[.tmp 41, .tmp 42]) rfl ?_); at_builtin; refine Kd.N_append_rows k45 (w0 := W6) W6.heap.size rfl (.tmp 41) (.tmp 42) 25 45 (.agg #[(.int .i64 0), (.string ⟨#[]⟩), (.string ⟨#[]⟩), (.bool false), (.bool false), (.slice none 0 0)]) 72 rfl Try.underlying25 info45 rfl (by decide) (by omega) v41 Z Y _ _ _ (okN (fun k => k < W6.heap.size) W6) (fun k => k < W6.heap.size) rfl rfl HO41.out (Kd.F_below HFY.out HG41.out) ?ok43 ?fr43 HG41.out HG41.out.size (by have := HZL.out; have := HYL.out; omega) ?_; (case ok43 => exact fun k hk => ⟨.inl hk, fun e => absurd (Kd.N_base HO41.out k e.symm) (Nat.not_le.2 hk)⟩); (case fr43 => exact fun k hk => .inr (Nat.le_trans HG41.out.size hk)); intro v43 w43 ho43 hb43 hg43 hat43; obtain ⟨ZY, hzy⟩ : ∃ q, Z ++ Y = q := ⟨_, rfl⟩; rw [hzy] at ho43; have HZY := Aside0.mk hzy; clear hzy; obtain ⟨A43, c43, hv43⟩ := Kd.N_slice ho43; subst hv43; have HO43 := Aside0.mk ho43; have HG43 := Aside0.mk hb43; clear ho43 hb43 hg43 hat43)
        | fail)
      refine (rules_C A43 c43 _ ZY _ (Kd.N_reads' HO43.out).2.2 (Kd.N_reads' HO43.out).2.1 (by rw [← HZY.out]; have := HZL.out; have := HYL.out; simp; omega) rfl).mono ?_
      rintro e W7 ⟨A11, c11, rfl, ha1, ha2, hb7⟩
      have hb67 := below_step HG43.out hb7
      have HB7 := Aside0.mk (below_step HB6.out hb67)
      have HX7 := Aside0.mk (Kd.C_below HX6.out hb67)
      have HY7 := Aside0.mk (Kd.C_below HY6.out hb67)
      have HFA := Aside0.mk (Kd.C_F k36_heap (Kd.C_below HA6.out hb67))
      have HFR := Aside0.mk (Kd.C_F k36_heap (Kd.C_below HR6.out hb67))
      have hab : rulesS ZY = rulesS Z ++ rulesS Y := by rw [← HZY.out]; exact hap
      rw [hab] at ha1 ha2 ⊢
      generalize rulesS Z = RA at *
      generalize rulesS Y = RB at *
      have HRA := Aside0.mk (show RA.length ≤ 2001 by have := HZL.out; omega)
      have HRB := Aside0.mk (show RB.length ≤ 2000 by have := HYL.out; omega)
      have hlen : (RA ++ RB).length = RA.length + RB.length := List.length_append
      have hlz : ((RA.length + RB.length : Nat) : Int) = (RA.length : Int) + (RB.length : Int) := by push_cast; rfl
      have hza : (RA.length : Int) ≤ 2001 := by have := HRA.out; omega
      have hzb : (RB.length : Int) ≤ 2000 := by have := HRB.out; omega
      have HRR := Aside0.mk ha2
      have HCR := Aside0.mk ha1
      rw [hlen]
      clear hab hap HCN hra hrb ha1 ha2 hb7 hb67 HZY HZ HO43 HG43 HFZ HFY HX6 HY6 HA6 HR6 HB6 HB5 HB4 HB3
      go_upto_region 10 with (fail)
      rw [← hlen]
      obtain ⟨RR, hrr⟩ : ∃ q, RA ++ RB = q := ⟨_, rfl⟩
      rw [hrr] at HRR HCR ⊢
      clear hlz hza hzb hlen
      go_wp2_with (first
        | ((with_reducible refine gate_dst (N := 53) rfl ?_); refine Kd.N_lit k36 (w0 := W7) W7.heap.size 36 ?hg (N' := 53) ?hd (xs := ([] : List S36)) (inner := []) (ok := (okN (fun k => k < W7.heap.size) W7)) (okp := (okN (fun k => k < W7.heap.size) W7)) ?hr ?hp (fun _ hk => hk) (.inr (Nat.le_refl _)) (Below.refl _ _) (Nat.le_refl _) (by simp) ?_; (case hd => rfl); (case hg => rfl); (case hr => first | (go_simp; done) | (go_simp; rfl)); (case hp => exact (Reps.none _ _)); intro v53 w53 ho53 hb53 hg53 hat53; have HO53 := Aside0.mk ho53; have HG53 := Aside0.mk hb53; clear ho53 hb53 hg53 hat53)
        | ((with_reducible refine gate_builtin (b := .append) (xs := #[.tmp 53, .tmp 54]) rfl ?_); at_builtin; refine Kd.N_append_rows k36 (w0 := W7) W7.heap.size rfl (.tmp 53) (.tmp 54) 29 36 (.agg #[(.slice none 0 0), (.slice none 0 0)]) 48 rfl Try.underlying29 info36 rfl (by decide) (by omega) v53 [] RA _ _ _ (okN (fun k => k < W7.heap.size) W7) (fun k => k < W7.heap.size) rfl rfl HO53.out (Kd.F_below HFA.out HG53.out) ?ok55 ?fr55 HG53.out HG53.out.size (by have := HRA.out; simp; omega) ?_; (case ok55 => exact fun k hk => ⟨.inl hk, fun e => absurd (Kd.N_base HO53.out k e.symm) (Nat.not_le.2 hk)⟩); (case fr55 => exact fun k hk => .inr (Nat.le_trans HG53.out.size hk)); intro v55 w55 ho55 hb55 hg55 hat55; rw [List.nil_append] at ho55; have HO55 := Aside0.mk ho55; have HG55 := Aside0.mk hb55; clear ho55 hb55 hg55 hat55)
        | ((with_reducible refine gate_builtin (b := .append) (xs := #[.tmp 55, .tmp 56]) rfl ?_); at_builtin; refine Kd.N_append_rows k36 (w0 := W7) W7.heap.size rfl (.tmp 55) (.tmp 56) 29 36 (.agg #[(.slice none 0 0), (.slice none 0 0)]) 48 rfl Try.underlying29 info36 rfl (by decide) (by omega) v55 RA RB _ _ _ (okN (fun k => k < W7.heap.size) W7) (fun k => k < W7.heap.size) rfl rfl HO55.out (Kd.F_below HFR.out HG55.out) ?ok57 ?fr57 HG55.out HG55.out.size (by have := HRA.out; have := HRB.out; omega) ?_; (case ok57 => exact fun k hk => ⟨.inl hk, fun e => absurd (Kd.N_base HO55.out k e.symm) (Nat.not_le.2 hk)⟩); (case fr57 => exact fun k hk => .inr (Nat.le_trans HG55.out.size hk)); intro v57 w57 ho57 hb57 hg57 hat57; obtain ⟨A57, c57, hv57⟩ := Kd.N_slice ho57; subst hv57; rw [hrr] at ho57; have HO57 := Aside0.mk ho57; have HG57 := Aside0.mk hb57; clear ho57 hb57 hg57 hat57)
        | fail)
      have HB8 := Aside0.mk (below_step HB7.out HG57.out)
      have HX8 := Aside0.mk (Kd.C_below HX7.out HG57.out)
      have HY8 := Aside0.mk (Kd.C_below HY7.out HG57.out)
      have HC8 := Aside0.mk (Kd.N_reads' HO57.out).2.2
      have HR8 := Aside0.mk (Kd.C_below HRR.out HG57.out)
      have hrz : (RR.length : Int) ≤ 4001 := by have := HRA.out; have := HRB.out; rw [← hrr, List.length_append]; omega
      clear HO57 HG57 HRR HX7 HY7 HB7 HFA HFR HRA HRB hrr HCR
      go_loopg [12, 13, 59] RR.length (fun gg _ _ s59 wr => ∃ i : Nat, i ≤ RR.length ∧ RR.length - i ≤ gg ∧ s59 = .int .i64 i ∧ Aside0 (Below w57.heap.size w57 wr))
      case atStart => exact ⟨0, Nat.zero_le _, by omega, rfl, ⟨Below.refl _ _⟩⟩
      case round =>
        obtain ⟨i, hi, hg, rfl, HBR⟩ := hrel
        by_cases hlt : i < RR.length
        · have hltz : (i : Int) < (RR.length : Int) := by omega
          obtain ⟨bd, E0, f0, E1, f1, rfl, b0, b1, hf0, hD0, hf1, hD1⟩ := at_T36 (Kd.C_below HC8.out HBR.out) i (by omega) hltz
          obtain ⟨ad, B0, d0, B1, d1, rfl, a0, a1, hd0, hC0, hd1, hC1⟩ := at_T36 (Kd.C_below HR8.out HBR.out) i (by omega) hltz
          simp only [Int.toNat_natCast] at a0 a1 b0 b1
          generalize (rd_T36 RR (i : Nat)).f0 = p0 at *
          generalize (rd_T36 RR (i : Nat)).f1 = p1 at *
          have HSA := Aside0.mk (fun wA W (hbw : Below wr.heap.size wr wA) (h : Below wA.heap.size wA W) => same_step B0 d0 p0 E0 f0 wA W (Kd.C_below hC0 hbw) hd0 (Kd.C_below hD0 hbw) hf0 h)
          have HSB := Aside0.mk (fun wA W (hbw : Below wr.heap.size wr wA) (h : Below wA.heap.size wA W) => same_step B1 d1 p1 E1 f1 wA W (Kd.C_below hC1 hbw) hd1 (Kd.C_below hD1 hbw) hf1 h)
          clear hd0 hC0 hd1 hC1 hf0 hD0 hf1 hD1
          go_upto_region 13 with (fail)
          have hblk := blk_new wr (.cells #[.slice E0 p0.length f0, .slice E1 p1.length f1] 36)
          have hbw := below_alloc (Below.refl wr.heap.size wr) (.cells #[.slice E0 p0.length f0, .slice E1 p1.length f1] 36)
          generalize wr.alloc (.cells #[.slice E0 p0.length f0, .slice E1 p1.length f1] 36) = wA at hblk hbw ⊢
          generalize hgg : wr.heap.size = g2 at hblk ⊢
          have q0 := (blk_cell hblk 0).trans rfl
          have q1 := (blk_cell hblk 1).trans rfl
          have c0 := pw_cell_below hbw a0
          have c1 := pw_cell_below hbw a1
          have HTA := Aside0.mk (fun W => HSA.out wA W hbw)
          have HTB := Aside0.mk (fun W => HSB.out wA W hbw)
          have HBS := Aside0.mk (below_step HBR.out hbw)
          clear HSA HSB hbw hblk hgg a0 a1 b0 b1
          go_wp2_with fail
          go_region_held3 (fun w' => w'.cell? (ad.add (i * 2)) = some (.slice B0 p0.length d0) ∧ w'.cell? ⟨(ad.add (i * 2)).block, (ad.add (i * 2)).off + 1, none⟩ = some (.slice B1 p1.length d1) ∧ w'.cell? ⟨g2, 0, none⟩ = some (.slice E0 p0.length f0) ∧ w'.cell? ⟨g2, 1, none⟩ = some (.slice E1 p1.length f1)) (first | go_keep | exact ⟨pw_cell_below HBX2.out c0, pw_cell_below HBX2.out c1, pw_cell_below HBX2.out q0, pw_cell_below HBX2.out q1⟩ | exact ⟨pw_cell_below HBX1.out c0, pw_cell_below HBX1.out c1, pw_cell_below HBX1.out q0, pw_cell_below HBX1.out q1⟩) (first | (go_at_call 25; (with_reducible refine (HTA.out _ (by repeat (first | exact Below.refl _ _ | apply below_drew1 | apply pw_below_drewN))).mono ?_); rintro e w1 ⟨rfl, hbx1⟩; have HBX1 := Aside0.mk hbx1) | (go_at_call 25; (with_reducible refine (HTB.out _ (by repeat (first | exact HBX1.out | apply below_drew1 | apply pw_below_drewN))).mono ?_); rintro e w2 ⟨rfl, hbx2⟩; have HBX2 := Aside0.mk hbx2))
          go_wp2_with fail
          go_roundg (RR.length - (i + 1))
          case measure => omega
          case rel => exact ⟨i + 1, by omega, by omega, by go_num, ⟨below_step HBS.out HBX2.out⟩⟩
        · have hltz : ¬ (i : Int) < (RR.length : Int) := by omega
          go_upto_region 16 with (fail)
          clear hltz hlt hg hi HR8 HC8 hrz
          have HBW := Aside0.mk (below_step HB8.out HBR.out)
          have HXW := Aside0.mk (Kd.C_below HX8.out HBR.out)
          have HYW := Aside0.mk (Kd.C_below HY8.out HBR.out)
          clear HB8 HX8 HY8 HBR
          have HZT := Aside0.mk (ok_parts X Y 17 HXT.out HYT.out)
          go_upto_region 17 with (fail)
          obtain ⟨g3, hg3⟩ : ∃ g3, g3 = wr.heap.size := ⟨_, rfl⟩
          have hblk := blk_new wr (Obj.cells #[.int .i64 17, .string ⟨#[]⟩, .string ⟨#[]⟩, .bool false, .bool false, .slice none 0 0] 45)
          have hbw := below_alloc (Below.refl wr.heap.size wr) (Obj.cells #[.int .i64 17, .string ⟨#[]⟩, .string ⟨#[]⟩, .bool false, .bool false, .slice none 0 0] 45)
          rw [← hg3] at hblk ⊢
          generalize wr.alloc (Obj.cells #[.int .i64 17, .string ⟨#[]⟩, .string ⟨#[]⟩, .bool false, .bool false, .slice none 0 0] 45) = W9 at hblk hbw ⊢
          obtain ⟨q0, q1, q2, q3, q4, q5⟩ := blk6 hblk
          have HB9 := Aside0.mk (below_step HBW.out hbw)
          have HFX := Aside0.mk (Kd.C_F k45_heap (Kd.C_below HXW.out hbw))
          have HFY := Aside0.mk (Kd.C_F k45_heap (Kd.C_below HYW.out hbw))
          clear hbw hg3 hblk HXW HYW HBW
          go_region_held3 (fun w' => w'.cell? ⟨g3, 0, none⟩ = some (.int .i64 17) ∧ w'.cell? ⟨g3, 1, none⟩ = some (.string ⟨#[]⟩) ∧ w'.cell? ⟨g3, 2, none⟩ = some (.string ⟨#[]⟩) ∧ w'.cell? ⟨g3, 3, none⟩ = some (.bool false) ∧ w'.cell? ⟨g3, 4, none⟩ = some (.bool false) ∧ w'.cell? ⟨g3, 5, none⟩ = some (.slice none 0 0)) (first | go_keep | exact ⟨pw_cell_below hbD q0, pw_cell_below hbD q1, pw_cell_below hbD q2, pw_cell_below hbD q3, pw_cell_below hbD q4, pw_cell_below hbD q5⟩ | exact ⟨pw_cell_below hb94 q0, pw_cell_below hb94 q1, pw_cell_below hb94 q2, pw_cell_below hb94 q3, pw_cell_below hb94 q4, pw_cell_below hb94 q5⟩ | exact ⟨pw_cell_below hb92 q0, pw_cell_below hb92 q1, pw_cell_below hb92 q2, pw_cell_below hb92 q3, pw_cell_below hb92 q4, pw_cell_below hb92 q5⟩ | exact ⟨pw_cell_below hb89 q0, pw_cell_below hb89 q1, pw_cell_below hb89 q2, pw_cell_below hb89 q3, pw_cell_below hb89 q4, pw_cell_below hb89 q5⟩) (first
            | (go_at_call 21; have q_ := hN94; refine (decls_N (fun k => k < w94.heap.size) A94 c94 _ ZS _ (by (repeat (first | (with_reducible exact Kd.C_F k45_heap (Kd.N_reads' hN94).2.2) | (with_reducible apply Kd.F_drew))); done) (fun k hk => hk) (Kd.N_reads' hN94).2.1 (by rw [← HZS.out]; have := HXL.out; have := HYL.out; simp; omega) (by rw [← HZS.out]; exact HZT.out) rfl).mono ?_; rintro e wD ⟨AD, cD, rfl, hD1, hD2, hD3⟩; have hbD := below_step hb94 (show Below w94.heap.size w94 wD from ⟨hD3.os, hD3.tape, hD3.output, hD3.size, hD3.block⟩))
            | ((with_reducible refine gate_step (N := 94) rfl ?_); have q_ := hN92; refine Kd.N_append_rows_step k45 (w0 := W9) W9.heap.size (by rfl) (.tmp 92) (.tmp 93) 25 45 (.agg #[(.int .i64 0), (.string ⟨#[]⟩), (.string ⟨#[]⟩), (.bool false), (.bool false), (.slice none 0 0)]) 72 (by rfl) Try.underlying25 info45 rfl (by decide) (by omega) v92 (X ++ [(⟨⟨17, ⟨#[]⟩, ⟨#[]⟩, false, false⟩, []⟩ : S45)]) Y A6 Y.length c6 (okN (fun k => k < W9.heap.size) W9) (fun k => k < W9.heap.size) (by rfl) (by first | (go_simp; done) | (go_simp; rfl) | rfl) (by (repeat (first | (with_reducible exact hN92) | (with_reducible apply Kd.N_drew))); done) (Kd.F_below HFY.out (by (repeat (first | (with_reducible exact hb92) | (with_reducible apply below_drew1))); done)) (fun k hk => ⟨.inl hk, fun e => absurd (Kd.N_base hN92 k e.symm) (Nat.not_le.2 hk)⟩) (fun k hk => .inr (Nat.le_trans hb92.size hk)) (by (repeat (first | (with_reducible exact hb92) | (with_reducible apply below_drew1))); done) hb92.size (by have := HXL.out; have := HYL.out; simp; omega) ?_; intro v94 w94 hN94 hb94 hg94 hat94; obtain ⟨ZS, hzs⟩ : ∃ q, (X ++ [(⟨⟨17, ⟨#[]⟩, ⟨#[]⟩, false, false⟩, []⟩ : S45)]) ++ Y = q := ⟨_, rfl⟩; rw [hzs] at hN94; have HZS := Aside0.mk hzs; clear hzs; obtain ⟨A94, c94, hv94⟩ := Kd.N_slice hN94; subst hv94)
            | ((first | (with_reducible refine gate_world (W9.alloc (.cells #[] 45)) (N := 89) rfl ?_) | (with_reducible refine gate_world (W9.alloc (.cells #[] 45)).drew (N := 89) rfl ?_)); refine Kd.N_append_rows_step k45 (w0 := W9) W9.heap.size (by rfl) (.tmp 87) (.tmp 88) 25 45 (.agg #[(.int .i64 0), (.string ⟨#[]⟩), (.string ⟨#[]⟩), (.bool false), (.bool false), (.slice none 0 0)]) 72 (by rfl) Try.underlying25 info45 rfl (by decide) (by omega) (.slice (some ⟨W9.heap.size, 0, none⟩) 0 0) [] X A5 X.length c5 (okN (fun k => k < W9.heap.size) W9) (fun k => k < W9.heap.size) (by rfl) (by first | (go_simp; done) | (go_simp; rfl) | rfl) (by (repeat (first | (with_reducible apply Kd.N_drew) | (with_reducible exact N_emp3 _))); done) (Kd.F_below HFX.out (by (repeat (first | (with_reducible refine below_alloc ?_ _) | (with_reducible apply below_drew1) | (with_reducible exact Below.refl _ _))); done)) (fun k hk => ⟨.inl hk, fun e => by have h1 : k < W9.heap.size := hk; have h2 : k = W9.heap.size := (Option.some.inj e); omega⟩) (fun k hk => .inr (Nat.le_trans (by simp <;> omega) hk)) (by (repeat (first | (with_reducible refine below_alloc ?_ _) | (with_reducible apply below_drew1) | (with_reducible exact Below.refl _ _))); done) (by simp <;> omega) (by have := HXL.out; simp; omega) ?_; intro v89 w89 hN89 hb89 hg89 hat89; rw [List.nil_append] at hN89)
            | ((first | (with_reducible refine gate_world ((W9.alloc (.cells #[] 45)).alloc (.cells #[.int .i64 17, .string ⟨#[]⟩, .string ⟨#[]⟩, .bool false, .bool false, .slice none 0 0] 45)) (N := 89) rfl ?_) | (with_reducible refine gate_world ((W9.alloc (.cells #[] 45)).alloc (.cells #[.int .i64 17, .string ⟨#[]⟩, .string ⟨#[]⟩, .bool false, .bool false, .slice none 0 0] 45)).drew (N := 89) rfl ?_)); refine Kd.N_append_rows_step k45 (w0 := W9) W9.heap.size (by rfl) (.tmp 87) (.tmp 88) 25 45 (.agg #[(.int .i64 0), (.string ⟨#[]⟩), (.string ⟨#[]⟩), (.bool false), (.bool false), (.slice none 0 0)]) 72 (by rfl) Try.underlying25 info45 rfl (by decide) (by omega) (.slice (some ⟨W9.heap.size, 0, none⟩) 0 0) [] X A5 X.length c5 (okN (fun k => k < W9.heap.size) W9) (fun k => k < W9.heap.size) (by rfl) (by first | (go_simp; done) | (go_simp; rfl) | rfl) (by (repeat (first | (with_reducible apply Kd.N_drew) | (with_reducible exact N_emp3 _) | (with_reducible apply Kd.N_alloc))); done) (Kd.F_below HFX.out (by (repeat (first | (with_reducible refine below_alloc ?_ _) | (with_reducible apply below_drew1) | (with_reducible exact Below.refl _ _))); done)) (fun k hk => ⟨.inl hk, fun e => by have h1 : k < W9.heap.size := hk; have h2 : k = W9.heap.size := (Option.some.inj e); omega⟩) (fun k hk => .inr (Nat.le_trans (by simp <;> omega) hk)) (by (repeat (first | (with_reducible refine below_alloc ?_ _) | (with_reducible apply below_drew1) | (with_reducible exact Below.refl _ _))); done) (by simp <;> omega) (by have := HXL.out; simp; omega) ?_; intro v89 w89 hN89 hb89 hg89 hat89; rw [List.nil_append] at hN89; have hA89 : some (W9.heap.size + 1) ≠ v89.ownBlock := (by rcases hat89 with h | ⟨b, h, hb⟩; (rw [h]; exact fun e => absurd (show W9.heap.size + 1 = W9.heap.size from Option.some.inj e) (by omega)); (rw [h]; intro e; have e2 := Option.some.inj e; have hb2 : W9.heap.size + 1 + 1 ≤ b := (by simpa using hb); omega)); have hL89 : w89.heap[W9.heap.size + 1]? = some (.cells #[.int .i64 17, .string ⟨#[]⟩, .string ⟨#[]⟩, .bool false, .bool false, .slice none 0 0] 45 (0, 0)) := (hg89.block (W9.heap.size + 1) (by simp; done) (by simp [Value.ownBlock]; done)).trans (blk_two W9 (.cells #[] 45) (.cells #[.int .i64 17, .string ⟨#[]⟩, .string ⟨#[]⟩, .bool false, .bool false, .slice none 0 0] 45)))
            | ((first | (with_reducible refine gate_world ((W9.alloc (.cells #[.int .i64 17, .string ⟨#[]⟩, .string ⟨#[]⟩, .bool false, .bool false, .slice none 0 0] 45)).alloc (.cells #[] 45)) (N := 89) rfl ?_) | (with_reducible refine gate_world ((W9.alloc (.cells #[.int .i64 17, .string ⟨#[]⟩, .string ⟨#[]⟩, .bool false, .bool false, .slice none 0 0] 45)).alloc (.cells #[] 45)).drew (N := 89) rfl ?_)); refine Kd.N_append_rows_step k45 (w0 := W9) W9.heap.size (by rfl) (.tmp 87) (.tmp 88) 25 45 (.agg #[(.int .i64 0), (.string ⟨#[]⟩), (.string ⟨#[]⟩), (.bool false), (.bool false), (.slice none 0 0)]) 72 (by rfl) Try.underlying25 info45 rfl (by decide) (by omega) (.slice (some ⟨W9.heap.size + 1, 0, none⟩) 0 0) [] X A5 X.length c5 (okN (fun k => k < W9.heap.size) W9) (fun k => k < W9.heap.size) (by rfl) (by first | (go_simp; done) | (go_simp; rfl) | rfl) (by (repeat (first | (with_reducible apply Kd.N_drew) | (with_reducible exact N_emp4 _ _) | (with_reducible apply Kd.N_alloc))); done) (Kd.F_below HFX.out (by (repeat (first | (with_reducible refine below_alloc ?_ _) | (with_reducible apply below_drew1) | (with_reducible exact Below.refl _ _))); done)) (fun k hk => ⟨.inl hk, fun e => by have h1 : k < W9.heap.size := hk; have h2 : k = W9.heap.size + 1 := (Option.some.inj e); omega⟩) (fun k hk => .inr (Nat.le_trans (by simp <;> omega) hk)) (by (repeat (first | (with_reducible refine below_alloc ?_ _) | (with_reducible apply below_drew1) | (with_reducible exact Below.refl _ _))); done) (by simp <;> omega) (by have := HXL.out; simp; omega) ?_; intro v89 w89 hN89 hb89 hg89 hat89; rw [List.nil_append] at hN89; have hA89 : some (W9.heap.size) ≠ v89.ownBlock := (by rcases hat89 with h | ⟨b, h, hb⟩; (rw [h]; exact fun e => absurd (show W9.heap.size = W9.heap.size + 1 from Option.some.inj e) (by omega)); (rw [h]; intro e; have e2 := Option.some.inj e; have hb2 : W9.heap.size + 1 + 1 ≤ b := (by simpa using hb); omega)); have hM89 : w89.heap[W9.heap.size]? = some (.cells #[.int .i64 17, .string ⟨#[]⟩, .string ⟨#[]⟩, .bool false, .bool false, .slice none 0 0] 45 (0, 0)) := (hg89.block (W9.heap.size) (by simp <;> omega) (by simp [Value.ownBlock]; done)).trans (blk_two0 W9 (.cells #[.int .i64 17, .string ⟨#[]⟩, .string ⟨#[]⟩, .bool false, .bool false, .slice none 0 0] 45) (.cells #[] 45)))
            | ((with_reducible refine gate_step (N := 92) rfl ?_); have q2_ := hL89; have q_ := hN89; refine Kd.N_append_rows_step k45 (w0 := W9) W9.heap.size (by rfl) (.tmp 89) (.tmp 91) 25 45 (.agg #[(.int .i64 0), (.string ⟨#[]⟩), (.string ⟨#[]⟩), (.bool false), (.bool false), (.slice none 0 0)]) 72 (by rfl) Try.underlying25 info45 rfl (by decide) (by omega) v89 X [(⟨⟨17, ⟨#[]⟩, ⟨#[]⟩, false, false⟩, []⟩ : S45)] (some ⟨W9.heap.size + 1, 0, none⟩) 1 1 (okN (fun k => k < W9.heap.size) W9) (fun k => k = W9.heap.size + 1) (by rfl) (by first | (go_simp; done) | (go_simp; rfl) | rfl) (by (repeat (first | (with_reducible exact hN89) | (with_reducible apply Kd.N_drew))); done) (by (repeat (first | (with_reducible exact block_F hL89) | (with_reducible apply Kd.F_drew))); done) (fun k hk => ⟨.inr (by omega), fun e => hA89 (hk ▸ e)⟩) (fun k hk => .inr (Nat.le_trans hb89.size hk)) (by (repeat (first | (with_reducible exact hb89) | (with_reducible apply below_drew1))); done) hb89.size (by have := HXL.out; omega) ?_; intro v92 w92 hN92 hb92 hg92 hat92)
            | ((with_reducible refine gate_step (N := 92) rfl ?_); have q2_ := hM89; have q_ := hN89; refine Kd.N_append_rows_step k45 (w0 := W9) W9.heap.size (by rfl) (.tmp 89) (.tmp 91) 25 45 (.agg #[(.int .i64 0), (.string ⟨#[]⟩), (.string ⟨#[]⟩), (.bool false), (.bool false), (.slice none 0 0)]) 72 (by rfl) Try.underlying25 info45 rfl (by decide) (by omega) v89 X [(⟨⟨17, ⟨#[]⟩, ⟨#[]⟩, false, false⟩, []⟩ : S45)] (some ⟨W9.heap.size, 0, none⟩) 1 1 (okN (fun k => k < W9.heap.size) W9) (fun k => k = W9.heap.size) (by rfl) (by first | (go_simp; done) | (go_simp; rfl) | rfl) (by (repeat (first | (with_reducible exact hN89) | (with_reducible apply Kd.N_drew))); done) (by (repeat (first | (with_reducible exact block_F hM89) | (with_reducible apply Kd.F_drew))); done) (fun k hk => ⟨.inr (by omega), fun e => hA89 (hk ▸ e)⟩) (fun k hk => .inr (Nat.le_trans hb89.size hk)) (by (repeat (first | (with_reducible exact hb89) | (with_reducible apply below_drew1))); done) hb89.size (by have := HXL.out; omega) ?_; intro v92 w92 hN92 hb92 hg92 hat92)
            | ((with_reducible refine gate_step (N := 92) rfl ?_); have q_ := hN89; refine Kd.N_append_rows_step k45 (w0 := W9) W9.heap.size (by rfl) (.tmp 89) (.tmp 91) 25 45 (.agg #[(.int .i64 0), (.string ⟨#[]⟩), (.string ⟨#[]⟩), (.bool false), (.bool false), (.slice none 0 0)]) 72 (by rfl) Try.underlying25 info45 rfl (by decide) (by omega) v89 X [(⟨⟨17, ⟨#[]⟩, ⟨#[]⟩, false, false⟩, []⟩ : S45)] (some ⟨w89.heap.size, 0, none⟩) 1 1 (okN (fun k => k < W9.heap.size) W9) (fun k => k = w89.heap.size) (by rfl) (by first | (go_simp; done) | (go_simp; rfl) | rfl) (by (repeat (first | (with_reducible exact hN89) | (with_reducible apply Kd.N_drew) | (with_reducible apply Kd.N_alloc))); done) (by (repeat (first | (with_reducible exact block_F (blk_new w89 (.cells #[.int .i64 17, .string ⟨#[]⟩, .string ⟨#[]⟩, .bool false, .bool false, .slice none 0 0] 45))) | (with_reducible apply Kd.F_drew))); done) (fun k hk => ⟨.inr (hk ▸ hb89.size), fun e => absurd (Kd.N_lt hN89 k e.symm) (by omega)⟩) (fun k hk => .inr (Nat.le_trans (below_alloc hb89 (.cells #[.int .i64 17, .string ⟨#[]⟩, .string ⟨#[]⟩, .bool false, .bool false, .slice none 0 0] 45)).size hk)) (by (repeat (first | (with_reducible exact hb89) | (with_reducible apply below_drew1) | (with_reducible refine below_alloc ?_ _))); done) (below_alloc hb89 (.cells #[.int .i64 17, .string ⟨#[]⟩, .string ⟨#[]⟩, .bool false, .bool false, .slice none 0 0] 45)).size (by have := HXL.out; omega) ?_; intro v92 w92 hN92 hb92 hg92 hat92))
          all_goals
            have HBD := Aside0.mk (below_step HB9.out hbD)
            have HFXD := Aside0.mk (Kd.C_F k45_heap (Kd.C_below (Kd.F_now HFX.out) hbD))
            have HFYD := Aside0.mk (Kd.C_F k45_heap (Kd.C_below (Kd.F_now HFY.out) hbD))
            have HDD := Aside0.mk (Kd.N_reads' hD2).2.2
            have HCD := Aside0.mk hD1
            have hds : declsS ZS = declsS X ++ declsS Y := by rw [← HZS.out]; exact decls_parts X Y _ rfl
            have HEV := Aside0.mk (ev_parts X Y ZS 17 rfl HZS.out HXL.out HYL.out HXC.out HYC.out)
            rw [hds] at HDD HCD ⊢
            have HDX := Aside0.mk (Nat.le_trans (declsS_len X) HXL.out)
            have HDY := Aside0.mk (Nat.le_trans (declsS_len Y) HYL.out)
            clear hds hD1 hD2 hD3 hbD hN94 hb94 hg94 hat94 HFX HFY HB9 HZS HZT
            go_wp2_with fail
            refine (decls_N (fun k => k < wD.heap.size) A5 c5 _ X _ HFXD.out (fun k hk => hk) HCX.out (by have := HXL.out; omega) HXT.out rfl).mono ?_
            rintro e w98 ⟨A98, c98, rfl, hn1, hn2, hn3⟩
            have HO98 := Aside0.mk hn2
            have HG98 := Aside0.mk hn3
            have HFYE := Aside0.mk (Kd.F_below HFYD.out hn3)
            clear hn1 hn2 hn3 HFXD HFYD
            go_wp2_with fail
            refine (decls_N (fun k => k < wD.heap.size) A6 c6 _ Y _ HFYE.out (fun k hk => Nat.lt_of_lt_of_le hk HG98.out.size) HCY.out (by have := HYL.out; omega) HYT.out rfl).mono ?_
            rintro e w100 ⟨A100, c100, rfl, hn1, hn2, hn3⟩
            have HO100 := Aside0.mk hn2
            have HG100 := Aside0.mk hn3
            clear hn1 hn2 hn3 HFYE
            generalize declsS X = DX at HO98 HDD HCD HEV HDX ⊢
            generalize declsS Y = DY at HO100 HDD HCD HEV HDY ⊢
            go_wp2_with (first | ((with_reducible refine gate_builtin (b := .append) (xs := #[.tmp 98, .tmp 100]) rfl ?_); at_builtin; refine Kd.N_append_rows k47 (w0 := wD) wD.heap.size rfl (.tmp 98) (.tmp 100) 39 47 (.agg #[(.string ⟨#[]⟩), (.slice none 0 0), (.bool false)]) 48 rfl Try.underlying39 info47 rfl (by decide) (by omega) (.slice A98 DX.length c98) DX DY _ _ _ (okN (fun k => k < wD.heap.size) wD) (okN (fun k => k < wD.heap.size) w98) rfl rfl (Kd.N_below HO98.out HG100.out) (Kd.N_F HO100.out) ?ok101 ?fr101 (below_step HG98.out HG100.out) (below_step HG98.out HG100.out).size (by have := HDX.out; have := HDY.out; omega) ?_; (case ok101 => exact fun k hk => ⟨Nat.lt_or_ge k wD.heap.size, fun e => hk.elim (fun h => absurd (Kd.N_base HO98.out k e.symm) (Nat.not_le.2 h)) (fun h => absurd (Kd.N_lt HO98.out k e.symm) (Nat.not_lt.2 h))⟩); (case fr101 => exact fun k hk => .inr (Nat.le_trans (below_step HG98.out HG100.out).size hk)); intro v101 w101 ho101 hb101 hg101 hat101; obtain ⟨A101, c101, hv101⟩ := Kd.N_slice ho101; subst hv101; have HO101 := Aside0.mk ho101; have HG101 := Aside0.mk hb101; clear ho101 hb101 hg101 hat101) | fail)
            have HDE := Aside0.mk (Kd.C_below HDD.out HG101.out)
            have HBE := Aside0.mk (below_step HBD.out HG101.out)
            obtain ⟨kk, hkk⟩ := HEV.out
            have HKK := Aside0.mk (hkk kk (Nat.le_refl _))
            clear hkk HEV HDD HBD HO98 HO100 HG98 HG100 HG101
            refine (sd_at kk AD cD _ (DX ++ DY) A101 c101 _ _ HDE.out HCD.out (Kd.N_reads' HO101.out).2.2 (Kd.N_reads' HO101.out).2.1 HKK.out ?ln1 ?ln2).mono ?_
            case ln1 => simp
            case ln2 => simp
            rintro e wS ⟨rfl, hbs⟩
            have HBS := Aside0.mk (below_step HBE.out hbs)
            clear hbs
            go_wp2_with fail
            refine (gouachelaw03_lives.calls 200 true _ lives_200).mono ?_
            rintro e WL ⟨rfl, hbl⟩
            go_wp2
            go_ret
            exact ⟨rfl, below_step HBS.out hbl⟩
def gouachelaw03_ParseParts.f (_ : Nat) (l m : List S43) : Option Bool := if (l.all fun p => decide (p.f1.size ≤ 140737488351232)) = true ∧ (m.all fun p => decide (p.f1.size ≤ 140737488351232)) = true ∧ l.length * 48 ≤ 140737488351232 ∧ m.length * 48 ≤ 140737488351232 then some true else none
theorem gouachelaw03_ParseParts.calls (k : Nat) (A0 : Option Addr) (c0 : Nat) (l : List S43) (A1 : Option Addr) (c1 : Nat) (m : List S43) (r : Bool) (w : World) (hl : Kd.C k43 w A0 l.length l) (hc0 : l.length ≤ c0) (hm : Kd.C k43 w A1 m.length m) (hc1 : m.length ≤ c1) (h : gouachelaw03_ParseParts.f k l m = some r) :
    Calls Try.prog 6 #[.slice A0 l.length c0, .slice A1 m.length c1] w fun e w' => e = .returned (.bool r) ∧ Below w.heap.size w w' := by
  unfold gouachelaw03_ParseParts.f at h
  split at h
  · rename_i hb
    obtain rfl := Option.some.inj h
    exact pparts_calls A0 c0 l A1 c1 m w hl hc0 hm hc1 (fun p hp => of_decide_eq_true (List.all_eq_true.1 hb.1 p hp)) hb.2.2.1 (fun p hp => of_decide_eq_true (List.all_eq_true.1 hb.2.1 p hp)) hb.2.2.2
  · cases h
theorem pure_ParseParts (l m : List S43) (ht : ∀ p, p ∈ l → p.f1.size ≤ 140737488351232) (hn : l.length * 48 ≤ 140737488351232) (ht2 : ∀ p, p ∈ m → p.f1.size ≤ 140737488351232) (hn2 : m.length * 48 ≤ 140737488351232) : ∃ k, gouachelaw03_ParseParts.f k l m = some true :=
  ⟨0, by unfold gouachelaw03_ParseParts.f; rw [if_pos ⟨List.all_eq_true.2 (fun p hp => decide_eq_true (ht p hp)), List.all_eq_true.2 (fun p hp => decide_eq_true (ht2 p hp)), hn, hn2⟩]⟩
end Go.Proofs.Ythaaajpmiofodaa.P
end
