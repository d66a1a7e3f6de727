/- ParseDecls: for every input of bulk at most 1048576 the law returns true, and each argument reads behind the call as it read before. -/
import Derived.Test.YthaaajpmiofodaaZPDE6
import Derived.Test.YthaaajpmiofodaaZPDE7
import Derived.Test.YthaaajpmiofodaaZPDE8
import Derived.Test.YthaaajpmiofodaaZPDE9
import Derived.Test.YthaaajpmiofodaaZPDE10
import Derived.Test.YthaaajpmiofodaaZPDE11
import Derived.Test.YthaaajpmiofodaaZPDE12
section
set_option linter.unusedVariables false
set_option linter.unusedSimpArgs false
namespace Go.Proofs.Ythaaajpmiofodaa.P
open Go.RowKit Go.Proofs.YthaaajpmiofodaaW.PrintWords Go.Proofs.YthaaajpmiofodaaW.PrintLast Go.Proofs.YthaaajpmiofodaaW.PrintMore
set_option linter.unusedVariables false
set_option linter.unusedSimpArgs false
theorem at_min (l : List S45) : l.drop (min (firstS l [17, 23] + 1) l.length) = behS l := by
  have := firstS_le l [17, 23]
  unfold behS
  split
  · rw [Nat.min_eq_left (by omega)]
  · rw [Nat.min_eq_right (by omega), List.drop_length]
theorem declsS_eq (l : List S45) : declsS l = if skipS [13, 17] l = [] then [] else (declS ((skipS [13, 17] l).take (firstS (skipS [13, 17] l) [17]))).toList ++ declsS ((skipS [13, 17] l).drop (firstS (skipS [13, 17] l) [17])) := by
  unfold declsS
  rw [declsF]
  split
  · rfl
  · rename_i h
    have hp := decls_pos l h
    have h2 := List.length_pos_iff.2 h
    have hl := skipS_len [13, 17] l
    rw [declsF_any l.length ((List.drop (firstS (skipS [13, 17] l) [17]) (skipS [13, 17] l)).length + 1) _ (by rw [List.length_drop]; omega) (Nat.lt_succ_self _)]
theorem declsS_skip (l m : List S45) (h : skipS [13, 17] l = skipS [13, 17] m) : declsS l = declsS m := by rw [declsS_eq l, declsS_eq m, h]
theorem rdeclsF_eq : ∀ (n k : Nat) (l : List S45), l.length ≤ n → l.length < k → rdeclsF k l = declsS l := by
  intro n
  induction n with
  | zero =>
    intro k l hn hk
    obtain rfl := List.eq_nil_of_length_eq_zero (Nat.le_zero.1 hn)
    obtain ⟨k, rfl⟩ : ∃ m, k = m + 1 := ⟨k - 1, by omega⟩
    rw [declsS_eq, skipS_nil]
    simp [rdeclsF]
  | succ n ih =>
    intro k l hn hk
    obtain ⟨k, rfl⟩ : ∃ m, k = m + 1 := ⟨k - 1, by omega⟩
    unfold rdeclsF
    by_cases hl : l = []
    · subst hl
      rw [declsS_eq, skipS_nil]
      simp
    · have hp := List.length_pos_iff.2 hl
      rw [if_neg hl]
      by_cases h1 : hasKind [13, 17] (rd_T45 l 0).f0.f0 = true
      · rw [if_pos h1, ih k (l.drop 1) (by rw [List.length_drop]; omega) (by rw [List.length_drop]; omega), declsS_skip l (l.drop 1) (skipS_hit _ l hp h1)]
      · have h1' : hasKind [13, 17] (rd_T45 l 0).f0.f0 = false := by simpa using h1
        rw [if_neg h1]
        by_cases h2 : (rd_T45 l 0).f0.f0 = 3
        · have hlt := behS_lt l hp
          rw [if_pos h2, ih k (behS l) (by omega) (by omega), declsS_skip l (behS l) (by rw [← at_min]; exact skipS_at _ l hp h1' h2)]
        · have hs := skipS_stop _ l hp h1' h2
          have hf := rfirst_pos l hp h1
          rw [if_neg h2, declsS_eq, hs, if_neg hl, ih k _ (by rw [List.length_drop]; omega) (by rw [List.length_drop]; omega)]
theorem rdeclsS_same (l : List S45) : rdeclsS l = declsS l := rdeclsF_eq l.length _ l (Nat.le_refl _) (Nat.lt_succ_self _)
theorem bulk_nil : bulkV [] = 0 := by rw [bulkV]
theorem bulk_append : ∀ l m : List S45, bulkV (l ++ m) = bulkV l + bulkV m
  | [], m => by rw [bulk_nil]; simp
  | x :: l, m => by rw [List.cons_append, bulkV, bulkV, bulk_append l m]; omega
theorem bulk_take (l : List S45) (i : Nat) : bulkV (l.take i) ≤ bulkV l := by
  have := bulk_append (l.take i) (l.drop i)
  rw [List.take_append_drop] at this; omega
theorem bulk_drop (l : List S45) (i : Nat) : bulkV (l.drop i) ≤ bulkV l := by
  have := bulk_append (l.take i) (l.drop i)
  rw [List.take_append_drop] at this; omega
theorem bulk_mem : ∀ (l : List S45) (x : S45), x ∈ l → 1 + x.f0.f1.size + bulkV x.f1 ≤ bulkV l
  | y :: l, x, h => by
    rw [bulkV]
    rcases List.mem_cons.1 h with rfl | h
    · omega
    · have := bulk_mem l x h; omega
theorem bulk_len : ∀ l : List S45, l.length ≤ bulkV l
  | [] => by simp
  | x :: l => by have := bulk_len l; rw [bulkV, List.length_cons]; omega
theorem bulk_rd (l : List S45) (j : Nat) : bulkV (rd_T45 l (j : Nat)).f1 ≤ bulkV l := by
  by_cases h : j < l.length
  · have := bulk_mem l _ (rd45_mem l j h); omega
  · have : rd_T45 l (j : Nat) = z45 := by simp [rd_T45, List.getD_eq_getElem?_getD, h]
    rw [this]
    show bulkV [] ≤ _
    rw [bulk_nil]; omega
theorem bulk_dropWhile (p : S45 → Bool) : ∀ l : List S45, bulkV (l.dropWhile p) ≤ bulkV l
  | [] => Nat.le_refl _
  | x :: l => by
    rw [List.dropWhile_cons]
    split
    · have := bulk_dropWhile p l; rw [bulkV]; omega
    · exact Nat.le_refl _
theorem bulk_reverse : ∀ l : List S45, bulkV l.reverse = bulkV l
  | [] => rfl
  | x :: l => by rw [List.reverse_cons, bulk_append, bulk_reverse l]; simp only [bulkV]; omega
theorem bulk_trim (l : List S45) : bulkV (trimS l) ≤ bulkV l := by
  unfold trimS trimBack
  rw [bulk_reverse]
  refine Nat.le_trans (bulk_dropWhile _ _) ?_
  rw [bulk_reverse]
  exact bulk_dropWhile _ _
theorem okLens_bulk : ∀ (N : Nat) (l : List S45), SizeOf.sizeOf l < N → bulkV l ≤ 4611686018427387904 → okLens l := by
  intro N
  induction N with
  | zero => intro l h; omega
  | succ N ih =>
    intro l hN hb
    cases l with
    | nil => simp [okLens]
    | cons x l =>
      have h1 := bulk_len (x :: l)
      rw [okLens]
      rw [bulkV] at hb h1
      exact ⟨by omega, ih _ (by cases x; simp at hN ⊢; omega) (by omega), ih _ (by simp at hN; omega) (by omega)⟩
theorem ok_bulk (l : List S45) (h : bulkV l ≤ 1048576) : okLens l := okLens_bulk _ l (Nat.lt_succ_self _) (by omega)
def countS : List S45 → Nat
  | [] => 0
  | x :: l => 1 + countS x.f1 + countS l
termination_by l => SizeOf.sizeOf l
decreasing_by
  · cases x; simp; omega
  · simp; omega
theorem count_bulk : ∀ (N : Nat) (l : List S45), SizeOf.sizeOf l < N → countS l ≤ bulkV l := by
  intro N
  induction N with
  | zero => intro l h; omega
  | succ N ih =>
    intro l hN
    cases l with
    | nil => rw [countS]; omega
    | cons x l =>
      have h1 := ih x.f1 (by cases x; simp at hN ⊢; omega)
      have h2 := ih l (by simp at hN; omega)
      rw [countS, bulkV]; omega
theorem count_kid : ∀ (l : List S45) (j : Nat), j < l.length → 1 + countS (rd_T45 l (j : Nat)).f1 + countS (l.drop (j + 1)) = countS (l.drop j) := by
  intro l j h
  rw [rd45_drop l j h, countS]
theorem ev_Count_l0 (l : List S45) (hb : countS l ≤ 1048576) (hl : l.length ≤ 1048576)
    (hk : ∀ j, j < l.length → Ev (fun k => gouacheref03_Count.f k (rd_T45 l (j : Nat)).f1) (countS (rd_T45 l (j : Nat)).f1 : Int)) :
    ∀ (d i acc : Nat), i + d = l.length → acc + countS (l.drop i) = countS l → Ev (fun k => gouacheref03_Count.l0 k (acc : Int) l (l.length : Int) (i : Nat)) (countS l : Int) := by
  intro d
  induction d with
  | zero =>
    intro i acc hi ha
    refine Ev.step (fun k => by unfold gouacheref03_Count.l0; exact rfl) ?_
    refine Ev.ifn (by omega) ?_
    rw [List.drop_eq_nil_of_le (by omega), countS] at ha
    have : (acc : Int) = (countS l : Int) := by omega
    rw [this]
    exact Ev.now _
  | succ d ih =>
    intro i acc hi ha
    have hc := count_kid l i (by omega)
    refine Ev.step (fun k => by unfold gouacheref03_Count.l0; exact rfl) ?_
    refine Ev.ifp (by omega) (Ev.ifp (by omega) (Ev.ifp (by omega) ?_))
    refine Ev.bind (hk i (by omega)) ?_
    have hw : wrap64 ((i : Int) + 1) = ((i + 1 : Nat) : Int) := by rw [w64 (by omega) (by omega)]; omega
    have hw2 : wrap64 ((acc : Int) + wrap64 (1 + (countS (rd_T45 l (i : Nat)).f1 : Int))) = ((acc + (1 + countS (rd_T45 l (i : Nat)).f1) : Nat) : Int) := by
      rw [w64 (x := 1 + (countS (rd_T45 l (i : Nat)).f1 : Int)) (by omega) (by omega), w64 (by omega) (by omega)]; omega
    rw [hw, hw2]
    exact ih (i + 1) _ (by omega) (by omega)
theorem ev_Count : ∀ (N : Nat) (l : List S45), SizeOf.sizeOf l < N → bulkV l ≤ 1048576 → Ev (fun k => gouacheref03_Count.f k l) (countS l : Int) := by
  intro N
  induction N with
  | zero => intro l h; omega
  | succ N ih =>
    intro l hN hb
    have h1 := count_bulk _ l (Nat.lt_succ_self _)
    have h2 := bulk_len l
    refine Ev.step (fun k => by unfold gouacheref03_Count.f; exact rfl) ?_
    exact ev_Count_l0 l (by omega) (by omega) (fun j hj => ih _ (by have := z45_size l j hj; omega) (by have := bulk_rd l j; omega)) l.length 0 0 (by omega) (by simp)
theorem ev_great (l : List S45) (hb : bulkV l ≤ 1048576) : ∃ b, Ev (fun k => gouachelaw03_great.f k l) b := by
  unfold gouachelaw03_great.f
  have h1 := ev_Deep _ l 100 (Nat.lt_succ_self _) (ok_bulk l hb) (by omega) (by omega)
  cases hd : deepS l 100 with
  | true => exact ⟨true, Ev.bind h1 (by rw [hd]; exact Ev.ifp rfl (Ev.now true))⟩
  | false => exact ⟨_, Ev.bind h1 (by rw [hd]; exact Ev.ifn (by simp) (Ev.bind (ev_Count _ l (Nat.lt_succ_self _) hb) (Ev.now _)))⟩
end Go.Proofs.Ythaaajpmiofodaa.P
end
section
set_option linter.unusedVariables false
set_option linter.unusedSimpArgs false
namespace Go.Proofs.Ythaaajpmiofodaa.P
open Go.RowKit Go.Proofs.YthaaajpmiofodaaW.PrintWords Go.Proofs.YthaaajpmiofodaaW.PrintLast Go.Proofs.YthaaajpmiofodaaW.PrintMore
theorem bulk_skip2 (ks : List Int) (l : List S45) : bulkV (skipS ks l) ≤ bulkV l := by
  obtain ⟨j, _, e⟩ := skipF_suffix ks (l.length + 1) l
  unfold skipS
  rw [e]
  exact bulk_drop l j
theorem texts_bulk (l : List S45) (hb : bulkV l ≤ 1048576) : l.all (fun x => decide (x.f0.f1.size ≤ 140737488351232)) = true := by
  refine List.all_eq_true.2 (fun x hx => decide_eq_true ?_)
  have := bulk_mem l x hx; omega
theorem valImp_bulk (v : List S45) : bulkV (valImp v).1 ≤ bulkV v := by
  unfold valImp
  split
  · split
    · have h1 := bulk_trim ((trimS (v.take (v.length - 1))).take ((trimS (v.take (v.length - 1))).length - 1))
      have h2 := bulk_take (trimS (v.take (v.length - 1))) ((trimS (v.take (v.length - 1))).length - 1)
      have h3 := bulk_trim (v.take (v.length - 1))
      have h4 := bulk_take v (v.length - 1)
      show bulkV (trimS _) ≤ _
      omega
    · exact Nat.le_refl _
  · exact Nat.le_refl _
theorem decl_bulk (l : List S45) (d : S47) (h : declS l = some d) : bulkV d.f1 ≤ bulkV l := by
  unfold declS at h
  split at h
  · cases h
  · obtain rfl := Option.some.inj h
    have h1 := valImp_bulk (trimS ((trimS (l.drop 1)).drop 1))
    have h2 := bulk_trim ((trimS (l.drop 1)).drop 1)
    have h3 := bulk_drop (trimS (l.drop 1)) 1
    have h4 := bulk_trim (l.drop 1)
    have h5 := bulk_drop l 1
    show bulkV (valImp _).1 ≤ _
    omega
theorem decls_bulk : ∀ (n : Nat) (l : List S45), l.length ≤ n → ∀ x, x ∈ declsS l → bulkV x.f1 ≤ bulkV l := by
  intro n
  induction n with
  | zero =>
    intro l hn x hx
    obtain rfl := List.eq_nil_of_length_eq_zero (Nat.le_zero.1 hn)
    rw [declsS_eq, skipS_nil] at hx
    simp at hx
  | succ n ih =>
    intro l hn x hx
    have hb := bulk_skip2 [13, 17] l
    have hl := skipS_len [13, 17] l
    rw [declsS_eq] at hx
    split at hx
    · cases hx
    · rename_i hm
      have hf := decls_pos l hm
      have hp := List.length_pos_iff.2 hm
      rcases List.mem_append.1 hx with hx | hx
      · have h1 := decl_bulk _ x (by simpa using hx)
        have h2 := bulk_take (skipS [13, 17] l) (firstS (skipS [13, 17] l) [17])
        omega
      · have h1 := ih _ (by rw [List.length_drop]; omega) x hx
        have h2 := bulk_drop (skipS [13, 17] l) (firstS (skipS [13, 17] l) [17])
        omega
theorem rd47_mem (l : List S47) (i : Nat) (h : i < l.length) : rd_T47 l (i : Int) ∈ l := by
  have : rd_T47 l (i : Int) = l[i] := by simp [rd_T47, List.getD_eq_getElem?_getD, h]
  rw [this]
  exact List.getElem_mem h
theorem ev_SameDecls_l0 (a : List S47) (ha : a.length ≤ 1000000000) (hb : ∀ x, x ∈ a → okLens x.f1) : ∀ (d i : Nat), i + d = a.length →
    Ev (fun k => gouacheref03_SameDecls.l0 k a a (a.length : Int) (i : Nat)) true := by
  intro d
  induction d with
  | zero =>
    intro i hi
    refine Ev.step (fun k => by unfold gouacheref03_SameDecls.l0; exact rfl) ?_
    exact Ev.ifn (by omega) (Ev.now true)
  | succ d ih =>
    intro i hi
    have hm := hb _ (rd47_mem a i (by omega))
    refine Ev.step (fun k => by unfold gouacheref03_SameDecls.l0; exact rfl) ?_
    refine Ev.ifp (by omega) (Ev.ifp (by omega) (Ev.ifp (by omega) (Ev.ifp (by omega) (Ev.ifp rfl (Ev.ifn (by simp) ?_)))))
    refine Ev.bind (ev_Same _ _ _ (Nat.lt_succ_self _) hm) ?_
    rw [sameS_refl, w64 (by omega) (by omega)]
    exact Ev.ifp rfl (ih (i + 1) (by omega))
theorem ev_SameDecls' (a : List S47) (ha : a.length ≤ 1000000000) (hb : ∀ x, x ∈ a → okLens x.f1) : Ev (fun k => gouacheref03_SameDecls.f k a a) true := by
  unfold gouacheref03_SameDecls.f
  exact Ev.ifp rfl (ev_SameDecls_l0 a ha hb a.length 0 (by omega))
theorem ev_SameDecls (a : List S47) (ha : a.length ≤ 1048576) (hb : ∀ x, x ∈ a → bulkV x.f1 ≤ 1048576) : Ev (fun k => gouacheref03_SameDecls.f k a a) true :=
  ev_SameDecls' a (by omega) (fun x hx => ok_bulk _ (hb x hx))
end Go.Proofs.Ythaaajpmiofodaa.P
end
section
set_option linter.unusedVariables false
set_option linter.unusedSimpArgs false
namespace Go.Proofs.Ythaaajpmiofodaa.P
open Go.RowKit Go.Proofs.YthaaajpmiofodaaW.PrintWords Go.Proofs.YthaaajpmiofodaaW.PrintLast Go.Proofs.YthaaajpmiofodaaW.PrintMore
theorem pure_ParseDecls (l m : List S45) (hb : bulkV l ≤ 1048576) (hb2 : bulkV m ≤ 1048576) : ∃ k, gouachelaw03_ParseDecls.f k l m = some true := by
  refine Ev.rounds ?_
  unfold gouachelaw03_ParseDecls.f
  have hlen := bulk_len l
  have e1 : parse_Decls.f l = some (declsS l) := by unfold parse_Decls.f; rw [if_pos ⟨by omega, texts_bulk l hb⟩]
  have e2 : gouacheref03_Decls.f l = some (declsS l) := by unfold gouacheref03_Decls.f; rw [if_pos ⟨by omega, texts_bulk l hb⟩, rdeclsS_same]
  have e3 : parse_Trim.f l = some (trimS l) := by unfold parse_Trim.f; rw [if_pos (by omega)]
  have key : ∀ b, Ev (fun k => gouachelaw03_ParseDecls.j0 k l m b) true := by
    intro b
    refine Ev.step (fun k => by unfold gouachelaw03_ParseDecls.j0; exact rfl) ?_
    cases b with
    | true => exact Ev.ifp rfl ev_live
    | false =>
      refine Ev.ifn (by simp) ?_
      rw [e1, e2, e3]
      simp only [Option.bind_some]
      have hc := declsF_count (l.length + 1) l
      refine Ev.bind (ev_SameDecls (declsS l) (by unfold declsS; omega) (fun x hx => by have := decls_bulk l.length l (Nat.le_refl _) x hx; omega)) (Ev.ifp rfl ?_)
      refine Ev.bind (ev_rTrim l (by omega)) ?_
      refine Ev.bind (ev_Same _ (trimS l) (trimS l) (Nat.lt_succ_self _) (ok_bulk _ (by have := bulk_trim l; omega))) ?_
      rw [sameS_refl]
      refine Ev.ifp rfl ?_
      refine Ev.bind (Ev.now (sameS l m)) ?_
      refine Ev.bind (ev_Same _ l m (Nat.lt_succ_self _) (ok_bulk l hb)) ?_
      refine Ev.ifp (by simp) ?_
      refine Ev.bind (Ev.now (sameS l l)) ?_
      rw [sameS_refl]
      exact Ev.ifp rfl ev_live
  obtain ⟨b, hg⟩ := ev_great l hb
  obtain ⟨b2, hg2⟩ := ev_great m hb2
  refine Ev.bind hg ?_
  cases b with
  | true => exact Ev.ifp rfl (key true)
  | false => exact Ev.ifn (by simp) (Ev.bind hg2 (key b2))
end Go.Proofs.Ythaaajpmiofodaa.P
end
