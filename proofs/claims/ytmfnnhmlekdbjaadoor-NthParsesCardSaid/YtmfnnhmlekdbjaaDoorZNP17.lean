/- The law NthParses (layer 4): the row and its tied card: for every input the law returns true, and the argument reads behind the call as it read before. No condition of ours. -/
import Derived.Test.YtmfnnhmlekdbjaaDoorZNP7
import Derived.Test.YtmfnnhmlekdbjaaDoorZNP15
import Derived.Test.YtmfnnhmlekdbjaaDoorZNP16
section
set_option linter.unusedVariables false
set_option linter.unusedSimpArgs false
namespace Go.Proofs.YtmfnnhmlekdbjaaDoor.P
open Go.RowKit Go.Proofs.YtmfnnhmlekdbjaaDoorW.PrintWords Go.Proofs.YtmfnnhmlekdbjaaDoorW.PrintLast Go.Proofs.YtmfnnhmlekdbjaaDoorW.PrintMore
open Go.Lib
set_option linter.unusedVariables false
set_option linter.unusedSimpArgs false
theorem cutL_none : ∀ (l : List UInt8), cutL l = none ↔ 110 ∉ l
  | [] => by simp [cutL]
  | c :: r => by
    show (if c = 110 then some ([], r) else (cutL r).map fun p => (c :: p.1, p.2)) = none ↔ _
    by_cases h : c = 110
    · rw [if_pos h]; simp [h]
    · rw [if_neg h, Option.map_eq_none_iff, cutL_none r]
      simp [h, Ne.symm h]
theorem cutL_at : ∀ (l : List UInt8) (i : Nat) (h : i < l.length), l[i] = 110 → 110 ∉ l.take i → cutL l = some (l.take i, l.drop (i + 1))
  | [], i, h, _, _ => by simp at h
  | c :: r, 0, h, he, _ => by
    show (if c = 110 then some ([], r) else (cutL r).map fun p => (c :: p.1, p.2)) = _
    rw [if_pos (show c = 110 from he)]; rfl
  | c :: r, i + 1, h, he, hn => by
    show (if c = 110 then some ([], r) else (cutL r).map fun p => (c :: p.1, p.2)) = _
    rw [List.take_succ_cons, List.mem_cons, not_or] at hn
    rw [if_neg (fun e => hn.1 e.symm), cutL_at r i (by simpa using h) he hn.2]
    rfl
theorem dgt_n : dgt 110 = false := by decide
theorem digN_n : ∀ (l : List UInt8) (a : Int), 110 ∈ l → digN l a = none
  | [], a, h => by cases h
  | c :: r, a, h => by
    unfold digN
    by_cases hd : dgt c = true
    · rw [if_pos hd]
      rcases List.mem_cons.1 h with e | h2
      · subst e; rw [dgt_n] at hd; cases hd
      · exact digN_n r _ h2
    · rw [if_neg hd]
theorem whole_n {l : List UInt8} (h : 110 ∈ l) : wholeV l = (0, false) := by
  have hb : 110 ∈ bodyN l := by
    cases l with
    | nil => cases h
    | cons c r =>
      show 110 ∈ (if isSign c = true then r else c :: r)
      by_cases hs : isSign c = true
      · rw [if_pos hs]
        rcases List.mem_cons.1 h with e | h2
        · subst e; exact absurd hs (by decide)
        · exact h2
      · rw [if_neg hs]; exact h
  unfold wholeV
  rw [digN_n _ _ hb]
theorem whole_false {l : List UInt8} (h : (wholeV l).2 = false) : wholeV l = (0, false) := by
  unfold wholeV at h ⊢
  cases e : digN (bodyN l) 0 with
  | none => rfl
  | some n =>
    rw [e] at h
    simp only at h ⊢
    by_cases hb : bodyN l = []
    · rw [if_pos hb]
    · rw [if_neg hb] at h; cases h
theorem cut_eq (s : ByteArray) (hs : s.size ≤ 1000000000) : strings_Cut.f s ⟨#[110]⟩ = some (cutN s) ∧
    (match cutL (L s) with
      | none => (cutN s).2.2 = false
      | some p => (cutN s).2.2 = true ∧ L (cutN s).1 = p.1 ∧ L (cutN s).2.1 = p.2) := by
  refine ⟨by unfold strings_Cut.f; rw [if_pos ⟨rfl, by omega⟩], ?_⟩
  unfold cutN
  by_cases c : 0 ≤ Lib.indexByte s.data.toList 110
  · rw [if_pos c]
    obtain ⟨i, hi⟩ := Int.eq_ofNat_of_zero_le c
    obtain ⟨h1, h2⟩ := Lib.indexByte_some hi
    obtain ⟨hlt, he⟩ := List.getElem?_eq_some_iff.1 h1
    have hcut : cutL (L s) = some ((L s).take i, (L s).drop (i + 1)) := cutL_at (L s) i hlt he (fun hm => by
      obtain ⟨j, hj, ej⟩ := List.getElem_of_mem hm
      rw [List.length_take] at hj
      have := h2 j (by omega)
      apply this
      rw [List.getElem_take] at ej
      exact List.getElem?_eq_some_iff.2 ⟨by have h3 : j < (L s).length := (by omega); exact h3, ej⟩)
    rw [hcut, hi, Int.toNat_natCast]
    exact ⟨rfl, L_head s i, L_tail s (i + 1)⟩
  · rw [if_neg c]
    have h1 : Lib.indexByte s.data.toList 110 = -1 := by have := Lib.indexByte_ge s.data.toList 110; omega
    have hno : cutL (L s) = none := (cutL_none _).2 (fun hm => by
      obtain ⟨j, hj, ej⟩ := List.getElem_of_mem hm
      exact Lib.indexByte_none h1 j (List.getElem?_eq_some_iff.2 ⟨hj, ej⟩))
    rw [hno]
def endV (p : ByteArray × Bool) : Int × Int × Bool := if p.2 = true then parseV (L p.1) else (0, 0, false)
theorem ev_parse (l : List S32) (p : ByteArray × Bool) (hw : nth_written.f l = some p) (hs : p.1.size ≤ 1000000000) : Ev (fun k => nth_Parse.f k l) (endV p) := by
  obtain ⟨s, ok⟩ := p
  unfold nth_Parse.f endV
  rw [hw]
  simp only [Option.bind_some] at hs ⊢
  cases ok with
  | false => exact Ev.ifn (by decide) (Ev.now _)
  | true =>
    refine Ev.ifp rfl ?_
    rw [if_pos rfl]
    simp only [L_toList]
    unfold parseV
    by_cases h1 : L s = [101, 118, 101, 110]
    · rw [if_pos h1]; exact Ev.ifp h1 (Ev.now _)
    refine Ev.ifn h1 ?_
    rw [if_neg h1]
    by_cases h2 : L s = [111, 100, 100]
    · rw [if_pos h2]; exact Ev.ifp h2 (Ev.now _)
    refine Ev.ifn h2 ?_
    rw [if_neg h2]
    obtain ⟨hc, hm⟩ := cut_eq s hs
    rw [hc]
    simp only [Option.bind_some]
    cases hcl : cutL (L s) with
    | none =>
      rw [hcl] at hm
      refine Ev.ifn (by rw [hm]; decide) ?_
      rw [ev_num s (by omega)]
      exact Ev.now _
    | some q =>
      rw [hcl] at hm
      obtain ⟨e3, e1, e2⟩ := hm
      have hsz1 : (cutN s).1.size ≤ 1000000000 := by
        have : (cutN s).1.size ≤ s.size := by
          unfold cutN
          split
          · rw [ByteArray.size_extract]; omega
          · exact Nat.le_refl _
        omega
      have hsz2 : (cutN s).2.1.size ≤ 1000000000 := by
        have : (cutN s).2.1.size ≤ s.size := by
          unfold cutN
          split
          · rw [ByteArray.size_extract]; omega
          · exact Nat.zero_le _
        omega
      refine Ev.ifp e3 ?_
      rw [times_eq _ hsz1]
      simp only [Option.bind_some]
      refine Ev.bind (ev_more _ hsz2) ?_
      rw [e1, e2]
      show Ev _ (if (timesV q.1).2 = true ∧ (moreV q.2).2 = true then ((timesV q.1).1, (moreV q.2).1, true) else (0, 0, false))
      by_cases a1 : (timesV q.1).2 = true
      · refine Ev.ifp a1 ?_
        by_cases a2 : (moreV q.2).2 = true
        · exact Ev.is (Ev.ifp a2 (Ev.now _)) (if_pos ⟨a1, a2⟩).symm
        · exact Ev.is (Ev.ifn a2 (Ev.now _)) (if_neg (fun h => a2 h.2)).symm
      · exact Ev.is (Ev.ifn a1 (Ev.now _)) (if_neg (fun h => a1 h.1)).symm
theorem ev_j4 (t : ByteArray) (a : Int) (ok : Bool) (hs : t.size ≤ 1000000000) (c : UInt8) (r : List UInt8) (hl : L t = c :: r) : ∀ b : Bool, b = !isSign c →
    Ev (fun k => gouacheref04_Parse.j4 k t a b) (if (moreS (c :: r)).2 = true then (a, (moreS (c :: r)).1, true) else (0, 0, false)) := by
  intro b hb
  have h0 := size_of hl
  simp only [List.length_cons] at h0
  refine Ev.step (fun k => by unfold gouacheref04_Parse.j4; exact rfl) ?_
  cases hs' : isSign c with
  | false =>
    rw [hs'] at hb
    subst hb
    rw [show moreS (c :: r) = (0, false) by show (if isSign c = true then moreT c (blankN r) else (0, false)) = _; rw [if_neg (by rw [hs']; decide)]]
    rw [if_neg Bool.false_ne_true]
    exact Ev.ifp rfl (Ev.now _)
  | true =>
    rw [hs'] at hb
    subst hb
    rw [show moreS (c :: r) = moreT c (blankN r) by show (if isSign c = true then moreT c (blankN r) else (0, false)) = _; rw [if_pos hs']]
    refine Ev.ifn (by decide) (Ev.ifp (by omega) ?_)
    obtain ⟨d, hd, hld⟩ := rblank_eq (t.extract 1 t.size)
    rw [L_tail, hl] at hld
    rw [hd]
    have hld2 : L d = blankN r := hld
    have hds := size_of hld2
    have hbl := blankN_len r
    rw [← hld2] at hbl ⊢
    simp only [Option.bind_some]
    have j5 : ∀ (x : UInt8) (q : List UInt8) (hq : L d = x :: q) (b : Bool), b = !dgt x → Ev (fun k => gouacheref04_Parse.j5 k t a d b) (if (moreT c (x :: q)).2 = true then (a, (moreT c (x :: q)).1, true) else (0, 0, false)) := by
      intro x q hq b hb
      have hqb := hbl
      rw [hq] at hqb
      simp only [List.length_cons] at hqb
      have h2 := size_of hq
      simp only [List.length_cons] at h2
      refine Ev.step (fun k => by unfold gouacheref04_Parse.j5; exact rfl) ?_
      cases hdg : dgt x with
      | false =>
        rw [hdg] at hb
        subst hb
        rw [show moreT c (x :: q) = (0, false) by show (if dgt x = true then wholeV (c :: x :: q) else (0, false)) = _; rw [if_neg (by rw [hdg]; decide)]]
        rw [if_neg Bool.false_ne_true]
        exact Ev.ifp rfl (Ev.now _)
      | true =>
        rw [hdg] at hb
        subst hb
        rw [show moreT c (x :: q) = wholeV (c :: x :: q) by show (if dgt x = true then wholeV (c :: x :: q) else (0, false)) = _; rw [if_pos hdg]]
        have h1s : (t.extract 0 1).size = 1 := by rw [← L_len, L_head, hl]; rfl
        refine Ev.ifn (by decide) (Ev.ifp (by omega) (Ev.ifp (by omega) ?_))
        have hcat := head_cat (t := d) hl
        rw [hq] at hcat
        have hcs := size_of hcat
        simp only [List.length_cons] at hcs
        refine Ev.bind (ev_whole _ (by omega)) ?_
        rw [hcat]
        by_cases a2 : (wholeV (c :: x :: q)).2 = true
        · exact Ev.is (Ev.ifp a2 (Ev.now _)) (if_pos a2).symm
        · exact Ev.is (Ev.ifn a2 (Ev.now _)) (if_neg a2).symm
    cases hq : L d with
    | nil =>
      have h2 : d.size = 0 := size_of hq
      refine Ev.ifp (by omega) ?_
      exact Ev.step (fun k => by unfold gouacheref04_Parse.j5; exact rfl) (Ev.ifp rfl (Ev.now _))
    | cons x q =>
      have h2 := size_of hq
      simp only [List.length_cons] at h2
      refine Ev.ifn (by omega) (Ev.ifp (by omega) ?_)
      rw [bt_zero hq]
      by_cases h48 : (x.toNat : Int) < 48
      · exact Ev.ifp h48 (j5 x q hq true (by simp [dgt]; omega))
      · refine Ev.ifn h48 (j5 x q hq _ ?_)
        simp only [dgt]
        by_cases h57 : (x.toNat : Int) > 57
        · rw [decide_eq_true h57, decide_eq_true (show 48 ≤ x.toNat by omega), decide_eq_false (show ¬ x.toNat ≤ 57 by omega)]; rfl
        · rw [decide_eq_false h57, decide_eq_true (show 48 ≤ x.toNat by omega), decide_eq_true (show x.toNat ≤ 57 by omega)]; rfl
theorem ev_j3 (h t : ByteArray) (hs : h.size ≤ 1000000000) (hs2 : t.size ≤ 1000000000) :
    Ev (fun k => gouacheref04_Parse.j3 k h t) (if (wholeV (L h)).2 = true ∧ (moreV (L t)).2 = true then ((wholeV (L h)).1, (moreV (L t)).1, true) else (0, 0, false)) := by
  refine Ev.step (fun k => by unfold gouacheref04_Parse.j3; exact rfl) ?_
  refine Ev.bind (ev_whole h hs) ?_
  by_cases a1 : (wholeV (L h)).2 = true
  · refine Ev.ifp a1 ?_
    simp only [L_toList, a1, true_and]
    unfold moreV
    by_cases h1 : L t = []
    · rw [if_pos h1, if_pos rfl]; exact Ev.ifp h1 (Ev.now _)
    · rw [if_neg h1]
      refine Ev.ifn h1 ?_
      obtain ⟨d, hd, hld⟩ := rblank_eq t
      have hdl : d.size ≤ t.size := by rw [← L_len, hld, ← L_len]; exact blankN_len _
      rw [hd, ← hld]
      simp only [Option.bind_some]
      cases hq : L d with
      | nil =>
        refine Ev.ifp rfl ?_
        exact Ev.step (fun k => by unfold gouacheref04_Parse.j4; exact rfl) (Ev.ifp rfl (Ev.now _))
      | cons c r =>
        have h0 := size_of hq
        simp only [List.length_cons] at h0
        refine Ev.ifn (by simp) (Ev.ifp (by omega) ?_)
        rw [bt_zero hq]
        have key := ev_j4 d (wholeV (L h)).1 true (by omega) c r hq
        by_cases h43 : c = 43
        · refine Ev.ifp (u8_eq43.2 h43) (key false ?_)
          subst h43; rfl
        · refine Ev.ifn (fun e => h43 (u8_eq43.1 e)) (key _ ?_)
          unfold isSign
          rw [show (c == 43) = false by simpa using h43, Bool.false_or]
          by_cases h45 : c = 45
          · subst h45; rfl
          · rw [show (c == 45) = false by simpa using h45]
            exact bne_iff_ne.mpr (fun e => h45 (u8_eq45.1 e))
  · exact Ev.is (Ev.ifn a1 (Ev.now _)) (if_neg (fun h => a1 h.1)).symm
theorem ev_j2 (h t : ByteArray) (hs : h.size ≤ 100000000) (hs2 : t.size ≤ 1000000000) (b : Bool) (hb : b = decide (L h = [] ∨ L h = [43] ∨ L h = [45])) :
    Ev (fun k => gouacheref04_Parse.j2 k h t b) (halfV (L h) (L t)) := by
  refine Ev.step (fun k => by unfold gouacheref04_Parse.j2; exact rfl) ?_
  unfold halfV timesV
  by_cases c : L h = [] ∨ L h = [43] ∨ L h = [45]
  · rw [decide_eq_true c] at hb
    subst hb
    rw [if_pos c]
    refine Ev.ifp rfl (Ev.ifp (by omega) ?_)
    have a1 : L (h ++ (⟨#[49]⟩ : ByteArray)) = L h ++ [49] := L_app _ _
    have := ev_j3 (h ++ (⟨#[49]⟩ : ByteArray)) t (by rw [ByteArray.size_append]; show h.size + 1 ≤ _; omega) hs2
    rw [a1] at this
    exact this
  · rw [decide_eq_false c] at hb
    subst hb
    rw [if_neg c]
    exact Ev.ifn (by decide) (ev_j3 h t (by omega) hs2)
theorem ev_pl (s : ByteArray) (hs : s.size ≤ 100000000) : ∀ (d i : Nat), i + d = s.size → 110 ∉ (L s).take i →
    Ev (fun k => gouacheref04_Parse.l0 k s (i : Int)) (match cutL (L s) with | none => (0, 0, false) | some p => halfV p.1 p.2) := by
  intro d
  induction d with
  | zero =>
    intro i hi hn
    have e : (L s).take i = L s := List.take_of_length_le (by rw [L_len]; omega)
    rw [e] at hn
    rw [(cutL_none _).2 hn]
    refine Ev.step (fun k => by unfold gouacheref04_Parse.l0; exact rfl) (Ev.ifn (by omega) ?_)
    exact Ev.step (fun k => by unfold gouacheref04_Parse.j1; exact rfl) (Ev.ifp (by omega) (Ev.now _))
  | succ d ih =>
    intro i hi hn
    have hlt : i < s.size := by omega
    have hl : i < (L s).length := by rw [L_len]; exact hlt
    refine Ev.step (fun k => by unfold gouacheref04_Parse.l0; exact rfl) (Ev.ifp (by omega) (Ev.ifp (by omega) ?_))
    rw [bt_get hlt]
    have e2 : wrap64 ((i : Int) + 1) = ((i + 1 : Nat) : Int) := by unfold wrap64; omega
    by_cases h : (L s)[i] = 110
    · refine Ev.ifp (u8_eq110.2 h) ?_
      rw [cutL_at (L s) i hl h hn]
      refine Ev.step (fun k => by unfold gouacheref04_Parse.j1; exact rfl) ?_
      refine Ev.ifn (by omega) (Ev.ifp (by omega) (Ev.ifp (by omega) ?_))
      rw [e2]
      refine Ev.ifp (by omega) (Ev.ifp (by omega) ?_)
      rw [Int.toNat_natCast, Int.toNat_natCast]
      simp only [L_toList]
      have hh : L (s.extract 0 i) = (L s).take i := L_head s i
      have ht : L (s.extract (i + 1) s.size) = (L s).drop (i + 1) := L_tail s (i + 1)
      have z1 : (s.extract 0 i).size ≤ 100000000 := by rw [ByteArray.size_extract]; omega
      have z2 : (s.extract (i + 1) s.size).size ≤ 1000000000 := by rw [ByteArray.size_extract]; omega
      have j2 := ev_j2 (s.extract 0 i) (s.extract (i + 1) s.size) z1 z2
      rw [hh, ht] at j2
      rw [hh]
      by_cases c1 : (L s).take i = []
      · exact Ev.ifp c1 (j2 true (decide_eq_true (.inl c1)).symm)
      refine Ev.ifn c1 ?_
      by_cases c2 : (L s).take i = [43]
      · exact Ev.ifp c2 (j2 true (decide_eq_true (.inr (.inl c2))).symm)
      refine Ev.ifn c2 (j2 _ ?_)
      by_cases c3 : (L s).take i = [45]
      · rw [decide_eq_true (.inr (.inr c3)), c3]; rfl
      · rw [decide_eq_false (fun h => by rcases h with h | h | h; exact c1 h; exact c2 h; exact c3 h)]
        exact beq_eq_false_iff_ne.mpr c3
    · refine Ev.ifn (fun e => h (u8_eq110.1 e)) ?_
      rw [e2]
      exact ih (i + 1) (by omega) (by
        rw [List.take_succ_eq_append_getElem hl, List.mem_append, not_or]
        exact ⟨hn, by simpa using fun e => h e.symm⟩)
theorem ev_rparse (l : List S32) (p : ByteArray × Bool) (hw : Ev (fun k => gouacheref04_written.f k l) p) (hs : p.1.size ≤ 100000000) : Ev (fun k => gouacheref04_Parse.f k l) (endV p) := by
  obtain ⟨s, ok⟩ := p
  unfold gouacheref04_Parse.f endV
  refine Ev.bind hw ?_
  simp only at hs ⊢
  cases ok with
  | false => exact Ev.ifn (by decide) (Ev.now _)
  | true =>
    refine Ev.ifp rfl ?_
    rw [if_pos rfl]
    simp only [L_toList]
    unfold parseV
    by_cases h1 : L s = [101, 118, 101, 110]
    · rw [if_pos h1]; exact Ev.ifp h1 (Ev.now _)
    refine Ev.ifn h1 ?_
    rw [if_neg h1]
    by_cases h2 : L s = [111, 100, 100]
    · rw [if_pos h2]; exact Ev.ifp h2 (Ev.now _)
    refine Ev.ifn h2 ?_
    rw [if_neg h2]
    refine Ev.bind (ev_whole s (by omega)) ?_
    have hl0 := ev_pl s hs s.size 0 (by omega) (by simp)
    cases hcl : cutL (L s) with
    | none =>
      rw [hcl] at hl0
      by_cases a1 : (wholeV (L s)).2 = true
      · refine Ev.ifp a1 ?_
        show Ev _ (0, (wholeV (L s)).1, (wholeV (L s)).2)
        rw [a1]
        exact Ev.now _
      · refine Ev.ifn a1 ?_
        have e := whole_false (l := L s) (by simpa using a1)
        show Ev _ (0, (wholeV (L s)).1, (wholeV (L s)).2)
        rw [e]
        exact hl0
    | some q =>
      rw [hcl] at hl0
      have hm : 110 ∈ L s := Classical.byContradiction (fun h => by rw [(cutL_none _).2 h] at hcl; cases hcl)
      rw [whole_n hm]
      exact Ev.ifn (by decide) hl0
end Go.Proofs.YtmfnnhmlekdbjaaDoor.P
end
section
set_option linter.unusedVariables false
set_option linter.unusedSimpArgs false
namespace Go.Proofs.YtmfnnhmlekdbjaaDoor.P
open Go.RowKit Go.Proofs.YtmfnnhmlekdbjaaDoorW.PrintWords Go.Proofs.YtmfnnhmlekdbjaaDoorW.PrintLast Go.Proofs.YtmfnnhmlekdbjaaDoorW.PrintMore
open Go.Lib
set_option linter.unusedVariables false
set_option linter.unusedSimpArgs false
def lt32 (l : List UInt8) : List UInt8 := l.dropWhile (· == 32)
def rt32 (l : List UInt8) : List UInt8 := (l.reverse.dropWhile (· == 32)).reverse
theorem rt_snoc (m : List UInt8) (c : UInt8) : rt32 (m ++ [c]) = if c = 32 then rt32 m else m ++ [c] := by
  unfold rt32
  rw [List.reverse_append, List.reverse_singleton, List.singleton_append]
  by_cases h : c = 32
  · rw [if_pos h, List.dropWhile_cons_of_pos (by simpa using h)]
  · rw [if_neg h, List.dropWhile_cons_of_neg (by simpa using h)]; simp
theorem rt_cons (c : UInt8) : ∀ (n : Nat) (t : List UInt8), t.length = n → rt32 (c :: t) = if rt32 t = [] then (if c = 32 then [] else [c]) else c :: rt32 t := by
  intro n
  induction n with
  | zero =>
    intro t ht
    obtain rfl := List.eq_nil_of_length_eq_zero ht
    have := rt_snoc [] c
    rw [List.nil_append] at this
    rw [this]
    rfl
  | succ n ih =>
    intro t ht
    rcases List.eq_nil_or_concat t with e | ⟨m, d, e⟩
    · subst e; simp at ht
    · subst e
      rw [List.concat_eq_append] at ht ⊢
      have hm : m.length = n := by simpa using ht
      rw [← List.cons_append, rt_snoc, rt_snoc]
      by_cases h : d = 32
      · rw [if_pos h, if_pos h]; exact ih m hm
      · rw [if_neg h, if_neg h, if_neg (by simp)]; rfl
theorem lt_rt : ∀ (l : List UInt8), lt32 (rt32 l) = rt32 (lt32 l)
  | [] => rfl
  | c :: t => by
    have ih := lt_rt t
    have hc := rt_cons c _ t rfl
    by_cases h : c = 32
    · have e : lt32 (c :: t) = lt32 t := by unfold lt32; rw [List.dropWhile_cons_of_pos (by simpa using h)]
      rw [e, ← ih, hc]
      by_cases h2 : rt32 t = []
      · rw [if_pos h2, if_pos h, h2]
      · rw [if_neg h2]
        unfold lt32
        rw [List.dropWhile_cons_of_pos (by simpa using h)]
    · have e : lt32 (c :: t) = c :: t := by unfold lt32; rw [List.dropWhile_cons_of_neg (by simpa using h)]
      rw [e, hc]
      by_cases h2 : rt32 t = []
      · rw [if_pos h2, if_neg h]
        unfold lt32; rw [List.dropWhile_cons_of_neg (by simpa using h)]
      · rw [if_neg h2]
        unfold lt32; rw [List.dropWhile_cons_of_neg (by simpa using h)]
theorem mk_L (s : ByteArray) : (⟨(L s).toArray⟩ : ByteArray) = s := Lib.mk_data s
theorem rfold_now (s : ByteArray) (hs : s.size ≤ 100000000) (l : List UInt8) (h : L s = l) : Ev (fun _ => (gouacheref01_Fold.f s).bind fun t => (some (t, true) : Option (ByteArray × Bool))) (foldS ⟨l.toArray⟩, true) := by
  have e : gouacheref01_Fold.f s = some (foldS s) := by unfold gouacheref01_Fold.f; rw [if_pos (by omega)]
  rw [e, ← h, mk_L]
  exact Ev.now _
theorem ev_w2 : ∀ (n : Nat) (x : ByteArray), x.size = n → x.size ≤ 100000000 → Ev (fun k => gouacheref04_written.l2 k x) (foldS ⟨(rt32 (L x)).toArray⟩, true) := by
  intro n
  induction n with
  | zero =>
    intro x hx hs
    have hl : L x = [] := List.eq_nil_of_length_eq_zero (by rw [L_len]; exact hx)
    refine Ev.step (fun k => by unfold gouacheref04_written.l2; exact rfl) (Ev.ifn (by omega) ?_)
    exact rfold_now x hs _ (by rw [hl]; rfl)
  | succ n ih =>
    intro x hx hs
    have hlt : n < x.size := by omega
    have hl : n < (L x).length := by rw [L_len]; exact hlt
    have e1 : wrap64 ((x.size : Int) - 1) = (n : Int) := by unfold wrap64; omega
    have hsn : L x = (L x).take n ++ [(L x)[n]] := by
      have h2 : (L x).take (n + 1) = L x := List.take_of_length_le (by rw [L_len]; omega)
      rw [← List.take_succ_eq_append_getElem hl, h2]
    refine Ev.step (fun k => by unfold gouacheref04_written.l2; exact rfl) (Ev.ifp (by omega) ?_)
    rw [e1]
    refine Ev.ifp (by omega) (Ev.ifp (by omega) ?_)
    rw [bt_get hlt]
    have hrt : rt32 (L x) = if (L x)[n] = 32 then rt32 ((L x).take n) else L x := by
      conv => lhs; rw [hsn]
      rw [rt_snoc, ← hsn]
    by_cases h : (L x)[n] = 32
    · refine Ev.ifp (u8_eq32.2 h) (Ev.ifp (by omega) ?_)
      rw [Int.toNat_natCast, hrt, if_pos h]
      have hxz : (x.extract 0 n).size = n := by rw [ByteArray.size_extract]; omega
      have := ih (x.extract 0 n) hxz (by omega)
      rw [L_head] at this
      exact this
    · refine Ev.ifn (fun e => h (u8_eq32.1 e)) ?_
      exact rfold_now x hs _ (by rw [hrt, if_neg h])
theorem ev_w1 : ∀ (n : Nat) (x : ByteArray), x.size = n → x.size ≤ 100000000 → Ev (fun k => gouacheref04_written.l1 k x) (foldS ⟨(rt32 (lt32 (L x))).toArray⟩, true) := by
  intro n
  induction n with
  | zero =>
    intro x hx hs
    have hl : L x = [] := List.eq_nil_of_length_eq_zero (by rw [L_len]; exact hx)
    refine Ev.step (fun k => by unfold gouacheref04_written.l1; exact rfl) (Ev.ifn (by omega) ?_)
    refine Ev.step (fun k => by unfold gouacheref04_written.j5; exact rfl) ?_
    have := ev_w2 0 x hx hs
    rw [hl] at this ⊢
    exact this
  | succ n ih =>
    intro x hx hs
    cases hl : L x with
    | nil => have h9 : x.size = 0 := size_of hl; omega
    | cons c r =>
      have h0 := size_of hl
      simp only [List.length_cons] at h0
      refine Ev.step (fun k => by unfold gouacheref04_written.l1; exact rfl) (Ev.ifp (by omega) (Ev.ifp (by omega) ?_))
      rw [bt_zero hl]
      by_cases h : c = 32
      · refine Ev.ifp (u8_eq32.2 h) (Ev.ifp (by omega) ?_)
        have hx1 : L (x.extract 1 x.size) = r := by rw [L_tail, hl]; rfl
        have hz := size_of hx1
        have := ih (x.extract 1 x.size) (by omega) (by omega)
        rw [hx1] at this
        have e : lt32 (c :: r) = lt32 r := by unfold lt32; rw [List.dropWhile_cons_of_pos (by simpa using h)]
        rw [e]
        exact this
      · refine Ev.ifn (fun e => h (u8_eq32.1 e)) ?_
        refine Ev.step (fun k => by unfold gouacheref04_written.j5; exact rfl) ?_
        have e : lt32 (c :: r) = c :: r := by unfold lt32; rw [List.dropWhile_cons_of_neg (by simpa using h)]
        have := ev_w2 (n + 1) x hx hs
        rw [hl] at this
        rw [e]
        exact this
theorem rd32 (l : List S32) (i : Nat) (h : i < l.length) : rd_T32 l (i : Int) = l[i] := by unfold rd_T32; simp [List.getD_eq_getElem?_getD, List.getElem?_eq_getElem h]
theorem ev_w0 (l : List S32) : ∀ (d i : Nat) (x : ByteArray), i + d = l.length → x.size + bulkT (l.drop i) ≤ 1000000 → l.length ≤ 1000000 →
    Ev (fun k => gouacheref04_written.l0 k x l (l.length : Int) (i : Int)) (wrapUp (toksS (l.drop i) (L x))) := by
  intro d
  induction d with
  | zero =>
    intro i x hi hs hl
    rw [List.drop_of_length_le (by omega)] at hs ⊢
    refine Ev.step (fun k => by unfold gouacheref04_written.l0; exact rfl) (Ev.ifn (by omega) ?_)
    have := ev_w1 x.size x rfl (by omega)
    rw [← lt_rt] at this
    exact this
  | succ d ih =>
    intro i x hi hs hl
    have hlt : i < l.length := by omega
    have hb := bulkT_drop l i hlt
    have hst : toksS (l.drop i) (L x) = (tokS (l[i]).f0).bind fun s => toksS (l.drop (i + 1)) (L x ++ s) := by rw [List.drop_eq_getElem_cons hlt]; rfl
    rw [hst]
    obtain ⟨t, ht⟩ : ∃ t, t = (l[i]).f0 := ⟨_, rfl⟩
    rw [← ht] at hb ⊢
    have e2 : wrap64 ((i : Int) + 1) = ((i + 1 : Nat) : Int) := by unfold wrap64; omega
    have go : ∀ (s : ByteArray) (a : List UInt8), L s = a → s.size ≤ t.f1.size + t.f2.size + 1 → Ev (fun k => gouacheref04_written.l0 k (x ++ s) l (l.length : Int) (wrap64 ((i : Int) + 1))) (wrapUp (toksS (l.drop (i + 1)) (L x ++ a))) := by
      intro s a hsa hsz
      have := ih (i + 1) (x ++ s) (by omega) (by rw [ByteArray.size_append]; omega) hl
      rw [L_app, hsa] at this
      rw [e2]
      exact this
    have go1 := go t.f1 _ rfl (by omega)
    refine Ev.step (fun k => by unfold gouacheref04_written.l0; exact rfl) (Ev.ifp (by omega) (Ev.ifp (by omega) (Ev.ifp (by omega) ?_)))
    rw [rd32 l i hlt, ← ht]
    have stop : tokS t = none → wrapUp ((tokS t).bind fun s => toksS (l.drop (i + 1)) (L x ++ s)) = ((⟨#[]⟩ : ByteArray), false) := fun h => by rw [h]; rfl
    have more : ∀ a, tokS t = some a → wrapUp ((tokS t).bind fun s => toksS (l.drop (i + 1)) (L x ++ s)) = wrapUp (toksS (l.drop (i + 1)) (L x ++ a)) := fun a h => by rw [h]; rfl
    obtain ⟨R, hR⟩ : ∃ R, R = wrapUp ((tokS t).bind fun s => toksS (l.drop (i + 1)) (L x ++ s)) := ⟨_, rfl⟩
    rw [← hR] at stop more ⊢
    have j3 : t.f0 ≠ 1 → t.f0 ≠ 10 ∨ t.f3 = false → t.f0 ≠ 12 ∨ t.f3 = false → ∀ b : Bool, b = decide (t.f0 = 9 ∧ (L t.f1 = [43] ∨ L t.f1 = [45])) → Ev (fun k => gouacheref04_written.j3 k x l (l.length : Int) (i : Int) b t.f0 t.f1 t.f2 t.f3 t.f4) R := by
      intro h1 h2 h3 b hbb
      refine Ev.step (fun k => by unfold gouacheref04_written.j3; exact rfl) ?_
      by_cases c9 : t.f0 = 9 ∧ (L t.f1 = [43] ∨ L t.f1 = [45])
      · rw [decide_eq_true c9] at hbb
        subst hbb
        refine Ev.ifp rfl (Ev.ifp (by omega) ?_)
        rw [more _ (show tokS t = some (L t.f1) by
          unfold tokS
          rw [if_neg h1, if_neg (by omega), if_neg (by omega), if_pos c9.1, if_pos (show t.f1.data.toList = [43] ∨ t.f1.data.toList = [45] from c9.2)]; rfl)]
        exact go1
      · rw [decide_eq_false c9] at hbb
        subst hbb
        refine Ev.ifn (by decide) ?_
        by_cases c13 : t.f0 = 13
        · refine Ev.ifp c13 (Ev.ifp (by omega) ?_)
          rw [more _ (show tokS t = some [32] by
            unfold tokS
            rw [if_neg h1, if_neg (by omega), if_neg (by omega), if_neg (by omega), if_pos c13])]
          exact go ⟨#[32]⟩ [32] rfl (by show 1 ≤ _; omega)
        · refine Ev.ifn c13 ?_
          rw [stop (by
            unfold tokS
            rw [if_neg h1]
            by_cases k10 : t.f0 = 10
            · rw [if_pos k10]
              rcases h2 with h2 | h2
              · exact absurd k10 h2
              · rw [if_neg (by rw [h2]; decide)]
            · rw [if_neg k10]
              by_cases k12 : t.f0 = 12
              · rw [if_pos k12]
                rcases h3 with h3 | h3
                · exact absurd k12 h3
                · rw [if_neg (by rw [h3]; decide)]
              · rw [if_neg k12]
                by_cases k9 : t.f0 = 9
                · rw [if_pos k9, if_neg (show ¬ (t.f1.data.toList = [43] ∨ t.f1.data.toList = [45]) from fun h => c9 ⟨k9, h⟩)]
                · rw [if_neg k9, if_neg c13])]
          exact Ev.now _
    have j2 : t.f0 ≠ 1 → t.f0 ≠ 10 ∨ t.f3 = false → ∀ b : Bool, b = (decide (t.f0 = 12) && t.f3) → Ev (fun k => gouacheref04_written.j2 k x l (l.length : Int) (i : Int) b t.f0 t.f1 t.f2 t.f3 t.f4) R := by
      intro h1 h2 b hbb
      refine Ev.step (fun k => by unfold gouacheref04_written.j2; exact rfl) ?_
      by_cases c12 : t.f0 = 12 ∧ t.f3 = true
      · rw [decide_eq_true c12.1, c12.2] at hbb
        subst hbb
        refine Ev.ifp rfl (Ev.ifp (by omega) (Ev.ifp (by rw [ByteArray.size_append]; omega) ?_))
        rw [more _ (show tokS t = some (L t.f1 ++ L t.f2) by
          unfold tokS
          rw [if_neg h1, if_neg (by omega), if_pos c12.1, if_pos c12.2]; rfl)]
        exact go (t.f1 ++ t.f2) _ (L_app _ _) (by rw [ByteArray.size_append]; omega)
      · have hb2 : b = false := by
          rw [hbb]
          by_cases k : t.f0 = 12
          · rw [decide_eq_true k]
            cases hf : t.f3 with
            | true => exact absurd ⟨k, hf⟩ c12
            | false => rfl
          · rw [decide_eq_false k]; rfl
        subst hb2
        have h3 : t.f0 ≠ 12 ∨ t.f3 = false := by
          by_cases k : t.f0 = 12
          · right
            cases hf : t.f3 with
            | true => exact absurd ⟨k, hf⟩ c12
            | false => rfl
          · exact .inl k
        refine Ev.ifn (by decide) ?_
        simp only [L_toList]
        by_cases k9 : t.f0 = 9
        · refine Ev.ifp k9 ?_
          by_cases a1 : L t.f1 = [43]
          · exact Ev.ifp a1 (j3 h1 h2 h3 true (decide_eq_true ⟨k9, .inl a1⟩).symm)
          · refine Ev.ifn a1 (j3 h1 h2 h3 _ ?_)
            by_cases a2 : L t.f1 = [45]
            · rw [decide_eq_true ⟨k9, .inr a2⟩, a2]; rfl
            · rw [decide_eq_false (fun h => h.2.elim a1 a2)]
              exact beq_eq_false_iff_ne.mpr a2
        · exact Ev.ifn k9 (j3 h1 h2 h3 false (decide_eq_false (fun h => k9 h.1)).symm)
    have j1 : t.f0 ≠ 1 → ∀ b : Bool, b = (decide (t.f0 = 10) && t.f3) → Ev (fun k => gouacheref04_written.j1 k x l (l.length : Int) (i : Int) b t.f0 t.f1 t.f2 t.f3 t.f4) R := by
      intro h1 b hbb
      refine Ev.step (fun k => by unfold gouacheref04_written.j1; exact rfl) ?_
      by_cases c10 : t.f0 = 10 ∧ t.f3 = true
      · rw [decide_eq_true c10.1, c10.2] at hbb
        subst hbb
        refine Ev.ifp rfl (Ev.ifp (by omega) ?_)
        rw [more _ (show tokS t = some (L t.f1) by
          unfold tokS
          rw [if_neg h1, if_pos c10.1, if_pos c10.2]; rfl)]
        exact go1
      · have hb2 : b = false := by
          rw [hbb]
          by_cases k : t.f0 = 10
          · rw [decide_eq_true k]
            cases hf : t.f3 with
            | true => exact absurd ⟨k, hf⟩ c10
            | false => rfl
          · rw [decide_eq_false k]; rfl
        subst hb2
        have h2 : t.f0 ≠ 10 ∨ t.f3 = false := by
          by_cases k : t.f0 = 10
          · right
            cases hf : t.f3 with
            | true => exact absurd ⟨k, hf⟩ c10
            | false => rfl
          · exact .inl k
        refine Ev.ifn (by decide) ?_
        by_cases k12 : t.f0 = 12
        · exact Ev.ifp k12 (j2 h1 h2 _ (by rw [decide_eq_true k12]; rfl))
        · exact Ev.ifn k12 (j2 h1 h2 _ (by rw [decide_eq_false k12]; rfl))
    by_cases k1 : t.f0 = 1
    · refine Ev.ifp k1 (Ev.ifp (by omega) ?_)
      rw [more _ (show tokS t = some (L t.f1) by unfold tokS; rw [if_pos k1]; rfl)]
      exact go1
    · refine Ev.ifn k1 ?_
      by_cases k10 : t.f0 = 10
      · exact Ev.ifp k10 (j1 k1 _ (by rw [decide_eq_true k10]; rfl))
      · exact Ev.ifn k10 (j1 k1 _ (by rw [decide_eq_false k10]; rfl))
theorem ev_rwritten (l : List S32) (h : bulkT l ≤ 1000000) (hl : l.length ≤ 1000000) : Ev (fun k => gouacheref04_written.f k l) (wrapUp (toksS l [])) := by
  unfold gouacheref04_written.f
  have := ev_w0 l l.length 0 ⟨#[]⟩ (by omega) (by rw [List.drop_zero]; show 0 + _ ≤ _; omega) hl
  rw [List.drop_zero] at this
  exact this
end Go.Proofs.YtmfnnhmlekdbjaaDoor.P
end
