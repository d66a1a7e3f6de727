/- ParseImportant: for every input the law returns true, and each argument reads behind the call as it read before. -/
import Derived.Test.YthaaajpmiofodaaZPI6
import Derived.Test.YthaaajpmiofodaaZPI7
import Derived.Test.YthaaajpmiofodaaZPI8
import Derived.Test.YthaaajpmiofodaaZPI9
import Derived.Deep.DeepCutAuto
section
set_option linter.unusedVariables false
set_option linter.unusedSimpArgs false
namespace Go.Proofs.Ythaaajpmiofodaa.P
open Go.RowKit Go.Proofs.YthaaajpmiofodaaW.PrintWords Go.Proofs.YthaaajpmiofodaaW.PrintLast Go.Proofs.YthaaajpmiofodaaW.PrintMore
set_option linter.unusedVariables false
set_option linter.unusedSimpArgs false
theorem declsS_eq (l : List S45) : declsS l = if skipS [13, 17] l = [] then [] else (declS ((skipS [13, 17] l).take (firstS (skipS [13, 17] l) [17]))).toList ++ declsS ((skipS [13, 17] l).drop (firstS (skipS [13, 17] l) [17])) := by
  unfold declsS
  rw [declsF]
  split
  · rfl
  · rename_i h
    have hp := decls_pos l h
    have h2 := List.length_pos_iff.2 h
    have hl := skipS_len [13, 17] l
    rw [declsF_any l.length ((List.drop (firstS (skipS [13, 17] l) [17]) (skipS [13, 17] l)).length + 1) _ (by rw [List.length_drop]; omega) (Nat.lt_succ_self _)]
end Go.Proofs.Ythaaajpmiofodaa.P
end
section
set_option linter.unusedVariables false
set_option linter.unusedSimpArgs false
namespace Go.Proofs.Ythaaajpmiofodaa.P
open Go.RowKit Go.Proofs.YthaaajpmiofodaaW.PrintWords Go.Proofs.YthaaajpmiofodaaW.PrintLast Go.Proofs.YthaaajpmiofodaaW.PrintMore
set_option linter.unusedVariables false
theorem declsS_nil : declsS [] = [] := by rw [declsS_eq, skipS_nil]; simp
end Go.Proofs.Ythaaajpmiofodaa.P
end
section
set_option linter.unusedVariables false
set_option linter.unusedSimpArgs false
namespace Go.Proofs.Ythaaajpmiofodaa.P
open Go.RowKit Go.Proofs.YthaaajpmiofodaaW.PrintWords Go.Proofs.YthaaajpmiofodaaW.PrintLast Go.Proofs.YthaaajpmiofodaaW.PrintMore
set_option linter.unusedVariables false
theorem valsF_toks : ∀ (k : Nat) (l : List S43) (nest close : Int), (∀ x, x ∈ (valsF k l nest close).1 → x.f0 ∈ l) ∧ (∀ t, t ∈ (valsF k l nest close).2 → t ∈ l)
  | 0, l, _, _ => by simp [valsF]
  | _ + 1, [], _, _ => by simp [valsF]
  | k + 1, t :: r, nest, close => by
    have h1 := valsF_toks k r nest close
    have h2 := valsF_toks k r (nest + 1) (closeS t.f0)
    have h3 := valsF_toks k (valsF k r (nest + 1) (closeS t.f0)).2 nest close
    unfold valsF
    split
    · exact ⟨fun x hx => (by cases hx), fun s hs => List.mem_cons_of_mem _ hs⟩
    · split
      · refine ⟨fun x hx => ?_, fun s hs => List.mem_cons_of_mem _ (h1.2 s hs)⟩
        rcases List.mem_cons.1 hx with rfl | hx
        · exact List.mem_cons_self
        · exact List.mem_cons_of_mem _ (h1.1 x hx)
      · split
        · exact ⟨fun x hx => List.mem_cons_of_mem _ (h2.2 _ (h3.1 x hx)), fun s hs => List.mem_cons_of_mem _ (h2.2 _ (h3.2 s hs))⟩
        · refine ⟨fun x hx => ?_, fun s hs => List.mem_cons_of_mem _ (h2.2 _ (h3.2 s hs))⟩
          rcases List.mem_cons.1 hx with rfl | hx
          · exact List.mem_cons_self
          · exact List.mem_cons_of_mem _ (h2.2 _ (h3.1 x hx))
theorem valsS_texts (l : List S43) (ht : ∀ p, p ∈ l → p.f1.size ≤ 140737488351232) : okTexts (valsS l) := fun x hx => ht _ ((valsF_toks _ l 0 0).1 x hx)
theorem valsS_len (l : List S43) : (valsS l).length ≤ l.length := valsF_count _ l 0 0
end Go.Proofs.Ythaaajpmiofodaa.P
end
section
set_option linter.unusedVariables false
set_option linter.unusedSimpArgs false
namespace Go.Proofs.Ythaaajpmiofodaa.P
open Go.RowKit Go.Proofs.YthaaajpmiofodaaW.PrintWords Go.Proofs.YthaaajpmiofodaaW.PrintLast Go.Proofs.YthaaajpmiofodaaW.PrintMore
theorem dropWhile_head (p : S45 → Bool) : ∀ l : List S45, ∀ x t, l.dropWhile p = x :: t → p x = false
  | [], _, _, h => by simp at h
  | y :: l, x, t, h => by
    rw [List.dropWhile_cons] at h
    split at h
    · exact dropWhile_head p l x t h
    · rename_i hy
      injection h with h1 h2
      subst h1
      simpa using hy
theorem dropWhile_keep (p : S45 → Bool) : ∀ l : List S45, (∀ x t, l = x :: t → p x = false) → l.dropWhile p = l
  | [], _ => rfl
  | y :: l, h => by rw [List.dropWhile_cons, h y l rfl]; simp
theorem trimBack_last (l : List S45) : ∀ x t, trimBack l = t ++ [x] → isSp x = false := by
  intro x t h
  unfold trimBack at h
  have h2 := congrArg List.reverse h
  rw [List.reverse_reverse, List.reverse_append] at h2
  exact dropWhile_head isSp _ x t.reverse h2
theorem trimBack_prefix (l : List S45) : ∃ t, l = trimBack l ++ t := by
  unfold trimBack
  have h := List.takeWhile_append_dropWhile (p := isSp) (l := l.reverse)
  refine ⟨(l.reverse.takeWhile isSp).reverse, ?_⟩
  rw [← List.reverse_append, h, List.reverse_reverse]
theorem trimBack_keep (l : List S45) (h : ∀ x t, l = t ++ [x] → isSp x = false) : trimBack l = l := by
  unfold trimBack
  rw [dropWhile_keep isSp l.reverse (fun x t e => h x t.reverse (by have := congrArg List.reverse e; simpa using this)), List.reverse_reverse]
theorem trimS_head (l : List S45) (x : S45) (t : List S45) (h : trimS l = x :: t) : isSp x = false := by
  unfold trimS at h
  obtain ⟨u, hu⟩ := trimBack_prefix (l.dropWhile isSp)
  rw [h] at hu
  exact dropWhile_head isSp l x (t ++ u) hu
theorem trimS_last (l : List S45) (x : S45) (t : List S45) (h : trimS l = t ++ [x]) : isSp x = false := trimBack_last _ x t h
theorem trimS_trimS (l : List S45) : trimS (trimS l) = trimS l := by
  have h1 : (trimS l).dropWhile isSp = trimS l := dropWhile_keep isSp _ (fun x t e => trimS_head l x t e)
  have h2 : trimBack (trimS l) = trimS l := trimBack_keep _ (fun x t e => trimS_last l x t e)
  show trimBack ((trimS l).dropWhile isSp) = trimS l
  rw [h1, h2]
end Go.Proofs.Ythaaajpmiofodaa.P
end
section
set_option linter.unusedVariables false
set_option linter.unusedSimpArgs false
namespace Go.Proofs.Ythaaajpmiofodaa.P
open Go.RowKit Go.Proofs.YthaaajpmiofodaaW.PrintWords Go.Proofs.YthaaajpmiofodaaW.PrintLast Go.Proofs.YthaaajpmiofodaaW.PrintMore
set_option linter.unusedVariables false
def tokV (k : Int) (s : ByteArray) : S45 := ⟨⟨k, s, ⟨#[]⟩, false, false⟩, []⟩
def impT : ByteArray := ⟨#[73, 77, 80, 79, 82, 84, 65, 78, 84]⟩
def tailV (imp : Bool) : List S45 := if imp then [tokV 9 bangS, tokV 1 impT] else []
theorem trim_keep (l : List S45) (h1 : ∀ x t, l = x :: t → isSp x = false) (h2 : ∀ x t, l = t ++ [x] → isSp x = false) : trimS l = l := by
  unfold trimS
  rw [dropWhile_keep isSp l h1, trimBack_keep l h2]
theorem trimmed_head (v : List S45) (h : trimS v = v) (x : S45) (t : List S45) (e : v = x :: t) : isSp x = false := trimS_head v x t (by rw [h]; exact e)
theorem trimmed_last (v : List S45) (h : trimS v = v) (x : S45) (t : List S45) (e : v = t ++ [x]) : isSp x = false := trimS_last v x t (by rw [h]; exact e)
theorem tail_head (v : List S45) (h : trimS v = v) (imp : Bool) (x : S45) (t : List S45) (e : v ++ tailV imp = x :: t) : isSp x = false := by
  cases v with
  | cons y u =>
    rw [List.cons_append] at e
    injection e with e1 e2
    subst e1
    exact trimmed_head _ h y u rfl
  | nil =>
    rw [List.nil_append] at e
    cases imp with
    | false => simp [tailV] at e
    | true =>
      simp only [tailV, if_true] at e
      injection e with e1 e2
      subst e1; rfl
theorem tail_last (v : List S45) (h : trimS v = v) (imp : Bool) (x : S45) (t : List S45) (e : v ++ tailV imp = t ++ [x]) : isSp x = false := by
  cases imp with
  | false =>
    simp only [tailV, Bool.false_eq_true, if_false, List.append_nil] at e
    exact trimmed_last v h x t e
  | true =>
    simp only [tailV, if_true] at e
    have e2 : (v ++ [tokV 9 bangS]) ++ [tokV 1 impT] = t ++ [x] := by rw [← e]; simp
    have := List.append_inj_right' e2 rfl
    injection this with e3 _
    subst e3; rfl
theorem trim_tail (v : List S45) (h : trimS v = v) (imp : Bool) : trimS (v ++ tailV imp) = v ++ tailV imp := trim_keep _ (tail_head v h imp) (tail_last v h imp)
theorem trim_bang (v : List S45) (h : trimS v = v) : trimS (v ++ [tokV 9 bangS]) = v ++ [tokV 9 bangS] := by
  refine trim_keep _ (fun x t e => ?_) (fun x t e => ?_)
  · cases v with
    | cons y u =>
      rw [List.cons_append] at e
      injection e with e1 e2
      subst e1
      exact trimmed_head _ h y u rfl
    | nil =>
      rw [List.nil_append] at e
      injection e with e1 e2
      subst e1; rfl
  · have := List.append_inj_right' e rfl
    injection this with e3 _
    subst e3; rfl
theorem rd_last (t : List S45) (x : S45) : rd_T45 (t ++ [x]) (((t ++ [x]).length - 1 : Nat) : Int) = x := by
  simp [rd_T45, List.getD_eq_getElem?_getD]
theorem lastIs_snoc (t : List S45) (x : S45) (k : Int) (s : ByteArray) : lastIs (t ++ [x]) k s = (x.f0.f0 == k && ((foldS x.f0.f1).toList == s.toList)) := by
  unfold lastIs
  rw [rd_last, decide_eq_true (by simp), Bool.true_and]
theorem imp_fold : ((foldS impT).toList == impS.toList) = true := by kernel_rfl
theorem bang_fold : ((foldS bangS).toList == bangS.toList) = true := by kernel_rfl
theorem lastIs_no (l v : List S45) (hsub : ∀ x, x ∈ l → x ∈ v) (hno : ∀ x, x ∈ v → ¬ (x.f0.f0 = 9 ∧ x.f0.f1.toList = [33])) : lastIs l 9 bangS = false := by
  rcases List.eq_nil_or_concat l with e | ⟨t, x, e⟩
  · subst e; rfl
  · rw [List.concat_eq_append] at e
    subst e
    rw [lastIs_snoc, bang_list, fold_bang]
    have h := hno x (hsub x (by simp))
    cases h1 : (x.f0.f0 == 9) with
    | false => rfl
    | true =>
      cases h2 : (x.f0.f1.toList == [33]) with
      | false => rfl
      | true => exact absurd ⟨eq_of_beq h1, eq_of_beq h2⟩ h
theorem valImp_tail (v : List S45) (h : trimS v = v) (hno : ∀ x, x ∈ v → ¬ (x.f0.f0 = 9 ∧ x.f0.f1.toList = [33])) (imp : Bool) : valImp (v ++ tailV imp) = (v, imp) := by
  cases imp with
  | false =>
    simp only [tailV, Bool.false_eq_true, if_false, List.append_nil]
    unfold valImp
    split
    · rw [if_neg (by rw [lastIs_no (trimS (v.take (v.length - 1))) v (fun x hx => List.mem_of_mem_take (trimS_mem _ x hx)) hno]; simp)]
    · rfl
  | true =>
    simp only [tailV, if_true]
    have e2 : v ++ [tokV 9 bangS, tokV 1 impT] = (v ++ [tokV 9 bangS]) ++ [tokV 1 impT] := by simp
    rw [e2]
    unfold valImp
    have h1 : lastIs ((v ++ [tokV 9 bangS]) ++ [tokV 1 impT]) 1 impS = true := by
      rw [lastIs_snoc]
      show ((1 : Int) == 1 && ((foldS impT).toList == impS.toList)) = true
      rw [imp_fold]; rfl
    have t1 : ((v ++ [tokV 9 bangS]) ++ [tokV 1 impT]).take (((v ++ [tokV 9 bangS]) ++ [tokV 1 impT]).length - 1) = v ++ [tokV 9 bangS] := by
      rw [List.take_append_of_le_length (by simp), List.take_of_length_le (by simp)]
    have h2 : lastIs (v ++ [tokV 9 bangS]) 9 bangS = true := by
      rw [lastIs_snoc]
      show ((9 : Int) == 9 && ((foldS bangS).toList == bangS.toList)) = true
      rw [bang_fold]; rfl
    have t2 : (v ++ [tokV 9 bangS]).take ((v ++ [tokV 9 bangS]).length - 1) = v := by
      rw [List.take_append_of_le_length (by simp), List.take_of_length_le (by simp)]
    rw [if_pos h1, t1, trim_bang v h, if_pos h2, t2, h]
theorem first_none (l : List S45) (ks : List Int) (h : ∀ x, x ∈ l → kindIn ks x = false) : firstS l ks = l.length := by
  unfold firstS
  rw [List.findIdx_eq_length]
  exact fun x hx => h x hx
theorem imp_decls (name : ByteArray) (v : List S45) (imp : Bool) (h : trimS v = v) (hno : ∀ x, x ∈ v → ¬ x.f0.f0 = 17 ∧ ¬ (x.f0.f0 = 9 ∧ x.f0.f1.toList = [33])) :
    declsS (tokV 1 name :: tokV 16 ⟨#[]⟩ :: (v ++ tailV imp)) = [⟨foldS name, v, imp⟩] := by
  have hs : skipS [13, 17] (tokV 1 name :: tokV 16 ⟨#[]⟩ :: (v ++ tailV imp)) = tokV 1 name :: tokV 16 ⟨#[]⟩ :: (v ++ tailV imp) :=
    skipS_stop _ _ (by simp) (by show hasKind [13, 17] 1 = false; decide) (by show ¬ (1 : Int) = 3; decide)
  have hf : firstS (tokV 1 name :: tokV 16 ⟨#[]⟩ :: (v ++ tailV imp)) [17] = (tokV 1 name :: tokV 16 ⟨#[]⟩ :: (v ++ tailV imp)).length := by
    refine first_none _ _ (fun x hx => ?_)
    rcases List.mem_cons.1 hx with rfl | hx
    · show hasKind [17] 1 = false; decide
    rcases List.mem_cons.1 hx with rfl | hx
    · show hasKind [17] 16 = false; decide
    rcases List.mem_append.1 hx with hx | hx
    · have := (hno x hx).1
      simp [kindIn, hasKind, this, Ne.symm this]
    · cases imp with
      | false => simp [tailV] at hx
      | true =>
        simp only [tailV, if_true] at hx
        rcases List.mem_cons.1 hx with rfl | hx
        · show hasKind [17] 9 = false; decide
        rcases List.mem_cons.1 hx with rfl | hx
        · show hasKind [17] 1 = false; decide
        · cases hx
  have ht : trimS (tokV 16 ⟨#[]⟩ :: (v ++ tailV imp)) = tokV 16 ⟨#[]⟩ :: (v ++ tailV imp) := by
    refine trim_keep _ (fun x t e => ?_) (fun x t e => ?_)
    · injection e with e1 _
      subst e1; rfl
    · cases t with
      | nil => injection e with e1 _; subst e1; rfl
      | cons y u =>
        rw [List.cons_append] at e
        injection e with _ e2
        exact tail_last v h imp x u e2
  have hd : declS (tokV 1 name :: tokV 16 ⟨#[]⟩ :: (v ++ tailV imp)) = some ⟨foldS name, v, imp⟩ := by
    unfold declS
    rw [show (tokV 1 name :: tokV 16 ⟨#[]⟩ :: (v ++ tailV imp)).drop 1 = tokV 16 ⟨#[]⟩ :: (v ++ tailV imp) from rfl, ht]
    rw [if_neg (by
      rintro (e | e | e)
      · exact e rfl
      · simp at e
      · exact e rfl)]
    rw [show (tokV 16 ⟨#[]⟩ :: (v ++ tailV imp)).drop 1 = v ++ tailV imp from rfl, trim_tail v h imp, valImp_tail v h (fun x hx => (hno x hx).2) imp]
    rfl
  rw [declsS_eq, hs, if_neg (by simp), hf, List.take_length, List.drop_length, hd, declsS_nil]
  rfl
end Go.Proofs.Ythaaajpmiofodaa.P
end
section
set_option linter.unusedVariables false
set_option linter.unusedSimpArgs false
namespace Go.Proofs.Ythaaajpmiofodaa.P
open Go.RowKit Go.Proofs.YthaaajpmiofodaaW.PrintWords Go.Proofs.YthaaajpmiofodaaW.PrintLast Go.Proofs.YthaaajpmiofodaaW.PrintMore
attribute [local go_sem] max2_int min2_int max_two min_two max_three min_three max_four min_four
set_option linter.unusedVariables false
set_option linter.unusedSimpArgs false
theorem same_at (A : Option Addr) (c n : Nat) (l : List S45) (A' : Option Addr) (c' n' : Nat) (m : List S45) (r : Bool) (w : World) (hl : Kd.C k45 w A l.length l) (hc : l.length ≤ c) (hm : Kd.C k45 w A' m.length m) (hc' : m.length ≤ c') (hn : l.length = n) (hn' : m.length = n') (hr : sameS l m = r) :
    Calls Try.prog 25 #[.slice A n c, .slice A' n' c'] w fun e w' => e = .returned (.bool r) ∧ Below w.heap.size w w' := by
  subst hn hn' hr
  exact parse_Same.calls 0 A c l A' c' m _ w hl hc hm hc' rfl
end Go.Proofs.Ythaaajpmiofodaa.P
end
section
set_option linter.unusedVariables false
set_option linter.unusedSimpArgs false
namespace Go.Proofs.Ythaaajpmiofodaa.P
open Go.RowKit Go.Proofs.YthaaajpmiofodaaW.PrintWords Go.Proofs.YthaaajpmiofodaaW.PrintLast Go.Proofs.YthaaajpmiofodaaW.PrintMore
attribute [local go_sem] max2_int min2_int max_two min_two max_three min_three max_four min_four
set_option linter.unusedVariables false
set_option linter.unusedSimpArgs false
theorem tok_FK (W : World) (ok : Nat → Prop) (k : Int) (s : ByteArray) : Kd.FK k45 W ok (tokV k s) [.int .i64 k, .string s, .string ⟨#[]⟩, .bool false, .bool false, .slice none 0 0] :=
  k45_mkF W ok (tokV k s) (Nat.zero_le _) (F_nil45 W ok)
theorem decls_C (A : Option Addr) (c n : Nat) (l : List S45) (D : List S47) (w : World) (hl : Kd.C k45 w A l.length l) (hc : l.length ≤ c) (hs : l.length ≤ 1000000000) (ht : okTexts l) (hn : l.length = n) (hD : declsS l = D) :
    Calls Try.prog 21 #[.slice A n c] w fun e w' => ∃ A2 c2, e = .returned (.slice A2 D.length c2) ∧ D.length ≤ c2 ∧ Kd.C k47 w' A2 D.length D ∧ Below w.heap.size w w' := by
  subst hn hD
  refine (decls_calls _ A c l w (Kd.C_F k45_heap hl) hc (fun k hk => hk) (by omega) ht).mono ?_
  rintro e w' ⟨v, rfl, hN, hb⟩
  obtain ⟨A2, c2, rfl⟩ := Kd.N_slice hN
  exact ⟨A2, c2, rfl, (Kd.N_reads' hN).2.1, (Kd.N_reads' hN).2.2, hb⟩
theorem blk6b {W : World} {g t : Nat} {a b c d e f : Value} (h : W.heap[g]? = some (.cells #[a, b, c, d, e, f] t (0, 0))) : W.cell? ⟨g, 0, none⟩ = some a ∧ W.cell? ⟨g, 1, none⟩ = some b ∧ W.cell? ⟨g, 2, none⟩ = some c ∧ W.cell? ⟨g, 3, none⟩ = some d ∧ W.cell? ⟨g, 4, none⟩ = some e ∧ W.cell? ⟨g, 5, none⟩ = some f :=
  ⟨(blk_cell h 0).trans rfl, (blk_cell h 1).trans rfl, (blk_cell h 2).trans rfl, (blk_cell h 3).trans rfl, (blk_cell h 4).trans rfl, (blk_cell h 5).trans rfl⟩
theorem one47 {w : World} {A : Option Addr} {d : S47} (h : Kd.C k47 w A 1 [d]) : ∃ ad B c, A = some ad ∧ w.cell? ad = some (.string d.f0) ∧ w.cell? ⟨ad.block, ad.off + 1, none⟩ = some (.slice B d.f1.length c) ∧ w.cell? ⟨ad.block, ad.off + 2, none⟩ = some (.bool d.f2) ∧ d.f1.length ≤ c ∧ k45.C w B d.f1.length d.f1 := by
  obtain ⟨ad, B, c, e, h0, h1, h2, h3, h4⟩ := at_T47 h 0 (by decide) (by decide)
  rw [show ((0 : Int)).toNat * 3 = 0 from rfl, Addr.add_zero'] at h0 h1 h2
  exact ⟨ad, B, c, e, h0, h1, h2, h3, h4⟩
theorem imp_texts (name : ByteArray) (V : List S45) (b : Bool) (hn : name.size ≤ 140737488351232) (hv : okTexts V) : okTexts (tokV 1 name :: tokV 16 ⟨#[]⟩ :: (V ++ tailV b)) := by
  intro x hx
  rcases List.mem_cons.1 hx with rfl | hx
  · exact hn
  rcases List.mem_cons.1 hx with rfl | hx
  · exact Nat.zero_le _
  rcases List.mem_append.1 hx with hx | hx
  · exact hv x hx
  · cases b
    · simp [tailV] at hx
    · simp only [tailV, if_pos rfl] at hx
      rcases List.mem_cons.1 hx with rfl | hx
      · show bangS.size ≤ _; decide
      · rcases List.mem_cons.1 hx with rfl | hx
        · show impT.size ≤ _; decide
        · cases hx
theorem fold_step (name : ByteArray) (W5 W : World) (hs : name.size ≤ 140737488351232) (h : Below W5.heap.size W5 W) : Calls Try.prog 26 #[.string name] W fun e w' => e = .returned (.string (foldS name)) ∧ Below W5.heap.size W5 w' :=
  (gouacheref01_Fold.calls name (foldS name) W (by unfold gouacheref01_Fold.f; rw [if_pos hs])).mono (fun _ _ q => ⟨q.1, below_step h q.2⟩)
theorem same_step (B : Option Addr) (cb : Nat) (V : List S45) (A : Option Addr) (c : Nat) (W5 W : World) (hB : Kd.C k45 W5 B V.length V) (hb : V.length ≤ cb) (hA : Kd.C k45 W5 A V.length V) (ha : V.length ≤ c) (h : Below W5.heap.size W5 W) : Calls Try.prog 25 #[.slice B V.length cb, .slice A V.length c] W fun e w' => e = .returned (.bool true) ∧ Below W5.heap.size W5 w' :=
  (same_at B cb _ V A c _ V true W (Kd.C_below hB h) hb (Kd.C_below hA h) ha rfl rfl (sameS_refl V)).mono (fun _ _ q => ⟨q.1, below_step h q.2⟩)
theorem live_step (W5 W : World) (h : Below W5.heap.size W5 W) : Calls Try.prog 10 #[] W fun e w' => e = .returned (.bool true) ∧ Below W5.heap.size W5 w' :=
  (gouachelaw03_lives.calls 200 true W lives_200).mono (fun _ _ q => ⟨q.1, below_step h q.2⟩)
set_option maxHeartbeats 32000000 in
set_option maxRecDepth 100000 in
theorem pimp_calls (name : ByteArray) (A1 : Option Addr) (c1 : Nat) (l : List S43) (imp : Bool) (w : World) (hl : Kd.C k43 w A1 l.length l) (hc1 : l.length ≤ c1) (hnm : name.size ≤ 140737488351232)
    (ht : ∀ p, p ∈ l → p.f1.size ≤ 140737488351232) :
    Calls Try.prog 7 #[.string name, .slice A1 l.length c1, .bool imp] w fun e w' => e = .returned (.bool true) ∧ Below w.heap.size w w' := by
  have hu43 := Try.underlying43
  have hu45 := Try.underlying45
  have hu47 := Try.underlying47
  have HL := Aside0.mk hl
  have HC1 := Aside0.mk hc1
  have HT := Aside0.mk ht
  have HNM := Aside0.mk hnm
  have HB := Aside0.mk (Below.refl w.heap.size w)
  have hnz : (name.size : Int) ≤ 140737488351232 := by omega
  clear hl hc1 ht hnm
  by_cases h1 : (name.size : Int) > 200
  · go_enter Try.func7, Try.ntmps7
    go_wp2_with fail
    refine (gouachelaw03_lives.calls 200 true _ lives_200).mono ?_
    rintro e WL ⟨rfl, hbl⟩
    go_wp2
    go_ret
    exact ⟨rfl, below_step HB.out hbl⟩
  by_cases h2 : (l.length : Int) > 500
  · go_enter Try.func7, Try.ntmps7
    go_wp2_with fail
    refine (gouachelaw03_lives.calls 200 true _ lives_200).mono ?_
    rintro e WL ⟨rfl, hbl⟩
    go_wp2
    go_ret
    exact ⟨rfl, below_step HB.out hbl⟩
  by_cases h3 : name.toList = []
  · have h3b : (name.toList == []) = true := by simpa using h3
    have h3c : name.toList.isEmpty = true := by simpa using h3
    go_enter Try.func7, Try.ntmps7
    go_wp2_with fail
    refine (gouachelaw03_lives.calls 200 true _ lives_200).mono ?_
    rintro e WL ⟨rfl, hbl⟩
    go_wp2
    go_ret
    exact ⟨rfl, below_step HB.out hbl⟩
  have h3b : (name.toList == []) = false := by simpa using h3
  have h3c : name.toList.isEmpty = false := by simpa using h3
  have HLL := Aside0.mk (show l.length ≤ 500 by omega)
  have hvl : parse_Values.f l = some (valsS l) := by unfold parse_Values.f; rw [if_pos (by omega)]
  have HVF := Aside0.mk hvl
  clear hvl
  go_enter Try.func7, Try.ntmps7
  go_upto_region 3 with (fail)
  clear h1 h2 h3 h3b h3c hnz
  go_wp2_with fail
  refine (parse_Values.calls A1 c1 l _ _ HL.out HC1.out HVF.out).mono ?_
  rintro e W1 ⟨v1, rfl, hR1, hb1⟩
  obtain ⟨A5, c5, rfl, hx1, hx2⟩ := Kd.R_reads hR1
  have HB1 := Aside0.mk hb1
  have HCX := Aside0.mk hx1
  have HX1 := Aside0.mk hx2
  clear hR1 hb1 hx1 hx2
  go_wp2_with fail
  refine (trim_calls _ A5 c5 (valsS l) W1 (Kd.C_F k45_heap HX1.out) HCX.out (fun k hk => hk) (by have := valsS_len l; have := HLL.out; omega)).mono ?_
  rintro e W2 ⟨v2, rfl, hN2, hb2⟩
  have HVL := Aside0.mk (show (trimS (valsS l)).length ≤ 500 by have := trimS_len (valsS l); have := valsS_len l; have := HLL.out; omega)
  have HVC := Aside0.mk (show okTexts (trimS (valsS l)) from fun x hx => valsS_texts l HT.out x (trimS_mem _ x hx))
  have HVT := Aside0.mk (trimS_trimS (valsS l))
  generalize trimS (valsS l) = V at hN2 HVL HVC HVT
  obtain ⟨A7, c7, rfl⟩ := Kd.N_slice hN2
  have HB2 := Aside0.mk (below_step HB1.out hb2)
  have HV2 := Aside0.mk (Kd.N_reads' hN2).2.2
  have HCV := Aside0.mk (Kd.N_reads' hN2).2.1
  have hvz : (V.length : Int) ≤ 500 := by have := HVL.out; omega
  clear hN2 hb2 HX1 HVF HL HB1 HT
  go_wp2_with fail
  go_loopg [9, 30] V.length (fun gg _ s30 wr => ∃ i : Nat, i ≤ V.length ∧ V.length - i ≤ gg ∧ s30 = .int .i64 i ∧ Aside0 (Below w.heap.size w wr) ∧ Aside0 (Kd.C k45 wr A7 V.length V) ∧ Aside0 (∀ j : Nat, j < i → ¬ (rd_T45 V (j : Nat)).f0.f0 = 17 ∧ ¬ ((rd_T45 V (j : Nat)).f0.f0 = 9 ∧ (rd_T45 V (j : Nat)).f0.f1.toList = [33])))
  case atStart => exact ⟨0, Nat.zero_le _, by omega, rfl, HB2, HV2, ⟨fun j hj => absurd hj (Nat.not_lt_zero _)⟩⟩
  case round =>
    clear HV2
    obtain ⟨i, hi, hg, rfl, HB, HV, NO⟩ := hrel
    by_cases hlt : i < V.length
    · have hltz : (i : Int) < (V.length : Int) := by omega
      obtain ⟨ad, B5, d5, rfl, h0, h1, h2, h3, h4, h5, hl5, hi5⟩ := elem45 HV.out i hlt
      generalize hy : rd_T45 V (i : Nat) = y at h0 h1 h2 h3 h4 h5
      have HY := Aside0.mk hy
      have HBA := Aside0.mk (below_alloc HB.out (.cells #[.int .i64 y.f0.f0, .string y.f0.f1, .string y.f0.f2, .bool y.f0.f3, .bool y.f0.f4, .slice B5 y.f1.length d5] 45))
      have HVA := Aside0.mk (Kd.C_alloc HV.out (.cells #[.int .i64 y.f0.f0, .string y.f0.f1, .string y.f0.f2, .bool y.f0.f3, .bool y.f0.f4, .slice B5 y.f1.length d5] 45))
      clear hl5 hi5 hy
      go_upto_region 7 with (fail)
      have hblk := blk_new wr (.cells #[.int .i64 y.f0.f0, .string y.f0.f1, .string y.f0.f2, .bool y.f0.f3, .bool y.f0.f4, .slice B5 y.f1.length d5] 45)
      generalize wr.alloc (.cells #[.int .i64 y.f0.f0, .string y.f0.f1, .string y.f0.f2, .bool y.f0.f3, .bool y.f0.f4, .slice B5 y.f1.length d5] 45) = wA at hblk HBA HVA ⊢
      generalize wr.heap.size = g at hblk ⊢
      obtain ⟨q0, q1, q2, q3, q4, q5⟩ := blk6b hblk
      replace HB := HBA
      clear hblk h0 h1 h2 h3 h4 h5 q2 q3 q4 q5 HBA
      by_cases k17 : y.f0.f0 = 17
      · have e17 : (y.f0.f0 == 17) = true := by rw [k17]; rfl
        go_wp2_with fail
        refine (gouachelaw03_lives.calls 200 true _ lives_200).mono ?_
        rintro e WL ⟨rfl, hbl⟩
        go_wp2
        go_ret
        exact ⟨rfl, below_step HB.out hbl⟩
      · have e17 : (y.f0.f0 == 17) = false := by simpa using k17
        by_cases k9 : y.f0.f0 = 9
        · have e9 : (y.f0.f0 == 9) = true := by rw [k9]; rfl
          by_cases kb : y.f0.f1.toList = [33]
          · have eb : (y.f0.f1.toList == [33]) = true := by simpa using kb
            go_wp2_with fail
            refine (gouachelaw03_lives.calls 200 true _ lives_200).mono ?_
            rintro e WL ⟨rfl, hbl⟩
            go_wp2
            go_ret
            exact ⟨rfl, below_step HB.out hbl⟩
          · have eb : (y.f0.f1.toList == [33]) = false := by simpa using kb
            have HNY := Aside0.mk (show ¬ y.f0.f0 = 17 ∧ ¬ (y.f0.f0 = 9 ∧ y.f0.f1.toList = [33]) from ⟨k17, fun h => kb h.2⟩)
            clear k17 k9 kb
            go_wp2
            go_roundg (V.length - (i + 1))
            case measure => omega
            case rel =>
              refine ⟨i + 1, by omega, by omega, by go_num, HB, HVA, ⟨fun j hj => ?_⟩⟩
              by_cases e : j = i
              · subst e; rw [HY.out]; exact HNY.out
              · exact NO.out j (by omega)
        · have e9 : (y.f0.f0 == 9) = false := by simpa using k9
          have HNY := Aside0.mk (show ¬ y.f0.f0 = 17 ∧ ¬ (y.f0.f0 = 9 ∧ y.f0.f1.toList = [33]) from ⟨k17, fun h => k9 h.1⟩)
          clear k17 k9
          go_wp2
          go_roundg (V.length - (i + 1))
          case measure => omega
          case rel =>
            refine ⟨i + 1, by omega, by omega, by go_num, HB, HVA, ⟨fun j hj => ?_⟩⟩
            by_cases e : j = i
            · subst e; rw [HY.out]; exact HNY.out
            · exact NO.out j (by omega)
    · have hltz : ¬ (i : Int) < (V.length : Int) := by omega
      have HNO := Aside0.mk (show ∀ x, x ∈ V → ¬ x.f0.f0 = 17 ∧ ¬ (x.f0.f0 = 9 ∧ x.f0.f1.toList = [33]) from fun x hx => by
        obtain ⟨j, hj, rfl⟩ := List.getElem_of_mem hx
        have := NO.out j (by omega)
        have e : rd_T45 V (j : Nat) = V[j] := by simp [rd_T45, List.getD_eq_getElem?_getD, hj]
        rwa [e] at this)
      go_upto_region 10 with (fail)
      clear hltz hvz hlt hg hi NO
      replace HV := Aside0.mk HV.out
      generalize hW3 : wr = W3 at *
      clear hW3
      have HFV := Aside0.mk (Kd.C_F k45_heap HV.out)
      cases imp with
      | false =>
        go_wp2_with (first | ((with_reducible refine gate_dst (N := 57) rfl ?_); refine Kd.N_lit k45 (w0 := W3) W3.heap.size 45 ?hg (N' := 57) ?hd (xs := [tokV 1 name, tokV 16 ⟨#[]⟩]) (inner := [.int .i64 1, .string name, .string ⟨#[]⟩, .bool false, .bool false, .slice none 0 0, .int .i64 16, .string ⟨#[]⟩, .string ⟨#[]⟩, .bool false, .bool false, .slice none 0 0]) (ok := (okN (fun k => k < W3.heap.size) W3)) (okp := fun _ => False) ?hr ?hp (fun _ hk => hk.elim) ?hf (Below.refl _ _) (Nat.le_refl _) (by simp) ?_; (case hd => rfl); (case hg => rfl); (case hr => first | (go_simp; done) | (go_simp; rfl)); (case hp => exact Reps.snoc (Reps.snoc (Reps.none _ _) (tok_FK _ _ _ _) rfl) (tok_FK _ _ _ _) rfl); (case hf => exact .inr (Nat.le_refl _)); intro v57 w57 ho57 hb57 hg57 hat57; have HO57 := Aside0.mk ho57; have HG57 := Aside0.mk hb57; clear ho57 hb57 hg57 hat57) | ((with_reducible refine gate_builtin (b := .append) (xs := #[.tmp 57, .tmp 58]) rfl ?_); at_builtin; refine Kd.N_append_rows k45 (w0 := W3) W3.heap.size rfl (.tmp 57) (.tmp 58) 25 45 (.agg #[(.int .i64 0), (.string ⟨#[]⟩), (.string ⟨#[]⟩), (.bool false), (.bool false), (.slice none 0 0)]) 72 rfl Try.underlying25 info45 rfl (by decide) (by omega) v57 [tokV 1 name, tokV 16 ⟨#[]⟩] V _ _ _ (okN (fun k => k < W3.heap.size) W3) (fun k => k < W3.heap.size) rfl rfl HO57.out (Kd.F_below HFV.out HG57.out) ?ok59 ?fr59 HG57.out HG57.out.size (by have := HVL.out; simp; omega) ?_; (case ok59 => exact fun k hk => ⟨.inl hk, fun e => absurd (Kd.N_base HO57.out k e.symm) (Nat.not_le.2 hk)⟩); (case fr59 => exact fun k hk => .inr (Nat.le_trans HG57.out.size hk)); intro v59 w59 ho59 hb59 hg59 hat59; obtain ⟨A59, c59, hv59⟩ := Kd.N_slice ho59; subst hv59; have HO59 := Aside0.mk ho59; have HG59 := Aside0.mk hb59; clear ho59 hb59 hg59 hat59))
        have HCZ := Aside0.mk (Kd.N_reads' HO59.out)
        have eL : [tokV 1 name, tokV 16 ⟨#[]⟩] ++ V = tokV 1 name :: tokV 16 ⟨#[]⟩ :: (V ++ tailV false) := by simp [tailV]
        rw [eL] at HCZ
        have HBZ := Aside0.mk (below_step HB.out HG59.out)
        have HVZ := Aside0.mk (Kd.C_below HV.out HG59.out)
        clear HO57 HG57 HO59 HG59 HB HV HFV eL
        refine (decls_C A59 c59 _ (tokV 1 name :: tokV 16 ⟨#[]⟩ :: (V ++ tailV false)) _ _ HCZ.out.2.2 HCZ.out.2.1 ?sz ?tx ?ln (imp_decls name V false HVT.out HNO.out)).mono ?_
        case sz => have := HVL.out; simp [tailV]; omega
        case tx => exact imp_texts name V false HNM.out HVC.out
        case ln => simp [tailV]
        rintro e W5 ⟨A11, c11, rfl, hd1, hd2, hb5⟩
        obtain ⟨ad, B, cb, rfl, q0, q1, q2, hcb, hCB⟩ := one47 hd2
        have HBY := Aside0.mk (below_step HBZ.out hb5)
        have HFO := Aside0.mk (fun W (h : Below W5.heap.size W5 W) => fold_step name W5 W HNM.out h)
        have HVY := Aside0.mk (Kd.C_below HVZ.out hb5)
        have HSA := Aside0.mk (fun W (h : Below W5.heap.size W5 W) => same_step B cb V A7 c7 W5 W hCB hcb HVY.out HCV.out h)
        have HLI := Aside0.mk (fun W (h : Below W5.heap.size W5 W) => live_step W5 W h)
        clear HCZ HBZ HVZ HVY hd1 hd2 hb5 hcb hCB HVT HNO HVC HVL HCV
        generalize foldS name = nm at *
        go_wp2_with fail
        go_region_held3 (fun w' => w'.cell? ad = some (.string nm) ∧ w'.cell? ⟨ad.block, ad.off + 1, none⟩ = some (.slice B V.length cb) ∧ w'.cell? ⟨ad.block, ad.off + 2, none⟩ = some (.bool false)) (first | go_keep | exact ⟨pw_cell_below HBX3.out q0, pw_cell_below HBX3.out q1, pw_cell_below HBX3.out q2⟩ | exact ⟨pw_cell_below HBX2.out q0, pw_cell_below HBX2.out q1, pw_cell_below HBX2.out q2⟩ | exact ⟨pw_cell_below HBX1.out q0, pw_cell_below HBX1.out q1, pw_cell_below HBX1.out q2⟩) (first | (go_at_call 26; (with_reducible refine (HFO.out _ (by repeat (first | exact Below.refl _ _ | apply below_drew1 | apply pw_below_drewN))).mono ?_); rintro e w1 ⟨rfl, hbx1⟩; have HBX1 := Aside0.mk hbx1) | (go_at_call 25; (with_reducible refine (HSA.out _ (by repeat (first | exact HBX1.out | apply below_drew1 | apply pw_below_drewN))).mono ?_); rintro e w2 ⟨rfl, hbx2⟩; have HBX2 := Aside0.mk hbx2) | (go_at_call 10; (with_reducible refine (HLI.out _ (by repeat (first | exact HBX2.out | apply below_drew1 | apply pw_below_drewN))).mono ?_); rintro e w3 ⟨rfl, hbx3⟩; have HBX3 := Aside0.mk hbx3))
        go_wp2_with fail
        go_ret
        exact ⟨rfl, below_step HBY.out HBX3.out⟩
      | true =>
        go_wp2_with (first | ((with_reducible refine gate_dst (N := 57) rfl ?_); refine Kd.N_lit k45 (w0 := W3) W3.heap.size 45 ?hg (N' := 57) ?hd (xs := [tokV 1 name, tokV 16 ⟨#[]⟩]) (inner := [.int .i64 1, .string name, .string ⟨#[]⟩, .bool false, .bool false, .slice none 0 0, .int .i64 16, .string ⟨#[]⟩, .string ⟨#[]⟩, .bool false, .bool false, .slice none 0 0]) (ok := (okN (fun k => k < W3.heap.size) W3)) (okp := fun _ => False) ?hr ?hp (fun _ hk => hk.elim) ?hf (Below.refl _ _) (Nat.le_refl _) (by simp) ?_; (case hd => rfl); (case hg => rfl); (case hr => first | (go_simp; done) | (go_simp; rfl)); (case hp => exact Reps.snoc (Reps.snoc (Reps.none _ _) (tok_FK _ _ _ _) rfl) (tok_FK _ _ _ _) rfl); (case hf => exact .inr (Nat.le_refl _)); intro v57 w57 ho57 hb57 hg57 hat57; have HO57 := Aside0.mk ho57; have HG57 := Aside0.mk hb57; clear ho57 hb57 hg57 hat57) | ((with_reducible refine gate_builtin (b := .append) (xs := #[.tmp 57, .tmp 58]) rfl ?_); at_builtin; refine Kd.N_append_rows k45 (w0 := W3) W3.heap.size rfl (.tmp 57) (.tmp 58) 25 45 (.agg #[(.int .i64 0), (.string ⟨#[]⟩), (.string ⟨#[]⟩), (.bool false), (.bool false), (.slice none 0 0)]) 72 rfl Try.underlying25 info45 rfl (by decide) (by omega) v57 [tokV 1 name, tokV 16 ⟨#[]⟩] V _ _ _ (okN (fun k => k < W3.heap.size) W3) (fun k => k < W3.heap.size) rfl rfl HO57.out (Kd.F_below HFV.out HG57.out) ?ok59 ?fr59 HG57.out HG57.out.size (by have := HVL.out; simp; omega) ?_; (case ok59 => exact fun k hk => ⟨.inl hk, fun e => absurd (Kd.N_base HO57.out k e.symm) (Nat.not_le.2 hk)⟩); (case fr59 => exact fun k hk => .inr (Nat.le_trans HG57.out.size hk)); intro v59 w59 ho59 hb59 hg59 hat59; obtain ⟨A59, c59, hv59⟩ := Kd.N_slice ho59; subst hv59; have HO59 := Aside0.mk ho59; have HG59 := Aside0.mk hb59; clear ho59 hb59 hg59 hat59) | ((with_reducible refine gate_dst (N := 66) rfl ?_); refine Kd.N_lit k45 (w0 := w59) w59.heap.size 45 ?hg (N' := 66) ?hd (xs := [tokV 9 bangS, tokV 1 impT]) (inner := [.int .i64 9, .string bangS, .string ⟨#[]⟩, .bool false, .bool false, .slice none 0 0, .int .i64 1, .string impT, .string ⟨#[]⟩, .bool false, .bool false, .slice none 0 0]) (ok := (fun k => w59.heap.size ≤ k)) (okp := fun _ => False) ?hr ?hp (fun _ hk => hk.elim) ?hf (Below.refl _ _) (Nat.le_refl _) (by simp) ?_; (case hd => rfl); (case hg => rfl); (case hr => first | (go_simp; done) | (go_simp; rfl)); (case hp => exact Reps.snoc (Reps.snoc (Reps.none _ _) (tok_FK _ _ _ _) rfl) (tok_FK _ _ _ _) rfl); (case hf => exact Nat.le_refl _); intro v66 w66 ho66 hb66 hg66 hat66; obtain ⟨A66, c66, hv66⟩ := Kd.N_slice ho66; subst hv66; have HO66 := Aside0.mk ho66; have HG66 := Aside0.mk hb66; clear ho66 hb66 hg66 hat66) | ((with_reducible refine gate_builtin (b := .append) (xs := #[.tmp 61, .tmp 66]) rfl ?_); at_builtin; refine Kd.N_append_rows k45 (w0 := W3) W3.heap.size rfl (.tmp 61) (.tmp 66) 25 45 (.agg #[(.int .i64 0), (.string ⟨#[]⟩), (.string ⟨#[]⟩), (.bool false), (.bool false), (.slice none 0 0)]) 72 rfl Try.underlying25 info45 rfl (by decide) (by omega) (.slice A59 ([tokV 1 name, tokV 16 ⟨#[]⟩] ++ V).length c59) ([tokV 1 name, tokV 16 ⟨#[]⟩] ++ V) [tokV 9 bangS, tokV 1 impT] _ _ _ (okN (fun k => k < W3.heap.size) W3) (fun k => w59.heap.size ≤ k) rfl rfl (Kd.N_below HO59.out HG66.out) (Kd.N_F HO66.out) ?ok67 ?fr67 (below_step HG59.out HG66.out) (below_step HG59.out HG66.out).size (by have := HVL.out; simp; omega) ?_; (case ok67 => exact fun k hk => ⟨.inr (Nat.le_trans HG59.out.size hk), fun e => absurd (Kd.N_lt HO59.out k e.symm) (Nat.not_lt.2 hk)⟩); (case fr67 => exact fun k hk => .inr (Nat.le_trans (below_step HG59.out HG66.out).size hk)); intro v67 w67 ho67 hb67 hg67 hat67; obtain ⟨A67, c67, hv67⟩ := Kd.N_slice ho67; subst hv67; have HO67 := Aside0.mk ho67; have HG67 := Aside0.mk hb67; clear ho67 hb67 hg67 hat67))
        have HCZ := Aside0.mk (Kd.N_reads' HO67.out)
        have eL : [tokV 1 name, tokV 16 ⟨#[]⟩] ++ V ++ [tokV 9 bangS, tokV 1 impT] = tokV 1 name :: tokV 16 ⟨#[]⟩ :: (V ++ tailV true) := by simp [tailV]
        rw [eL] at HCZ
        have HBZ := Aside0.mk (below_step HB.out HG67.out)
        have HVZ := Aside0.mk (Kd.C_below HV.out HG67.out)
        clear HO66 HG66 HO67 HG67 HO57 HG57 HO59 HG59 HB HV HFV eL
        refine (decls_C A67 c67 _ (tokV 1 name :: tokV 16 ⟨#[]⟩ :: (V ++ tailV true)) _ _ HCZ.out.2.2 HCZ.out.2.1 ?sz ?tx ?ln (imp_decls name V true HVT.out HNO.out)).mono ?_
        case sz => have := HVL.out; simp [tailV]; omega
        case tx => exact imp_texts name V true HNM.out HVC.out
        case ln => simp [tailV]
        rintro e W5 ⟨A11, c11, rfl, hd1, hd2, hb5⟩
        obtain ⟨ad, B, cb, rfl, q0, q1, q2, hcb, hCB⟩ := one47 hd2
        have HBY := Aside0.mk (below_step HBZ.out hb5)
        have HFO := Aside0.mk (fun W (h : Below W5.heap.size W5 W) => fold_step name W5 W HNM.out h)
        have HVY := Aside0.mk (Kd.C_below HVZ.out hb5)
        have HSA := Aside0.mk (fun W (h : Below W5.heap.size W5 W) => same_step B cb V A7 c7 W5 W hCB hcb HVY.out HCV.out h)
        have HLI := Aside0.mk (fun W (h : Below W5.heap.size W5 W) => live_step W5 W h)
        clear HCZ HBZ HVZ HVY hd1 hd2 hb5 hcb hCB HVT HNO HVC HVL HCV
        generalize foldS name = nm at *
        go_wp2_with fail
        go_region_held3 (fun w' => w'.cell? ad = some (.string nm) ∧ w'.cell? ⟨ad.block, ad.off + 1, none⟩ = some (.slice B V.length cb) ∧ w'.cell? ⟨ad.block, ad.off + 2, none⟩ = some (.bool true)) (first | go_keep | exact ⟨pw_cell_below HBX3.out q0, pw_cell_below HBX3.out q1, pw_cell_below HBX3.out q2⟩ | exact ⟨pw_cell_below HBX2.out q0, pw_cell_below HBX2.out q1, pw_cell_below HBX2.out q2⟩ | exact ⟨pw_cell_below HBX1.out q0, pw_cell_below HBX1.out q1, pw_cell_below HBX1.out q2⟩) (first | (go_at_call 26; (with_reducible refine (HFO.out _ (by repeat (first | exact Below.refl _ _ | apply below_drew1 | apply pw_below_drewN))).mono ?_); rintro e w1 ⟨rfl, hbx1⟩; have HBX1 := Aside0.mk hbx1) | (go_at_call 25; (with_reducible refine (HSA.out _ (by repeat (first | exact HBX1.out | apply below_drew1 | apply pw_below_drewN))).mono ?_); rintro e w2 ⟨rfl, hbx2⟩; have HBX2 := Aside0.mk hbx2) | (go_at_call 10; (with_reducible refine (HLI.out _ (by repeat (first | exact HBX2.out | apply below_drew1 | apply pw_below_drewN))).mono ?_); rintro e w3 ⟨rfl, hbx3⟩; have HBX3 := Aside0.mk hbx3))
        go_wp2_with fail
        go_ret
        exact ⟨rfl, below_step HBY.out HBX3.out⟩
def gouachelaw03_ParseImportant.f (_ : Nat) (name : ByteArray) (l : List S43) (_ : Bool) : Option Bool := if name.size ≤ 140737488351232 ∧ (l.all fun p => decide (p.f1.size ≤ 140737488351232)) = true then some true else none
theorem gouachelaw03_ParseImportant.calls (k : Nat) (name : ByteArray) (A1 : Option Addr) (c1 : Nat) (l : List S43) (imp : Bool) (r : Bool) (w : World) (hl : Kd.C k43 w A1 l.length l) (hc1 : l.length ≤ c1) (h : gouachelaw03_ParseImportant.f k name l imp = some r) :
    Calls Try.prog 7 #[.string name, .slice A1 l.length c1, .bool imp] w fun e w' => e = .returned (.bool r) ∧ Below w.heap.size w w' := by
  unfold gouachelaw03_ParseImportant.f at h
  split at h
  · rename_i hb
    obtain rfl := Option.some.inj h
    exact pimp_calls name A1 c1 l imp w hl hc1 hb.1 (fun p hp => of_decide_eq_true (List.all_eq_true.1 hb.2 p hp))
  · cases h
theorem pure_ParseImportant (name : ByteArray) (l : List S43) (imp : Bool) (hn : name.size ≤ 140737488351232) (ht : ∀ p, p ∈ l → p.f1.size ≤ 140737488351232) : ∃ k, gouachelaw03_ParseImportant.f k name l imp = some true :=
  ⟨0, by unfold gouachelaw03_ParseImportant.f; rw [if_pos ⟨hn, List.all_eq_true.2 (fun p hp => decide_eq_true (ht p hp))⟩]⟩
end Go.Proofs.Ythaaajpmiofodaa.P
end
