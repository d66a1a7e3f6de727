/- The law TokenSpaces (layer 2): the row and its tied card: for every input the law returns true, and the arguments read behind the call as they read before. No condition of ours. -/
import Derived.Test.YtpnlbmeeihbjaabDoorZSP13
import Derived.Lib.MapLaws
section
set_option linter.unusedVariables false
set_option linter.unusedSimpArgs false
namespace Go.Proofs.YtpnlbmeeihbjaabDoor.P
open Go.RowKit Go.Proofs.YtpnlbmeeihbjaabDoorW.PrintWords Go.Proofs.YtpnlbmeeihbjaabDoorW.PrintLast Go.Proofs.YtpnlbmeeihbjaabDoorW.PrintMore
open Go.Lib
attribute [local go_sem] max2_int min2_int max_two min_two max_three min_three max_four min_four
set_option linter.unusedVariables false
set_option linter.unusedSimpArgs false
def dcl (l : List UInt8) : Nat × Nat := Lib.decodeL l
theorem dec_drop (S : ByteArray) (i : Nat) : Utf8.decode S i = dcl (S.data.toList.drop i) := (Lib.decodeL_drop S i).symm
theorem dcl_N (l : List UInt8) : dcl l = Lib.decodeN l.length (l.getD 0 0).toNat (l.getD 1 0).toNat (l.getD 2 0).toNat (l.getD 3 0).toNat := Lib.decodeL_N l
theorem dcl_ascii {a : UInt8} {t : List UInt8} (h : a.toNat < 128) : dcl (a :: t) = (a.toNat, 1) := by
  rw [dcl_N]
  unfold Lib.decodeN
  rw [show (a :: t).getD 0 0 = a from rfl, if_pos h]
theorem dcl_head {a : UInt8} {t : List UInt8} (h : (dcl (a :: t)).1 < 128) : a.toNat = (dcl (a :: t)).1 := by
  rw [dcl_N] at h ⊢
  rw [show (a :: t).getD 0 0 = a from rfl] at h ⊢
  rcases Lib.decodeN_shape (a :: t).length a.toNat ((a :: t).getD 1 0).toNat ((a :: t).getD 2 0).toNat ((a :: t).getD 3 0).toNat with ⟨c, e⟩ | ⟨c1, c2, c3, cv, e⟩ | ⟨c1, c2, c3, c4, cv, cs, e⟩ | ⟨c1, c2, c3, c4, c5, cv, cw, e⟩ | e
  all_goals rw [e] at h ⊢
  all_goals simp only at h ⊢
  all_goals omega
theorem dcl_width {a : UInt8} {t : List UInt8} : 1 ≤ (dcl (a :: t)).2 ∧ (dcl (a :: t)).2 ≤ (a :: t).length := by
  rw [dcl_N]
  have hl : 1 ≤ (a :: t).length := by simp
  rcases Lib.decodeN_shape (a :: t).length ((a :: t).getD 0 0).toNat ((a :: t).getD 1 0).toNat ((a :: t).getD 2 0).toNat ((a :: t).getD 3 0).toNat with ⟨c, e⟩ | ⟨c1, c2, c3, cv, e⟩ | ⟨c1, c2, c3, c4, cv, cs, e⟩ | ⟨c1, c2, c3, c4, c5, cv, cw, e⟩ | e
  all_goals rw [e]
  all_goals simp only
  all_goals omega
def chr (c : Int) : Int := if c = 13 ∨ c = 12 then 10 else if c = 0 then 65533 else c
def runB : Nat → List UInt8 → Int → List Int
  | 0, _, _ => []
  | _ + 1, [], _ => []
  | k + 1, a :: t, was => (if ((dcl (a :: t)).1 : Int) = 10 ∧ was = 13 then [] else [chr (dcl (a :: t)).1]) ++ runB k ((a :: t).drop (dcl (a :: t)).2) (dcl (a :: t)).1
theorem runL_B (S : ByteArray) : ∀ (k pos : Nat) (was : Int), runL S k pos was = runB k (S.data.toList.drop pos) was
  | 0, _, _ => rfl
  | k + 1, pos, was => by
    have hl : S.size = S.data.toList.length := rfl
    by_cases hp : pos < S.size
    · have hd := dec_drop S pos
      obtain ⟨a, t, hat⟩ : ∃ a t, S.data.toList.drop pos = a :: t := ⟨_, _, List.drop_eq_getElem_cons (by omega)⟩
      unfold runL
      rw [if_pos hp, hd, runL_B S k, ← List.drop_drop, hat]
      rfl
    · unfold runL
      rw [if_neg hp, List.drop_eq_nil_of_le (by omega)]
      rfl
theorem runB_fuel : ∀ (k m : Nat) (l : List UInt8) (was : Int), l.length ≤ k → l.length ≤ m → runB k l was = runB m l was
  | 0, 0, _, _, _, _ => rfl
  | 0, m + 1, l, _, h, _ => by
    obtain rfl := List.eq_nil_of_length_eq_zero (by omega : l.length = 0)
    rfl
  | k + 1, 0, l, _, _, h => by
    obtain rfl := List.eq_nil_of_length_eq_zero (by omega : l.length = 0)
    rfl
  | k + 1, m + 1, [], _, _, _ => rfl
  | k + 1, m + 1, a :: t, was, h1, h2 => by
    have hw := dcl_width (a := a) (t := t)
    have hd : ((a :: t).drop (dcl (a :: t)).2).length = (a :: t).length - (dcl (a :: t)).2 := List.length_drop
    unfold runB
    rw [runB_fuel k m _ _ (by omega) (by omega)]
def runN (l : List UInt8) (was : Int) : List Int := runB l.length l was
theorem runS_N (S : ByteArray) : runS S = runN S.data.toList 0 := by
  have hl : S.size = S.data.toList.length := rfl
  unfold runS runN
  rw [runL_B, List.drop_zero]
  exact runB_fuel _ _ _ _ (by omega) (Nat.le_refl _)
theorem runN_cons (a : UInt8) (t : List UInt8) (was : Int) : runN (a :: t) was = (if ((dcl (a :: t)).1 : Int) = 10 ∧ was = 13 then [] else [chr (dcl (a :: t)).1]) ++ runN ((a :: t).drop (dcl (a :: t)).2) (dcl (a :: t)).1 := by
  have hw := dcl_width (a := a) (t := t)
  have hd : ((a :: t).drop (dcl (a :: t)).2).length = (a :: t).length - (dcl (a :: t)).2 := List.length_drop
  unfold runN
  rw [List.length_cons, runB, runB_fuel t.length _ _ _ (by rw [List.length_cons] at hd; omega) (Nat.le_refl _)]
theorem runN_ascii {a : UInt8} (h : a.toNat < 128) (t : List UInt8) (was : Int) : runN (a :: t) was = (if (a.toNat : Int) = 10 ∧ was = 13 then [] else [chr a.toNat]) ++ runN t a.toNat := by
  rw [runN_cons, dcl_ascii h]
  rfl
theorem runN_was (l : List UInt8) {v w : Int} (hv : v ≠ 13) (hw : w ≠ 13) : runN l v = runN l w := by
  cases l with
  | nil => rfl
  | cons a t => rw [runN_cons, runN_cons, if_neg (fun h => hv h.2), if_neg (fun h => hw h.2)]
theorem runB_mem {x : Int} (h0 : 0 < x) (h1 : x < 128) (h2 : x ≠ 10) : ∀ (k : Nat) (l : List UInt8) (was : Int), x ∈ runB k l was → ∃ b ∈ l, (b.toNat : Int) = x
  | 0, _, _, h => by cases h
  | k + 1, [], _, h => by cases h
  | k + 1, a :: t, was, h => by
    unfold runB at h
    rcases List.mem_append.1 h with h | h
    · split at h
      · cases h
      · simp only [List.mem_singleton] at h
        unfold chr at h
        split at h
        · exact absurd h h2
        · split at h
          · omega
          · have := dcl_head (a := a) (t := t) (by omega)
            exact ⟨a, List.mem_cons_self, by omega⟩
    · obtain ⟨b, hb, e⟩ := runB_mem h0 h1 h2 k _ _ h
      exact ⟨b, List.drop_subset _ _ hb, e⟩
theorem runN_mem {x : Int} (h0 : 0 < x) (h1 : x < 128) (h2 : x ≠ 10) {l : List UInt8} {was : Int} (h : x ∈ runN l was) : ∃ b ∈ l, (b.toNat : Int) = x := runB_mem h0 h1 h2 _ _ _ h
end Go.Proofs.YtpnlbmeeihbjaabDoor.P
end
section
set_option linter.unusedVariables false
set_option linter.unusedSimpArgs false
namespace Go.Proofs.YtpnlbmeeihbjaabDoor.P
open Go.RowKit Go.Proofs.YtpnlbmeeihbjaabDoorW.PrintWords Go.Proofs.YtpnlbmeeihbjaabDoorW.PrintLast Go.Proofs.YtpnlbmeeihbjaabDoorW.PrintMore
open Go.Lib
attribute [local go_sem] max2_int min2_int max_two min_two max_three min_three max_four min_four
set_option linter.unusedVariables false
set_option linter.unusedSimpArgs false
theorem one_kind {s : List Int} (h : wayN s ≠ 64) : (oneK s).1.f0 ≠ 13 := by
  rcases wayN_cases s with e | e | e | e | e | e | e | e | e
  · exact absurd e h
  all_goals unfold oneK
  all_goals simp only [e]
  all_goals simp only [reduceIte, Nat.reduceEqDiff]
  · unfold quotK kd kt; split <;> simp
  · simp
  · unfold numK; repeat' split
    all_goals simp
  · unfold kd; simp
  · unfold kd; simp
  · unfold wordK urlK kd kt; repeat' split
    all_goals simp
  · unfold kt; simp
  · unfold signK kd kt; split
    · simp only; omega
    · simp
theorem one_space {s : List Int} (h : wayN s = 64) : oneK s = (kd 13, s.dropWhile blankB) := by unfold oneK; rw [if_pos h]
theorem way_no_blank {s : List Int} (h : blankB (pk s 0) = false) : wayN s ≠ 64 := fun e => by
  have := way_blank e
  rw [h] at this; cases this
theorem quotL_suf (q : Int) : ∀ (n : Nat) (s : List Int), (quotL q n s).2.2 <:+ s
  | 0, s => List.suffix_rfl
  | n + 1, [] => List.suffix_rfl
  | n + 1, c :: t => by
    have h1 := quotL_suf q n t
    have h2 := quotL_suf q n (escd (c :: t)).2
    have h3 := quotL_suf q n (t.drop 1)
    have h4 := escd_suf c t
    have h5 : t <:+ c :: t := List.suffix_cons c t
    unfold quotL
    split
    · exact h5
    · split
      · exact List.suffix_rfl
      · split
        · exact (h2.trans h4).trans h5
        · split
          · exact (h3.trans (List.drop_suffix _ _)).trans h5
          · exact h1.trans h5
theorem badL_suf : ∀ (n : Nat) (s : List Int), badL n s <:+ s
  | 0, s => List.suffix_rfl
  | n + 1, [] => List.suffix_rfl
  | n + 1, c :: t => by
    have h1 := badL_suf n t
    have h2 := badL_suf n (escd (c :: t)).2
    have h4 := escd_suf c t
    have h5 : t <:+ c :: t := List.suffix_cons c t
    unfold badL
    split
    · exact (h2.trans h4).trans h5
    · split
      · exact h5
      · exact h1.trans h5
theorem urlL_suf : ∀ (n : Nat) (s : List Int), (urlL n s).2.2 <:+ s
  | 0, s => List.suffix_rfl
  | n + 1, [] => List.suffix_rfl
  | n + 1, c :: t => by
    have h1 := urlL_suf n t
    have h2 := urlL_suf n (escd (c :: t)).2
    have h3 := urlL_suf n (t.dropWhile blankB)
    have h4 := escd_suf c t
    have h5 : t <:+ c :: t := List.suffix_cons c t
    have h6 : t.dropWhile blankB <:+ t := List.dropWhile_suffix _
    unfold urlL badS
    split
    · exact h5
    · split
      · split
        · exact ((badL_suf _ _).trans h6).trans h5
        · exact (h3.trans h6).trans h5
      · split
        · exact (h2.trans h4).trans h5
        · split
          · exact badL_suf _ _
          · exact h1.trans h5
theorem urlR_suf (s : List Int) : urlR s <:+ s := (urlL_suf _ _).trans (List.dropWhile_suffix _)
theorem numR_suf (s : List Int) : numR s <:+ s := by
  refine List.IsSuffix.trans ?_ (numD_suf s)
  unfold numR
  split
  · exact nameS_suf _
  · split
    · exact List.tail_suffix _
    · exact List.suffix_rfl
theorem wordR_suf (s : List Int) : wordR s <:+ s := by
  refine List.IsSuffix.trans ?_ (nameS_suf s)
  unfold wordR
  split
  · exact List.suffix_rfl
  · split
    · exact (urlR_suf _).trans (List.tail_suffix _)
    · exact List.tail_suffix _
theorem oneK_suf (s : List Int) : (oneK s).2 <:+ s := by
  rcases wayN_cases s with e | e | e | e | e | e | e | e | e
  all_goals unfold oneK
  all_goals simp only [e]
  all_goals simp only [reduceIte, Nat.reduceEqDiff]
  · exact List.dropWhile_suffix _
  · exact (quotL_suf _ _ _).trans (List.tail_suffix _)
  · exact (nameS_suf _).trans (List.tail_suffix _)
  · exact numR_suf s
  · exact List.drop_suffix _ _
  · exact List.drop_suffix _ _
  · exact wordR_suf s
  · exact (nameS_suf _).trans (List.tail_suffix _)
  · exact List.tail_suffix _
theorem com_no {c : Int} {t : List Int} (h : 47 ∉ c :: t) : comB (c :: t) = false := by
  unfold comB
  have : c ≠ 47 := fun e => h (e ▸ List.mem_cons_self)
  rw [show pk (c :: t) 0 = c from rfl]
  simp [this]
theorem toksS_nil : toksS [] = [] := rfl
theorem toksS_one {c : Int} {t : List Int} (h : 47 ∉ c :: t) : toksS (c :: t) = (oneK (c :: t)).1 :: toksS (oneK (c :: t)).2 := by
  rw [toksS_unf, if_neg (by rw [com_no h]; simp)]
theorem first_kind {r : List Int} (h47 : 47 ∉ r) (hb : ∀ d u, r = d :: u → blankB d = false) (h : 0 < (toksS r).length) : (toksS r)[0].f0 ≠ 13 := by
  cases r with
  | nil => rw [toksS_nil] at h; cases h
  | cons d u =>
    simp only [toksS_one h47, List.getElem_cons_zero]
    exact one_kind (way_no_blank (hb d u rfl))
theorem no_adj : ∀ (n : Nat) (s : List Int), s.length ≤ n → 47 ∉ s → ∀ (i : Nat) (h : i + 1 < (toksS s).length), ¬ ((toksS s)[i].f0 = 13 ∧ (toksS s)[i + 1].f0 = 13)
  | n, [], _, _, i, h => by rw [toksS_nil] at h; cases h
  | 0, c :: t, hn, _, _, _ => by cases hn
  | n + 1, c :: t, hn, hc, i, h => by
    have hlt := oneK_lt c t
    have hs := oneK_suf (c :: t)
    have hc2 : 47 ∉ (oneK (c :: t)).2 := fun hm => hc (hs.subset hm)
    have ih := no_adj n (oneK (c :: t)).2 (by rw [List.length_cons] at hn; omega) hc2
    have he := toksS_one hc
    simp only [he] at h ⊢
    cases i with
    | succ i =>
      simp only [List.getElem_cons_succ]
      exact ih i (by simpa using h)
    | zero =>
      simp only [List.getElem_cons_succ, List.getElem_cons_zero]
      rintro ⟨h1, h2⟩
      have hw : wayN (c :: t) = 64 := by
        apply Decidable.byContradiction
        exact fun hw => one_kind hw h1
      have e2 : (oneK (c :: t)).2 = (c :: t).dropWhile blankB := by rw [one_space hw]
      refine first_kind hc2 (fun d u e => ?_) (by simpa using h) h2
      have := List.head?_dropWhile_not blankB (c :: t)
      rw [← e2, e] at this
      simpa using this
theorem way_open (L : List Int) : wayN (40 :: L) = 75 := by
  unfold wayN
  have h0 : pk (40 :: L) 0 = 40 := rfl
  have hc : cntB (40 :: L) = false := by unfold cntB; rw [h0]; rfl
  have hd : cdcB (40 :: L) = false := by unfold cdcB; rw [h0]; rfl
  have he : cdoB (40 :: L) = false := by unfold cdoB; rw [h0]; rfl
  have hb : begB (40 :: L) 0 = false := by unfold begB escB; rw [h0]; rfl
  rw [h0, hc, hd, he, hb]
  rfl
theorem toks_open (L : List Int) : toksS (40 :: L) = kd 21 :: toksS L := by
  rw [toksS_unf, if_neg (by unfold comB; rw [show pk (40 :: L) 0 = 40 from rfl]; simp)]
  have h := way_open L
  have e : oneK (40 :: L) = (kd 21, L) := by
    unfold oneK
    simp only [h]
    simp only [reduceIte, Nat.reduceEqDiff]
    rw [show pk (40 :: L) 0 = 40 from rfl, List.tail_cons, show signK 40 = kd 21 by unfold signK; rw [show sgn 40 = 5 by decide]; rfl]
  rw [e]
end Go.Proofs.YtpnlbmeeihbjaabDoor.P
end
section
set_option linter.unusedVariables false
set_option linter.unusedSimpArgs false
namespace Go.Proofs.YtpnlbmeeihbjaabDoor.P
open Go.RowKit Go.Proofs.YtpnlbmeeihbjaabDoorW.PrintWords Go.Proofs.YtpnlbmeeihbjaabDoorW.PrintLast Go.Proofs.YtpnlbmeeihbjaabDoorW.PrintMore
open Go.Lib
attribute [local go_sem] max2_int min2_int max_two min_two max_three min_three max_four min_four
set_option linter.unusedVariables false
set_option linter.unusedSimpArgs false
theorem lives_true : gouachelaw02_lives.f = some true := by decide +kernel
theorem blanks_one : (cutS ⟨#[32, 9, 10, 32]⟩).length = 1 := by decide +kernel
theorem blanks_int : ((cutS ⟨#[32, 9, 10, 32]⟩).length : Int) = 1 := by rw [blanks_one]; rfl
theorem cut_blanks : gouachelaw02_cut.f ⟨#[32, 9, 10, 32]⟩ = some (cutS ⟨#[32, 9, 10, 32]⟩) := if_pos (show 4 < 1099511627776 by omega)
theorem w64s {x : Int} (h0 : -9223372036854775808 ≤ x) (h1 : x ≤ 9223372036854775807) : wrap64 x = x := w64 ⟨h0, h1⟩
theorem rd26_at (l : List S26) (i : Nat) (h : i < l.length) : rd_T26 l (i : Int) = l[i] := by
  unfold rd_T26
  simp [List.getD_eq_getElem?_getD, h]
theorem same_loop (l : List S26) (hl : l.length ≤ 1099511627776) : ∀ (m i k : Nat), i + m = l.length → m < k → gouacheref02_Same.l0 k l l l.length i = some true
  | m, i, 0, _, hk => by cases hk
  | 0, i, k + 1, hi, _ => by
    unfold gouacheref02_Same.l0
    rw [if_neg (by omega)]
  | m + 1, i, k + 1, hi, hk => by
    unfold gouacheref02_Same.l0
    rw [if_pos (by omega), if_pos (by omega), if_pos (by omega), if_pos (by omega), if_neg (by simp)]
    rw [w64s (by omega) (by omega), show (i : Int) + 1 = ((i + 1 : Nat) : Int) by omega]
    exact same_loop l hl m (i + 1) k (by omega) (by omega)
theorem same_self (l : List S26) (hl : l.length ≤ 1099511627776) (k : Nat) (hk : l.length < k) : gouacheref02_Same.f k l l = some true := by
  unfold gouacheref02_Same.f
  rw [if_pos rfl]
  exact same_loop l hl l.length 0 k (by omega) hk
theorem toksL_len : ∀ (n : Nat) (s : List Int), (toksL n s).length ≤ n
  | 0, _ => Nat.le_refl _
  | n + 1, [] => Nat.zero_le _
  | n + 1, c :: t => by
    unfold toksL
    split
    · exact Nat.le_succ_of_le (toksL_len n _)
    · rw [List.length_cons]
      exact Nat.succ_le_succ (toksL_len n _)
theorem cutS_len (S : ByteArray) : (cutS S).length ≤ S.size + 1 := by
  have h1 := toksL_len (runS S).length (runS S)
  have h2 := runL_len S (S.size + 1) 0 0
  unfold cutS toksS
  unfold runS at h1 h2 ⊢
  omega
theorem cut_f (S : ByteArray) (h : S.size < 1099511627776) : gouachelaw02_cut.f S = some (cutS S) := by unfold gouachelaw02_cut.f; rw [if_pos h]
theorem open_cut (S : ByteArray) : cutS ((⟨#[40]⟩ : ByteArray) ++ S) = kd 21 :: cutS S := by
  unfold cutS
  rw [runS_N, runS_N, show ((⟨#[40]⟩ : ByteArray) ++ S).data.toList = 40 :: S.data.toList by simp]
  rw [runN_ascii (by decide), if_neg (fun h => absurd h.2 (by decide)), runN_was _ (w := 0) (by decide) (by decide)]
  exact toks_open _
theorem size_open (S : ByteArray) : ((⟨#[40]⟩ : ByteArray) ++ S).size = 1 + S.size := by simp; rfl
theorem spaces_l1 (S : ByteArray) (hS : S.size ≤ 2000) (h47 : 47 ∉ runS S) : ∀ (m i k : Nat), 1 ≤ i → (cutS S).length ≤ i + m → m + (cutS S).length + 1 < k → gouachelaw02_TokenSpaces.l1 k S (cutS S) i = some true
  | m, i, 0, _, _, hk => by cases hk
  | m, i, k + 1, h1, hi, hk => by
    have hl := cutS_len S
    unfold gouachelaw02_TokenSpaces.l1
    by_cases hc : i < (cutS S).length
    · rw [if_pos (by omega), if_pos (by omega)]
      obtain ⟨m, rfl⟩ : ∃ n, m = n + 1 := ⟨m - 1, by omega⟩
      have hn : gouachelaw02_TokenSpaces.l1 k S (cutS S) (wrap64 ((i : Int) + 1)) = some true := by
        rw [w64s (by omega) (by omega), show (i : Int) + 1 = ((i + 1 : Nat) : Int) by omega]
        exact spaces_l1 S hS h47 m (i + 1) k (by omega) (by omega) (by omega)
      by_cases h13 : (rd_T26 (cutS S) i).f0 = 13
      · rw [if_pos h13, w64s (x := (i : Int) - 1) (by omega) (by omega), if_pos (by omega), if_pos (by omega), if_neg, hn]
        intro h13'
        obtain ⟨j, rfl⟩ : ∃ j, i = j + 1 := ⟨i - 1, by omega⟩
        rw [show ((j + 1 : Nat) : Int) - 1 = ((j : Nat) : Int) by omega, rd26_at _ _ (by omega)] at h13'
        rw [rd26_at _ _ hc] at h13
        exact no_adj _ _ (Nat.le_refl _) h47 j hc ⟨h13', h13⟩
      · rw [if_neg h13, hn]
    · rw [if_neg (by omega), if_pos (by omega), cut_f _ (by rw [size_open]; omega), open_cut]
      rw [Option.bind_some]
      rw [if_pos (by rw [List.length_cons, w64s (by omega) (by omega)]; omega), if_pos (by rw [List.length_cons]; omega), if_pos (show (rd_T26 (kd 21 :: cutS S) 0).f0 = 21 from rfl), if_pos (by rw [List.length_cons]; omega)]
      rw [List.drop_one, List.tail_cons, same_self _ (by omega) k (by omega)]
      rw [Option.bind_some]
      rw [if_pos rfl, cut_blanks]
      rw [Option.bind_some]
      rw [if_pos blanks_int, lives_true]
      exact Option.bind_some _ _
theorem bt_data (S : ByteArray) (i : Nat) (h : i < S.size) : bt S (i : Int) = ((S.data.toList[i]'h).toNat : Int) := by
  rw [← bt_at S (i : Int) h, Array.getElem_toList]
  rfl
theorem spaces_l0 (S : ByteArray) (hS : S.size ≤ 2000) : ∀ (m i k : Nat), i + m = S.size → (∀ j (h : j < S.data.toList.length), j < i → (S.data.toList[j]).toNat ≠ 47) → m + 2 * (cutS S).length + 2 < k → gouachelaw02_TokenSpaces.l0 k S i = some true
  | m, i, 0, _, _, hk => by cases hk
  | 0, i, k + 1, hi, hb, hk => by
    unfold gouachelaw02_TokenSpaces.l0
    rw [if_neg (by omega), cut_f _ (by omega)]
    rw [Option.bind_some]
    have h47 : 47 ∉ runS S := fun hm => by
      rw [runS_N] at hm
      obtain ⟨b, hb1, hb2⟩ := runN_mem (by decide) (by decide) (by decide) hm
      obtain ⟨j, hj, rfl⟩ := List.mem_iff_getElem.1 hb1
      refine hb j hj ?_ (by omega)
      have : S.data.toList.length = S.size := rfl
      omega
    exact spaces_l1 S hS h47 (cutS S).length 1 k (by omega) (by omega) (by omega)
  | m + 1, i, k + 1, hi, hb, hk => by
    unfold gouachelaw02_TokenSpaces.l0
    rw [if_pos (by omega), if_pos (by omega)]
    by_cases h : bt S i = 47
    · rw [if_pos h, lives_true]
      rfl
    · rw [if_neg h, w64s (by omega) (by omega), show (i : Int) + 1 = ((i + 1 : Nat) : Int) by omega]
      refine spaces_l0 S hS m (i + 1) k (by omega) (fun j hj hji => ?_) (by omega)
      rcases Nat.lt_or_ge j i with h' | h'
      · exact hb j hj h'
      · obtain rfl : j = i := by omega
        rw [bt_data S j (by omega)] at h
        intro e
        apply h
        rw [e]
        rfl
theorem spaces_true (S : ByteArray) : ∃ k, gouachelaw02_TokenSpaces.f k S = some true := by
  by_cases h : (S.size : Int) > 2000
  · refine ⟨0, ?_⟩
    unfold gouachelaw02_TokenSpaces.f
    rw [if_pos h, lives_true]
    rfl
  · refine ⟨S.size + 2 * (cutS S).length + 3, ?_⟩
    unfold gouachelaw02_TokenSpaces.f
    rw [if_neg h]
    exact spaces_l0 S (by omega) S.size 0 _ (by omega) (fun j _ h => absurd h (Nat.not_lt_zero j)) (by omega)
end Go.Proofs.YtpnlbmeeihbjaabDoor.P
end
