/- The law TokenJoins (layer 2): the row and its tied card: for every input the law returns true, and the arguments read behind the call as they read before. No condition of ours. -/
import Derived.Test.YtpnlbmeeihbjaabDoorZJN7
import Derived.Test.YtpnlbmeeihbjaabDoorZJN11
import Derived.Test.YtpnlbmeeihbjaabDoorZJN13
import Derived.Lib.MapLaws
section
set_option linter.unusedVariables false
set_option linter.unusedSimpArgs false
namespace Go.Proofs.YtpnlbmeeihbjaabDoor.P
open Go.RowKit Go.Proofs.YtpnlbmeeihbjaabDoorW.PrintWords Go.Proofs.YtpnlbmeeihbjaabDoorW.PrintLast Go.Proofs.YtpnlbmeeihbjaabDoorW.PrintMore
open Go.Lib
attribute [local go_sem] max2_int min2_int max_two min_two max_three min_three max_four min_four
set_option linter.unusedVariables false
set_option linter.unusedSimpArgs false
def dcl (l : List UInt8) : Nat × Nat := Lib.decodeL l
theorem dec_drop (S : ByteArray) (i : Nat) : Utf8.decode S i = dcl (S.data.toList.drop i) := (Lib.decodeL_drop S i).symm
theorem dcl_N (l : List UInt8) : dcl l = Lib.decodeN l.length (l.getD 0 0).toNat (l.getD 1 0).toNat (l.getD 2 0).toNat (l.getD 3 0).toNat := Lib.decodeL_N l
theorem dcl_ascii {a : UInt8} {t : List UInt8} (h : a.toNat < 128) : dcl (a :: t) = (a.toNat, 1) := by
  rw [dcl_N]
  unfold Lib.decodeN
  rw [show (a :: t).getD 0 0 = a from rfl, if_pos h]
theorem dcl_head {a : UInt8} {t : List UInt8} (h : (dcl (a :: t)).1 < 128) : a.toNat = (dcl (a :: t)).1 := by
  rw [dcl_N] at h ⊢
  rw [show (a :: t).getD 0 0 = a from rfl] at h ⊢
  rcases Lib.decodeN_shape (a :: t).length a.toNat ((a :: t).getD 1 0).toNat ((a :: t).getD 2 0).toNat ((a :: t).getD 3 0).toNat with ⟨c, e⟩ | ⟨c1, c2, c3, cv, e⟩ | ⟨c1, c2, c3, c4, cv, cs, e⟩ | ⟨c1, c2, c3, c4, c5, cv, cw, e⟩ | e
  all_goals rw [e] at h ⊢
  all_goals simp only at h ⊢
  all_goals omega
theorem dcl_width {a : UInt8} {t : List UInt8} : 1 ≤ (dcl (a :: t)).2 ∧ (dcl (a :: t)).2 ≤ (a :: t).length := by
  rw [dcl_N]
  have hl : 1 ≤ (a :: t).length := by simp
  rcases Lib.decodeN_shape (a :: t).length ((a :: t).getD 0 0).toNat ((a :: t).getD 1 0).toNat ((a :: t).getD 2 0).toNat ((a :: t).getD 3 0).toNat with ⟨c, e⟩ | ⟨c1, c2, c3, cv, e⟩ | ⟨c1, c2, c3, c4, cv, cs, e⟩ | ⟨c1, c2, c3, c4, c5, cv, cw, e⟩ | e
  all_goals rw [e]
  all_goals simp only
  all_goals omega
theorem dcl_stop {l : List UInt8} (hl : l ≠ []) {b : UInt8} (hb : b.toNat < 128) (r : List UInt8) : dcl (l ++ b :: r) = dcl l := by
  have h64 : ¬ b.toNat / 64 = 2 := by omega
  rw [dcl_N, dcl_N]
  match l, hl with
  | [a], _ => simp [Lib.decodeN, h64, List.getD]
  | [a, c], _ => simp [Lib.decodeN, h64, List.getD]
  | [a, c, d], _ => simp [Lib.decodeN, h64, List.getD]
  | a :: c :: d :: e :: t, _ => simp [Lib.decodeN, List.getD]
def chr (c : Int) : Int := if c = 13 ∨ c = 12 then 10 else if c = 0 then 65533 else c
def runB : Nat → List UInt8 → Int → List Int
  | 0, _, _ => []
  | _ + 1, [], _ => []
  | k + 1, a :: t, was => (if ((dcl (a :: t)).1 : Int) = 10 ∧ was = 13 then [] else [chr (dcl (a :: t)).1]) ++ runB k ((a :: t).drop (dcl (a :: t)).2) (dcl (a :: t)).1
theorem runL_B (S : ByteArray) : ∀ (k pos : Nat) (was : Int), runL S k pos was = runB k (S.data.toList.drop pos) was
  | 0, _, _ => rfl
  | k + 1, pos, was => by
    have hl : S.size = S.data.toList.length := rfl
    by_cases hp : pos < S.size
    · have hd := dec_drop S pos
      obtain ⟨a, t, hat⟩ : ∃ a t, S.data.toList.drop pos = a :: t := ⟨_, _, List.drop_eq_getElem_cons (by omega)⟩
      unfold runL
      rw [if_pos hp, hd, runL_B S k, ← List.drop_drop, hat]
      rfl
    · unfold runL
      rw [if_neg hp, List.drop_eq_nil_of_le (by omega)]
      rfl
theorem runB_fuel : ∀ (k m : Nat) (l : List UInt8) (was : Int), l.length ≤ k → l.length ≤ m → runB k l was = runB m l was
  | 0, 0, _, _, _, _ => rfl
  | 0, m + 1, l, _, h, _ => by
    obtain rfl := List.eq_nil_of_length_eq_zero (by omega : l.length = 0)
    rfl
  | k + 1, 0, l, _, _, h => by
    obtain rfl := List.eq_nil_of_length_eq_zero (by omega : l.length = 0)
    rfl
  | k + 1, m + 1, [], _, _, _ => rfl
  | k + 1, m + 1, a :: t, was, h1, h2 => by
    have hw := dcl_width (a := a) (t := t)
    have hd : ((a :: t).drop (dcl (a :: t)).2).length = (a :: t).length - (dcl (a :: t)).2 := List.length_drop
    unfold runB
    rw [runB_fuel k m _ _ (by omega) (by omega)]
def runN (l : List UInt8) (was : Int) : List Int := runB l.length l was
theorem runS_N (S : ByteArray) : runS S = runN S.data.toList 0 := by
  have hl : S.size = S.data.toList.length := rfl
  unfold runS runN
  rw [runL_B, List.drop_zero]
  exact runB_fuel _ _ _ _ (by omega) (Nat.le_refl _)
theorem runN_nil (was : Int) : runN [] was = [] := rfl
theorem runN_cons (a : UInt8) (t : List UInt8) (was : Int) : runN (a :: t) was = (if ((dcl (a :: t)).1 : Int) = 10 ∧ was = 13 then [] else [chr (dcl (a :: t)).1]) ++ runN ((a :: t).drop (dcl (a :: t)).2) (dcl (a :: t)).1 := by
  have hw := dcl_width (a := a) (t := t)
  have hd : ((a :: t).drop (dcl (a :: t)).2).length = (a :: t).length - (dcl (a :: t)).2 := List.length_drop
  unfold runN
  rw [List.length_cons, runB, runB_fuel t.length _ _ _ (by rw [List.length_cons] at hd; omega) (Nat.le_refl _)]
theorem runN_ascii {a : UInt8} (h : a.toNat < 128) (t : List UInt8) (was : Int) : runN (a :: t) was = (if (a.toNat : Int) = 10 ∧ was = 13 then [] else [chr a.toNat]) ++ runN t a.toNat := by
  rw [runN_cons, dcl_ascii h]
  rfl
theorem runN_was (l : List UInt8) {v w : Int} (hv : v ≠ 13) (hw : w ≠ 13) : runN l v = runN l w := by
  cases l with
  | nil => rfl
  | cons a t => rw [runN_cons, runN_cons, if_neg (fun h => hv h.2), if_neg (fun h => hw h.2)]
theorem runB_mem {x : Int} (h0 : 0 < x) (h1 : x < 128) (h2 : x ≠ 10) : ∀ (k : Nat) (l : List UInt8) (was : Int), x ∈ runB k l was → ∃ b ∈ l, (b.toNat : Int) = x
  | 0, _, _, h => by cases h
  | k + 1, [], _, h => by cases h
  | k + 1, a :: t, was, h => by
    unfold runB at h
    rcases List.mem_append.1 h with h | h
    · split at h
      · cases h
      · simp only [List.mem_singleton] at h
        unfold chr at h
        split at h
        · exact absurd h h2
        · split at h
          · omega
          · have := dcl_head (a := a) (t := t) (by omega)
            exact ⟨a, List.mem_cons_self, by omega⟩
    · obtain ⟨b, hb, e⟩ := runB_mem h0 h1 h2 k _ _ h
      exact ⟨b, List.drop_subset _ _ hb, e⟩
theorem runN_mem {x : Int} (h0 : 0 < x) (h1 : x < 128) (h2 : x ≠ 10) {l : List UInt8} {was : Int} (h : x ∈ runN l was) : ∃ b ∈ l, (b.toNat : Int) = x := runB_mem h0 h1 h2 _ _ _ h
theorem runN_join (b : List UInt8) : ∀ (n : Nat) (l : List UInt8) (was : Int), l.length ≤ n → was ≠ 13 → (∀ x ∈ l, x.toNat ≠ 13) → runN (l ++ 10 :: b) was = runN l was ++ 10 :: runN b 0
  | n, [], was, _, hw, _ => by
    rw [List.nil_append, runN_ascii (by decide), if_neg (fun h => hw h.2), runN_nil, runN_was b (v := ((10 : UInt8).toNat : Int)) (w := 0) (by decide) (by decide)]
    rfl
  | 0, a :: t, _, h, _, _ => by cases h
  | n + 1, a :: t, was, h, hw, hx => by
    have hs := dcl_stop (l := a :: t) (by simp) (b := 10) (by decide) b
    have hwd := dcl_width (a := a) (t := t)
    have hn : ((dcl (a :: t)).1 : Int) ≠ 13 := fun e => by
      have := dcl_head (a := a) (t := t) (by omega)
      exact hx a List.mem_cons_self (by omega)
    rw [List.cons_append] at hs ⊢
    rw [runN_cons, runN_cons, hs, ← List.cons_append, List.drop_append_of_le_length hwd.2]
    rw [runN_join b n _ _ (by rw [List.length_drop]; omega) hn (fun x hx' => hx x (List.drop_subset _ _ hx')), List.append_assoc]
end Go.Proofs.YtpnlbmeeihbjaabDoor.P
end
section
set_option linter.unusedVariables false
set_option linter.unusedSimpArgs false
namespace Go.Proofs.YtpnlbmeeihbjaabDoor.P
open Go.RowKit Go.Proofs.YtpnlbmeeihbjaabDoorW.PrintWords Go.Proofs.YtpnlbmeeihbjaabDoorW.PrintLast Go.Proofs.YtpnlbmeeihbjaabDoorW.PrintMore
open Go.Lib
attribute [local go_sem] max2_int min2_int max_two min_two max_three min_three max_four min_four
set_option linter.unusedVariables false
set_option linter.unusedSimpArgs false
theorem one_space {s : List Int} (h : wayN s = 64) : oneK s = (kd 13, s.dropWhile blankB) := by unfold oneK; rw [if_pos h]
theorem way_of_blank {s : List Int} (h : blankB (pk s 0) = true) : wayN s = 64 := by unfold wayN; rw [if_pos h]
theorem quotL_suf (q : Int) : ∀ (n : Nat) (s : List Int), (quotL q n s).2.2 <:+ s
  | 0, s => List.suffix_rfl
  | n + 1, [] => List.suffix_rfl
  | n + 1, c :: t => by
    have h1 := quotL_suf q n t
    have h2 := quotL_suf q n (escd (c :: t)).2
    have h3 := quotL_suf q n (t.drop 1)
    have h4 := escd_suf c t
    have h5 : t <:+ c :: t := List.suffix_cons c t
    unfold quotL
    split
    · exact h5
    · split
      · exact List.suffix_rfl
      · split
        · exact (h2.trans h4).trans h5
        · split
          · exact (h3.trans (List.drop_suffix _ _)).trans h5
          · exact h1.trans h5
theorem badL_suf : ∀ (n : Nat) (s : List Int), badL n s <:+ s
  | 0, s => List.suffix_rfl
  | n + 1, [] => List.suffix_rfl
  | n + 1, c :: t => by
    have h1 := badL_suf n t
    have h2 := badL_suf n (escd (c :: t)).2
    have h4 := escd_suf c t
    have h5 : t <:+ c :: t := List.suffix_cons c t
    unfold badL
    split
    · exact (h2.trans h4).trans h5
    · split
      · exact h5
      · exact h1.trans h5
theorem urlL_suf : ∀ (n : Nat) (s : List Int), (urlL n s).2.2 <:+ s
  | 0, s => List.suffix_rfl
  | n + 1, [] => List.suffix_rfl
  | n + 1, c :: t => by
    have h1 := urlL_suf n t
    have h2 := urlL_suf n (escd (c :: t)).2
    have h3 := urlL_suf n (t.dropWhile blankB)
    have h4 := escd_suf c t
    have h5 : t <:+ c :: t := List.suffix_cons c t
    have h6 : t.dropWhile blankB <:+ t := List.dropWhile_suffix _
    unfold urlL badS
    split
    · exact h5
    · split
      · split
        · exact ((badL_suf _ _).trans h6).trans h5
        · exact (h3.trans h6).trans h5
      · split
        · exact (h2.trans h4).trans h5
        · split
          · exact badL_suf _ _
          · exact h1.trans h5
theorem urlR_suf (s : List Int) : urlR s <:+ s := (urlL_suf _ _).trans (List.dropWhile_suffix _)
theorem numR_suf (s : List Int) : numR s <:+ s := by
  refine List.IsSuffix.trans ?_ (numD_suf s)
  unfold numR
  split
  · exact nameS_suf _
  · split
    · exact List.tail_suffix _
    · exact List.suffix_rfl
theorem wordR_suf (s : List Int) : wordR s <:+ s := by
  refine List.IsSuffix.trans ?_ (nameS_suf s)
  unfold wordR
  split
  · exact List.suffix_rfl
  · split
    · exact (urlR_suf _).trans (List.tail_suffix _)
    · exact List.tail_suffix _
theorem oneK_suf (s : List Int) : (oneK s).2 <:+ s := by
  rcases wayN_cases s with e | e | e | e | e | e | e | e | e
  all_goals unfold oneK
  all_goals simp only [e]
  all_goals simp only [reduceIte, Nat.reduceEqDiff]
  · exact List.dropWhile_suffix _
  · exact (quotL_suf _ _ _).trans (List.tail_suffix _)
  · exact (nameS_suf _).trans (List.tail_suffix _)
  · exact numR_suf s
  · exact List.drop_suffix _ _
  · exact List.drop_suffix _ _
  · exact wordR_suf s
  · exact (nameS_suf _).trans (List.tail_suffix _)
  · exact List.tail_suffix _
theorem com_no {c : Int} {t : List Int} (h : 47 ∉ c :: t) : comB (c :: t) = false := by
  unfold comB
  have : c ≠ 47 := fun e => h (e ▸ List.mem_cons_self)
  rw [show pk (c :: t) 0 = c from rfl]
  simp [this]
theorem toksS_nil : toksS [] = [] := rfl
theorem toksS_one {c : Int} {t : List Int} (h : 47 ∉ c :: t) : toksS (c :: t) = (oneK (c :: t)).1 :: toksS (oneK (c :: t)).2 := by
  rw [toksS_unf, if_neg (by rw [com_no h]; simp)]
end Go.Proofs.YtpnlbmeeihbjaabDoor.P
end
section
set_option linter.unusedVariables false
set_option linter.unusedSimpArgs false
namespace Go.Proofs.YtpnlbmeeihbjaabDoor.P
open Go.RowKit Go.Proofs.YtpnlbmeeihbjaabDoorW.PrintWords Go.Proofs.YtpnlbmeeihbjaabDoorW.PrintLast Go.Proofs.YtpnlbmeeihbjaabDoorW.PrintMore
open Go.Lib
attribute [local go_sem] max2_int min2_int max_two min_two max_three min_three max_four min_four
set_option linter.unusedVariables false
set_option linter.unusedSimpArgs false
def NoO (s : List Int) : Prop := ∀ c ∈ s, c ≠ 34 ∧ c ≠ 39 ∧ c ≠ 40 ∧ c ≠ 47 ∧ c ≠ 92
theorem NoO.suf {s t : List Int} (h : NoO s) (hs : t <:+ s) : NoO t := fun c hc => h c (hs.subset hc)
section
variable {s B : List Int}
theorem pk_in {n : Nat} (h : n < s.length) : pk (s ++ 10 :: B) n = pk s n := by
  unfold pk
  simp [List.getD_eq_getElem?_getD, List.getElem?_append_left h]
theorem pk_at : pk (s ++ 10 :: B) s.length = 10 := by
  unfold pk
  simp [List.getD_eq_getElem?_getD]
theorem pk_out : pk s s.length = -1 := by
  unfold pk
  simp [List.getD_eq_getElem?_getD]
theorem pkQ {β : Type} (Q : Int → β) (hQ : Q 10 = Q (-1)) {n : Nat} (h : n ≤ s.length) : Q (pk (s ++ 10 :: B) n) = Q (pk s n) := by
  rcases Nat.lt_or_ge n s.length with h' | h'
  · rw [pk_in h']
  · obtain rfl : n = s.length := by omega
    rw [pk_at, pk_out, hQ]
theorem pk_mem {n : Nat} (h : n < s.length) : pk s n ∈ s := by
  unfold pk
  simp only [List.getD_eq_getElem?_getD, List.getElem?_eq_getElem h, Option.getD_some]
  exact List.getElem_mem h
theorem pk_lt {n : Nat} (h : pk s n ≠ -1) : n < s.length := by
  apply Decidable.byContradiction
  intro hn
  apply h
  unfold pk
  simp [List.getD_eq_getElem?_getD, List.getElem?_eq_none (Nat.le_of_not_lt hn)]
theorem pk_not (h : NoO s) (n : Nat) : pk s n ≠ 34 ∧ pk s n ≠ 39 ∧ pk s n ≠ 40 ∧ pk s n ≠ 47 ∧ pk s n ≠ 92 := by
  by_cases hn : n < s.length
  · exact h _ (pk_mem hn)
  · have : pk s n = -1 := by
      unfold pk
      simp [List.getD_eq_getElem?_getD, List.getElem?_eq_none (Nat.le_of_not_lt hn)]
    rw [this]; decide
theorem esc_no (h : NoO s) (n : Nat) : escB s n = false := by
  unfold escB
  have := (pk_not h n).2.2.2.2
  simp [this]
theorem esc_ap (h : NoO s) {n : Nat} (hn : n ≤ s.length) : escB (s ++ 10 :: B) n = false := by
  unfold escB
  have h2 : (pk (s ++ 10 :: B) n == 92) = (pk s n == 92) := pkQ (s := s) (B := B) (fun c => c == 92) (by decide) hn
  have := (pk_not h n).2.2.2.2
  rw [h2]
  simp [this]
theorem dig_ap {n : Nat} (hn : n ≤ s.length) : digB (pk (s ++ 10 :: B) n) = digB (pk s n) := pkQ digB (by decide) hn
theorem start_ap {n : Nat} (hn : n ≤ s.length) : startB (pk (s ++ 10 :: B) n) = startB (pk s n) := pkQ startB (by decide) hn
theorem eq_ap (v : Int) (hv : v ≠ 10) (hv2 : v ≠ -1) {n : Nat} (hn : n ≤ s.length) : (pk (s ++ 10 :: B) n = v) = (pk s n = v) := by
  refine pkQ (fun c => c = v) ?_ hn
  exact propext ⟨fun h => absurd h.symm hv, fun h => absurd h.symm hv2⟩
theorem beq_ap (v : Int) (hv : v ≠ 10) (hv2 : v ≠ -1) {n : Nat} (hn : n ≤ s.length) : (pk (s ++ 10 :: B) n == v) = (pk s n == v) := by
  refine pkQ (fun c => c == v) ?_ hn
  have a : ((10 : Int) == v) = false := by simpa using fun h : (10 : Int) = v => hv h.symm
  have b : ((-1 : Int) == v) = false := by simpa using fun h : (-1 : Int) = v => hv2 h.symm
  rw [a, b]
theorem beg_ap (h : NoO s) {n : Nat} (hn : n ≤ s.length) : begB (s ++ 10 :: B) n = begB s n := by
  unfold begB
  simp only [eq_ap (s := s) (B := B) 45 (by decide) (by decide) hn, start_ap hn, esc_ap h hn, esc_no h]
  by_cases e : pk s n = 45
  · have hl : n + 1 ≤ s.length := pk_lt (by rw [e]; decide)
    rw [if_pos e, if_pos e, beq_ap 45 (by decide) (by decide) hl, start_ap hl, esc_ap h hl]
  · rw [if_neg e, if_neg e]
theorem cnt_ap (hs : s ≠ []) : cntB (s ++ 10 :: B) = cntB s := by
  have h1 : 0 < s.length := List.length_pos_iff.2 hs
  unfold cntB
  simp only [pk_in h1]
  generalize hn : (if pk s 0 = 43 ∨ pk s 0 = 45 then 1 else 0) = n
  have hn' : n ≤ s.length := by
    rw [← hn]; split <;> omega
  rw [dig_ap hn', beq_ap 46 (by decide) (by decide) hn']
  by_cases e : pk s n = 46
  · have hl : n + 1 ≤ s.length := pk_lt (by rw [e]; decide)
    rw [dig_ap hl]
  · have : (pk s n == 46) = false := by simpa using e
    rw [this]; simp
theorem hash_ap (h : NoO s) (hs : s ≠ []) : hashB (s ++ 10 :: B) = hashB s := by
  have h1 : 1 ≤ s.length := List.length_pos_iff.2 hs
  unfold hashB
  rw [esc_ap h h1, esc_no h, pkQ (fun c => c != -1 && partB c) (by decide) h1]
theorem cdc_ap (hs : s ≠ []) : cdcB (s ++ 10 :: B) = cdcB s := by
  have h1 : 0 < s.length := List.length_pos_iff.2 hs
  unfold cdcB
  rw [beq_ap 45 (by decide) (by decide) (Nat.zero_le _), beq_ap 45 (by decide) (by decide) h1]
  by_cases e : pk s 1 = 45
  · have hl : 2 ≤ s.length := pk_lt (by rw [e]; decide)
    rw [beq_ap 62 (by decide) (by decide) hl]
  · have : (pk s 1 == 45) = false := by simpa using e
    rw [this]; simp
theorem cdo_ap (hs : s ≠ []) : cdoB (s ++ 10 :: B) = cdoB s := by
  have h1 : 0 < s.length := List.length_pos_iff.2 hs
  unfold cdoB
  rw [beq_ap 60 (by decide) (by decide) (Nat.zero_le _), beq_ap 33 (by decide) (by decide) h1]
  by_cases e : pk s 1 = 33
  · have hl : 2 ≤ s.length := pk_lt (by rw [e]; decide)
    rw [beq_ap 45 (by decide) (by decide) hl]
    by_cases e2 : pk s 2 = 45
    · have hl : 3 ≤ s.length := pk_lt (by rw [e2]; decide)
      rw [beq_ap 45 (by decide) (by decide) hl]
    · have : (pk s 2 == 45) = false := by simpa using e2
      rw [this]; simp
  · have : (pk s 1 == 33) = false := by simpa using e
    rw [this]; simp
theorem way_ap (h : NoO s) (hs : s ≠ []) : wayN (s ++ 10 :: B) = wayN s := by
  have h1 : 0 < s.length := List.length_pos_iff.2 hs
  unfold wayN
  rw [pk_in h1, hash_ap h hs, cnt_ap hs, cdc_ap hs, cdo_ap hs, beg_ap h (Nat.zero_le _), beg_ap h h1]
theorem drop_ap {n : Nat} (hn : n ≤ s.length) : (s ++ 10 :: B).drop n = s.drop n ++ 10 :: B := List.drop_append_of_le_length hn
theorem tail_ap (hs : s ≠ []) : (s ++ 10 :: B).tail = s.tail ++ 10 :: B := List.tail_append_of_ne_nil hs
end
theorem dw_ap (P : Int → Bool) (h : P 10 = false) (B : List Int) : ∀ s : List Int, (s ++ 10 :: B).dropWhile P = s.dropWhile P ++ 10 :: B
  | [] => by rw [List.nil_append, List.dropWhile_cons, if_neg (by rw [h]; simp)]; rfl
  | c :: t => by
    rw [List.cons_append, List.dropWhile_cons, List.dropWhile_cons, dw_ap P h B t]
    split <;> rfl
theorem blank_ap (B : List Int) : ∀ s : List Int, s.dropWhile blankB ≠ [] → (s ++ 10 :: B).dropWhile blankB = s.dropWhile blankB ++ 10 :: B
  | [], h => absurd rfl h
  | c :: t, h => by
    rw [List.cons_append, List.dropWhile_cons]
    rw [List.dropWhile_cons] at h ⊢
    by_cases hb : blankB c = true
    · rw [if_pos hb] at h ⊢
      rw [if_pos hb]
      exact blank_ap B t h
    · rw [if_neg hb, if_neg hb]
      rfl
theorem name_ap (B : List Int) : ∀ (n : Nat) (s : List Int), s.length ≤ n → NoO s → nameS (s ++ 10 :: B) = ((nameS s).1, (nameS s).2 ++ 10 :: B)
  | n, [], _, _ => by
    rw [List.nil_append, nameS_end (by decide) (by unfold escB; rfl)]
    rfl
  | 0, c :: t, h, _ => by cases h
  | n + 1, c :: t, h, hO => by
    have ih := name_ap B n t (by rw [List.length_cons] at h; omega) (hO.suf (List.suffix_cons c t))
    cases hp : partB c with
    | true => rw [List.cons_append, nameS_part hp, nameS_part hp, ih]
    | false =>
      have e1 := esc_no hO 0
      have e2 := esc_ap (B := B) hO (Nat.zero_le _)
      rw [List.cons_append] at e2 ⊢
      rw [nameS_end hp e1, nameS_end hp e2]
      rfl
section
variable {s B : List Int}
theorem numA_ap (hs : s ≠ []) : numA (s ++ 10 :: B) = numA s ++ 10 :: B := by
  have h1 : 0 < s.length := List.length_pos_iff.2 hs
  unfold numA
  rw [pk_in h1, tail_ap hs]
  split <;> rfl
theorem numB_ap (hs : s ≠ []) : numB (s ++ 10 :: B) = numB s ++ 10 :: B := by
  unfold numB
  rw [numA_ap hs, dw_ap digB (by decide)]
theorem dot_ap {r : List Int} : (pk (r ++ 10 :: B) 0 == 46 && digB (pk (r ++ 10 :: B) 1)) = (pk r 0 == 46 && digB (pk r 1)) := by
  rw [beq_ap 46 (by decide) (by decide) (Nat.zero_le _)]
  by_cases e : pk r 0 = 46
  · have hl : 1 ≤ r.length := pk_lt (by rw [e]; decide)
    rw [dig_ap hl]
  · have : (pk r 0 == 46) = false := by simpa using e
    rw [this]; simp
theorem numP_ap (hs : s ≠ []) : numP (s ++ 10 :: B) = numP s := by
  unfold numP
  rw [numB_ap hs, dot_ap]
theorem numC_ap (hs : s ≠ []) : numC (s ++ 10 :: B) = numC s ++ 10 :: B := by
  unfold numC
  rw [numP_ap hs, numB_ap hs]
  by_cases e : numP s = true
  · rw [if_pos e, if_pos e]
    have hne : numB s ≠ [] := by
      intro h
      unfold numP at e
      rw [h] at e
      revert e; decide
    rw [tail_ap hne, dw_ap digB (by decide)]
  · rw [if_neg e, if_neg e]
theorem exp_ap {r : List Int} (m : Nat) (hm : r ≠ [] → m ≤ r.length) : (Go.bits .or .i32 (pk (r ++ 10 :: B) 0) 32 == 101 && digB (pk (r ++ 10 :: B) m)) = (Go.bits .or .i32 (pk r 0) 32 == 101 && digB (pk r m)) := by
  rw [pkQ (fun c => Go.bits .or .i32 c 32 == 101) (by decide) (Nat.zero_le _)]
  by_cases e : (Go.bits .or .i32 (pk r 0) 32 == 101) = true
  · have hl : r ≠ [] := by
      rintro rfl
      revert e
      rw [show pk [] 0 = -1 from rfl]
      decide
    rw [dig_ap (hm hl)]
  · have : (Go.bits .or .i32 (pk r 0) 32 == 101) = false := by simpa using e
    rw [this]; simp
theorem numN_ap (hs : s ≠ []) (h : numC s ≠ []) : numN (s ++ 10 :: B) = numN s := by
  have h1 : 1 ≤ (numC s).length := List.length_pos_iff.2 h
  unfold numN
  rw [numC_ap hs, beq_ap 43 (by decide) (by decide) h1, beq_ap 45 (by decide) (by decide) h1]
theorem numN_le (h : numC s ≠ []) : numN s ≤ (numC s).length := by
  have h1 : 1 ≤ (numC s).length := List.length_pos_iff.2 h
  unfold numN
  split
  · rename_i e
    rw [Bool.or_eq_true, beq_iff_eq, beq_iff_eq] at e
    exact pk_lt (by omega)
  · exact h1
theorem numE_ap (hs : s ≠ []) : numE (s ++ 10 :: B) = numE s := by
  unfold numE
  by_cases h : numC s = []
  · rw [numC_ap hs, h, List.nil_append, show pk (10 :: B) 0 = 10 from rfl, show pk [] 0 = -1 from rfl]
    rw [show (Go.bits .or .i32 10 32 == 101) = false by decide, show (Go.bits .or .i32 (-1) 32 == 101) = false by decide]
    rfl
  · rw [numN_ap hs h, numC_ap hs, exp_ap (numN s) (fun _ => numN_le h)]
theorem numD_ap (hs : s ≠ []) : numD (s ++ 10 :: B) = numD s ++ 10 :: B := by
  unfold numD
  rw [numE_ap hs]
  by_cases e : numE s = true
  · rw [if_pos e, if_pos e]
    have hne : numC s ≠ [] := by
      intro h
      unfold numE at e
      rw [h] at e
      rw [show pk [] 0 = -1 from rfl, show (Go.bits .or .i32 (-1) 32 == 101) = false by decide] at e
      cases e
    rw [numN_ap hs hne, numC_ap hs, drop_ap (numN_le hne), dw_ap digB (by decide)]
  · rw [if_neg e, if_neg e, numC_ap hs]
theorem numW_ap (hs : s ≠ []) : numW (s ++ 10 :: B) = numW s := by
  unfold numW
  rw [numE_ap hs, numP_ap hs]
theorem numX_ap (hs : s ≠ []) : numX (s ++ 10 :: B) = numX s := by
  have hl := (numD_suf s).length_le
  unfold numX
  rw [numD_ap hs, List.length_append, List.length_append, show s.length + (10 :: B).length - ((numD s).length + (10 :: B).length) = s.length - (numD s).length by omega, List.take_append_of_le_length (by omega)]
theorem num_ap (h : NoO s) (hs : s ≠ []) : numK (s ++ 10 :: B) = numK s ∧ numR (s ++ 10 :: B) = numR s ++ 10 :: B := by
  have hd := h.suf (numD_suf s)
  have hb := beg_ap (B := B) hd (Nat.zero_le _)
  have he := eq_ap (s := numD s) (B := B) 37 (by decide) (by decide) (Nat.zero_le _)
  have hn := name_ap B _ _ (Nat.le_refl _) hd
  unfold numK numR
  rw [numX_ap hs, numW_ap hs, numD_ap hs]
  simp only [hb, he, hn]
  refine ⟨trivial, ?_⟩
  split
  · rfl
  · split
    · rename_i e
      exact tail_ap (fun h0 => by rw [h0] at e; revert e; decide)
    · rfl
theorem one_ap (h : NoO s) (hs : s ≠ []) (hb : wayN s = 64 → s.dropWhile blankB ≠ []) : oneK (s ++ 10 :: B) = ((oneK s).1, (oneK s).2 ++ 10 :: B) := by
  have hw := way_ap (B := B) h hs
  have h1 : 0 < s.length := List.length_pos_iff.2 hs
  have ht := tail_ap (B := B) hs
  have hnt := name_ap B _ _ (Nat.le_refl _) (h.suf (List.tail_suffix s))
  rcases wayN_cases s with e | e | e | e | e | e | e | e | e
  all_goals unfold oneK
  all_goals rw [hw]
  all_goals simp only [e]
  all_goals simp only [reduceIte, Nat.reduceEqDiff]
  · rw [blank_ap B s (hb e)]
  · exfalso
    have := pk_not h 0
    unfold wayN at e
    rw [show (pk s 0 == 34 || pk s 0 == 39) = false by simp [this.1, this.2.1]] at e
    revert e
    repeat' split
    all_goals simp_all
  · have h2 := beg_ap (B := B) (h.suf (List.tail_suffix s)) (Nat.zero_le _)
    rw [ht, hnt, h2]
  · have := num_ap (B := B) h hs
    rw [this.1, this.2]
  · have hl : 3 ≤ s.length := by
      have : cdcB s = true := by
        unfold wayN at e
        revert e
        repeat' split
        all_goals first | (intro e; exact absurd e (by decide)) | (intro _; assumption)
      unfold cdcB at this
      simp only [Bool.and_eq_true, beq_iff_eq] at this
      exact pk_lt (n := 2) (by rw [this.2.2]; decide)
    rw [drop_ap hl]
  · have hl : 4 ≤ s.length := by
      have : cdoB s = true := by
        unfold wayN at e
        revert e
        repeat' split
        all_goals first | (intro e; exact absurd e (by decide)) | (intro _; assumption)
      unfold cdoB at this
      simp only [Bool.and_eq_true, beq_iff_eq] at this
      exact pk_lt (n := 3) (by rw [this.2.2.2]; decide)
    rw [drop_ap hl]
  · have hn := name_ap B _ _ (Nat.le_refl _) h
    have hk : pk (nameS s).2 0 ≠ 40 := (pk_not (h.suf (nameS_suf s)) 0).2.2.1
    have hk2 : pk ((nameS s).2 ++ 10 :: B) 0 ≠ 40 := by
      rw [ne_eq, eq_ap 40 (by decide) (by decide) (Nat.zero_le _)]
      exact hk
    unfold wordK wordR
    simp only [hn]
    rw [if_pos hk, if_pos hk2, if_pos hk, if_pos hk2]
  · rw [ht, hnt]
  · rw [pk_in h1, ht]
end
theorem toks_join (B : List Int) : ∀ (n : Nat) (s : List Int), s.length ≤ n → NoO s → (∀ x, (toksS s).getLast? = some x → x.f0 ≠ 13) → toksS (s ++ 10 :: B) = toksS s ++ kd 13 :: toksS (B.dropWhile blankB)
  | n, [], _, _, _ => by
    rw [List.nil_append, toksS_nil, List.nil_append, toksS_unf, if_neg (by unfold comB; rw [show pk (10 :: B) 0 = 10 from rfl]; simp), one_space (way_of_blank (by rw [show pk (10 :: B) 0 = 10 from rfl]; decide))]
    rw [List.dropWhile_cons, if_pos (by decide)]
  | 0, c :: t, h, _, _ => by cases h
  | n + 1, c :: t, hn, hO, hl => by
    have hlt := oneK_lt c t
    have hs := oneK_suf (c :: t)
    have h47 : 47 ∉ c :: t := fun hm => (hO 47 hm).2.2.2.1 rfl
    have he := toksS_one h47
    rw [he] at hl
    have hb : wayN (c :: t) = 64 → (c :: t).dropWhile blankB ≠ [] := fun hw h0 => by
      rw [one_space hw, h0, toksS_nil] at hl
      exact hl _ rfl rfl
    have h1 := one_ap (B := B) hO (by simp) hb
    have ih := toks_join B n (oneK (c :: t)).2 (by rw [List.length_cons] at hn; omega) (hO.suf hs) (fun x hx => hl x (by
      rw [List.getLast?_cons, hx]; rfl))
    rw [he, List.cons_append]
    rw [List.cons_append] at h1
    rw [toksS_unf, if_neg (by unfold comB; rw [show pk (c :: (t ++ 10 :: B)) 0 = c from rfl]; simp [(hO c List.mem_cons_self).2.2.2.1]), h1]
    simp only
    rw [ih]
    rfl
theorem no_blank (B : List Int) (h : ∀ x, (toksS B).head? = some x → x.f0 ≠ 13) : B.dropWhile blankB = B := by
  cases B with
  | nil => rfl
  | cons d u =>
    cases hb : blankB d with
    | false => rw [List.dropWhile_cons, if_neg (by simp [hb])]
    | true =>
      exfalso
      have hd : d ≠ 47 := by rintro rfl; revert hb; decide
      rw [toksS_unf, if_neg (by unfold comB; rw [show pk (d :: u) 0 = d from rfl]; simp [hd]), one_space (way_of_blank (show blankB (pk (d :: u) 0) = true from hb))] at h
      exact h _ rfl rfl
end Go.Proofs.YtpnlbmeeihbjaabDoor.P
end
section
set_option linter.unusedVariables false
set_option linter.unusedSimpArgs false
namespace Go.Proofs.YtpnlbmeeihbjaabDoor.P
open Go.RowKit Go.Proofs.YtpnlbmeeihbjaabDoorW.PrintWords Go.Proofs.YtpnlbmeeihbjaabDoorW.PrintLast Go.Proofs.YtpnlbmeeihbjaabDoorW.PrintMore
open Go.Lib
attribute [local go_sem] max2_int min2_int max_two min_two max_three min_three max_four min_four
set_option linter.unusedVariables false
set_option linter.unusedSimpArgs false
theorem lives_true : gouachelaw02_lives.f = some true := by decide +kernel
theorem w64s {x : Int} (h0 : -9223372036854775808 ≤ x) (h1 : x ≤ 9223372036854775807) : wrap64 x = x := w64 ⟨h0, h1⟩
theorem rd26_at (l : List S26) (i : Nat) (h : i < l.length) : rd_T26 l (i : Int) = l[i] := by
  unfold rd_T26
  simp [List.getD_eq_getElem?_getD, h]
theorem same_loop (l : List S26) (hl : l.length ≤ 1099511627776) : ∀ (m i k : Nat), i + m = l.length → m < k → gouacheref02_Same.l0 k l l l.length i = some true
  | m, i, 0, _, hk => by cases hk
  | 0, i, k + 1, hi, _ => by
    unfold gouacheref02_Same.l0
    rw [if_neg (by omega)]
  | m + 1, i, k + 1, hi, hk => by
    unfold gouacheref02_Same.l0
    rw [if_pos (by omega), if_pos (by omega), if_pos (by omega), if_pos (by omega), if_neg (by simp)]
    rw [w64s (by omega) (by omega), show (i : Int) + 1 = ((i + 1 : Nat) : Int) by omega]
    exact same_loop l hl m (i + 1) k (by omega) (by omega)
theorem same_self (l : List S26) (hl : l.length ≤ 1099511627776) (k : Nat) (hk : l.length < k) : gouacheref02_Same.f k l l = some true := by
  unfold gouacheref02_Same.f
  rw [if_pos rfl]
  exact same_loop l hl l.length 0 k (by omega) hk
theorem toksL_len : ∀ (n : Nat) (s : List Int), (toksL n s).length ≤ n
  | 0, _ => Nat.le_refl _
  | n + 1, [] => Nat.zero_le _
  | n + 1, c :: t => by
    unfold toksL
    split
    · exact Nat.le_succ_of_le (toksL_len n _)
    · rw [List.length_cons]
      exact Nat.succ_le_succ (toksL_len n _)
theorem cutS_len (S : ByteArray) : (cutS S).length ≤ S.size + 1 := by
  have h1 := toksL_len (runS S).length (runS S)
  have h2 := runL_len S (S.size + 1) 0 0
  unfold cutS toksS
  unfold runS at h1 h2 ⊢
  omega
theorem cut_f (S : ByteArray) (h : S.size < 1099511627776) : gouachelaw02_cut.f S = some (cutS S) := by unfold gouachelaw02_cut.f; rw [if_pos h]
theorem bt_data (S : ByteArray) (i : Nat) (h : i < S.size) : bt S (i : Int) = ((S.data.toList[i]'h).toNat : Int) := by
  rw [← bt_at S (i : Int) h, Array.getElem_toList]
  rfl
end Go.Proofs.YtpnlbmeeihbjaabDoor.P
end
section
set_option linter.unusedVariables false
set_option linter.unusedSimpArgs false
namespace Go.Proofs.YtpnlbmeeihbjaabDoor.P
open Go.RowKit Go.Proofs.YtpnlbmeeihbjaabDoorW.PrintWords Go.Proofs.YtpnlbmeeihbjaabDoorW.PrintLast Go.Proofs.YtpnlbmeeihbjaabDoorW.PrintMore
open Go.Lib
attribute [local go_sem] max2_int min2_int max_two min_two max_three min_three max_four min_four
set_option linter.unusedVariables false
set_option linter.unusedSimpArgs false
def Bad (x : Int) : Prop := x = 34 ∨ x = 39 ∨ x = 40 ∨ x = 47 ∨ x = 92 ∨ x = 13
theorem nj_data (a b : ByteArray) : ((a ++ (⟨#[10]⟩ : ByteArray)) ++ b).data.toList = a.data.toList ++ 10 :: b.data.toList := by simp
theorem join_cut (a b : ByteArray) (hb : ∀ x ∈ a.data.toList, ¬ Bad (x.toNat : Int)) (hl : ∀ x, (cutS a).getLast? = some x → x.f0 ≠ 13) (hm : ∀ x, (cutS b).head? = some x → x.f0 ≠ 13) :
    cutS ((a ++ (⟨#[10]⟩ : ByteArray)) ++ b) = cutS a ++ kd 13 :: cutS b := by
  have hO : NoO (runS a) := fun c hc => by
    rw [runS_N] at hc
    have key : ∀ v : Int, 0 < v → v < 128 → v ≠ 10 → Bad v → c ≠ v := fun v h0 h1 h2 h3 e => by
      subst e
      obtain ⟨x, hx, ex⟩ := runN_mem h0 h1 h2 hc
      exact hb x hx (ex ▸ h3)
    unfold Bad at key
    exact ⟨key 34 (by decide) (by decide) (by decide) (by decide), key 39 (by decide) (by decide) (by decide) (by decide), key 40 (by decide) (by decide) (by decide) (by decide), key 47 (by decide) (by decide) (by decide) (by decide), key 92 (by decide) (by decide) (by decide) (by decide)⟩
  have hr : runS ((a ++ (⟨#[10]⟩ : ByteArray)) ++ b) = runS a ++ 10 :: runS b := by
    rw [runS_N, runS_N, runS_N, nj_data]
    refine runN_join _ _ _ 0 (Nat.le_refl _) (by decide) (fun x hx e => hb x hx ?_)
    rw [e]
    exact .inr (.inr (.inr (.inr (.inr rfl))))
  unfold cutS at hl hm ⊢
  rw [hr, toks_join _ _ _ (Nat.le_refl _) hO hl, no_blank _ hm]
theorem j1_true (k : Nat) (hk : 0 < k) (a b : ByteArray) (l m : List S26) : gouachelaw02_TokenJoins.j1 k a b l m true = some true := by
  obtain ⟨k, rfl⟩ : ∃ j, k = j + 1 := ⟨k - 1, by omega⟩
  rw [gouachelaw02_TokenJoins.j1, if_pos rfl, lives_true, Option.bind_some]
theorem size_nj (a : ByteArray) : (a ++ (⟨#[10]⟩ : ByteArray)).size = a.size + 1 := by simp; rfl
theorem size_njb (a b : ByteArray) : ((a ++ (⟨#[10]⟩ : ByteArray)) ++ b).size = a.size + 1 + b.size := by rw [ByteArray.size_append, size_nj]
theorem j2_ok (k : Nat) (l m : List S26) (hl : l.length ≤ 10000) (hm : m.length ≤ 10000) (hk : l.length + m.length + 1 < k) : gouachelaw02_TokenJoins.j2 k l m (l ++ kd 13 :: m) false = some true := by
  obtain ⟨k, rfl⟩ : ∃ j, k = j + 1 := ⟨k - 1, by omega⟩
  have e1 : (l ++ kd 13 :: m).take ((l.length : Int)).toNat = l := by rw [Int.toNat_natCast, List.take_left]
  have hw : wrap64 ((l.length : Int) + 1) = ((l.length + 1 : Nat) : Int) := by rw [w64s (by omega) (by omega)]; omega
  have e2 : (l ++ kd 13 :: m).drop ((wrap64 ((l.length : Int) + 1))).toNat = m := by
    rw [hw, Int.toNat_natCast, List.drop_append, List.drop_of_length_le (by omega), show l.length + 1 - l.length = 1 by omega]
    rfl
  have hlen : (l ++ kd 13 :: m).length = l.length + m.length + 1 := by rw [List.length_append, List.length_cons]; omega
  rw [gouachelaw02_TokenJoins.j2, if_neg (by simp), if_pos (by omega), if_pos (by omega), e1, same_self l (by omega) k (by omega), Option.bind_some, if_pos rfl, if_pos (by rw [hw]; omega), if_pos (by rw [hw, hlen]; omega), e2, same_self m (by omega) k (by omega), Option.bind_some, if_pos rfl, lives_true, Option.bind_some]
theorem j1_false (a b : ByteArray) (hs : a.size + b.size ≤ 2000) (hb : ∀ x ∈ a.data.toList, ¬ Bad (x.toNat : Int)) (hl : ∀ x, (cutS a).getLast? = some x → x.f0 ≠ 13) (hm : ∀ x, (cutS b).head? = some x → x.f0 ≠ 13) (k : Nat) (hk : (cutS a).length + (cutS b).length + 2 < k) :
    gouachelaw02_TokenJoins.j1 k a b (cutS a) (cutS b) false = some true := by
  obtain ⟨k, rfl⟩ : ∃ j, k = j + 1 := ⟨k - 1, by omega⟩
  have h1 := cutS_len a
  have h2 := cutS_len b
  have hlen : (cutS a ++ kd 13 :: cutS b).length = (cutS a).length + (cutS b).length + 1 := by rw [List.length_append, List.length_cons]; omega
  rw [gouachelaw02_TokenJoins.j1, if_neg (by simp), if_pos (by omega), if_pos (by rw [size_nj]; omega), cut_f _ (by rw [size_njb]; omega), Option.bind_some, join_cut a b hb hl hm]
  rw [if_pos (by rw [hlen, w64s (x := ((cutS a).length : Int) + 1) (by omega) (by omega), w64s (by omega) (by omega)]; omega), if_pos (by omega), if_pos (by rw [hlen]; omega)]
  rw [rd26_at _ _ (by rw [hlen]; omega), show ((cutS a ++ kd 13 :: cutS b)[(cutS a).length]'(by rw [hlen]; omega)) = kd 13 by simp]
  exact j2_ok k _ _ (by omega) (by omega) (by omega)
theorem first_at {l : List S26} (h : 0 < l.length) (hk : ((rd_T26 l 0).f0 == 13) = false) : ∀ x, l.head? = some x → x.f0 ≠ 13 := fun x hx e => by
  cases l with
  | nil => cases hx
  | cons y t =>
    obtain rfl := Option.some.inj hx
    rw [show (rd_T26 (y :: t) 0) = y from rfl, e] at hk
    cases hk
theorem last_at {l : List S26} (h : 0 < l.length) (hk : ¬ (rd_T26 l ((l.length - 1 : Nat) : Int)).f0 = 13) : ∀ x, l.getLast? = some x → x.f0 ≠ 13 := fun x hx e => by
  apply hk
  rw [rd26_at l (l.length - 1) (by omega)]
  rw [List.getLast?_eq_getElem?, List.getElem?_eq_getElem (by omega)] at hx
  rw [Option.some.inj hx, e]
theorem joins_l0 (a b : ByteArray) (hs : a.size + b.size ≤ 2000) : ∀ (m i k : Nat), i + m = a.size → (∀ j (h : j < a.data.toList.length), j < i → ¬ Bad ((a.data.toList[j]).toNat : Int)) → m + (cutS a).length + (cutS b).length + 4 < k → gouachelaw02_TokenJoins.l0 k a b (cutS a) (cutS b) i = some true
  | m, i, 0, _, _, hk => by cases hk
  | 0, i, k + 1, hi, hb, hk => by
    have h1 := cutS_len a
    have h2 := cutS_len b
    have hbad : ∀ x ∈ a.data.toList, ¬ Bad (x.toNat : Int) := fun x hx => by
      obtain ⟨j, hj, rfl⟩ := List.mem_iff_getElem.1 hx
      refine hb j hj ?_
      have : a.data.toList.length = a.size := rfl
      omega
    unfold gouachelaw02_TokenJoins.l0
    rw [if_neg (by omega)]
    have tail : ∀ hl : (∀ x, (cutS a).getLast? = some x → x.f0 ≠ 13), (if ((cutS b).length : Int) > 0 then (if 0 < ((cutS b).length : Int) then (gouachelaw02_TokenJoins.j1 k a b (cutS a) (cutS b) (((rd_T26 (cutS b) 0).f0) == 13)) else (none)) else (gouachelaw02_TokenJoins.j1 k a b (cutS a) (cutS b) false)) = some true := fun hl => by
      by_cases hc : ((cutS b).length : Int) > 0
      · rw [if_pos hc, if_pos hc]
        cases hf : ((rd_T26 (cutS b) 0).f0 == 13) with
        | true => exact j1_true k (by omega) _ _ _ _
        | false => exact j1_false a b hs hbad hl (first_at (by omega) hf) k (by omega)
      · rw [if_neg hc]
        have e : cutS b = [] := List.eq_nil_of_length_eq_zero (by omega)
        exact j1_false a b hs hbad hl (fun x hx => by rw [e] at hx; cases hx) k (by omega)
    by_cases hc : ((cutS a).length : Int) > 0
    · have hw : wrap64 (((cutS a).length : Int) - 1) = (((cutS a).length - 1 : Nat) : Int) := by rw [w64s (by omega) (by omega)]; omega
      rw [if_pos hc, hw, if_pos (by omega), if_pos (by omega)]
      by_cases h13 : (rd_T26 (cutS a) (((cutS a).length - 1 : Nat) : Int)).f0 = 13
      · rw [if_pos h13]
        exact j1_true k (by omega) _ _ _ _
      · rw [if_neg h13]
        exact tail (last_at (by omega) h13)
    · rw [if_neg hc]
      have e : cutS a = [] := List.eq_nil_of_length_eq_zero (by omega)
      exact tail (fun x hx => by rw [e] at hx; cases hx)
  | m + 1, i, k + 1, hi, hb, hk => by
    unfold gouachelaw02_TokenJoins.l0
    rw [if_pos (by omega), if_pos (by omega), lives_true, Option.bind_some]
    by_cases h : Bad (bt a i)
    · unfold Bad at h
      rcases h with h | h | h | h | h | h
      all_goals rw [h]
      all_goals rfl
    · have h' := h
      unfold Bad at h
      rw [if_neg (fun e => h (.inl e)), if_neg (fun e => h (.inr (.inl e))), if_neg (fun e => h (.inr (.inr (.inl e)))), if_neg (fun e => h (.inr (.inr (.inr (.inl e))))), if_neg (fun e => h (.inr (.inr (.inr (.inr (.inl e)))))), if_neg (fun e => h (.inr (.inr (.inr (.inr (.inr e))))))]
      rw [w64s (by omega) (by omega), show (i : Int) + 1 = ((i + 1 : Nat) : Int) by omega]
      refine joins_l0 a b hs m (i + 1) k (by omega) (fun j hj hji => ?_) (by omega)
      rcases Nat.lt_or_ge j i with h2 | h2
      · exact hb j hj h2
      · obtain rfl : j = i := by omega
        rw [← bt_data a j (by omega)]
        exact h'
theorem joins_true (a b : ByteArray) (ha : a.size ≤ 140737488351232) (hb : b.size ≤ 140737488351232) : ∃ k, gouachelaw02_TokenJoins.f k a b = some true := by
  have hw : wrap64 ((a.size : Int) + (b.size : Int)) = ((a.size + b.size : Nat) : Int) := by rw [w64s (by omega) (by omega)]; omega
  by_cases h : ((a.size + b.size : Nat) : Int) > 2000
  · refine ⟨0, ?_⟩
    unfold gouachelaw02_TokenJoins.f
    rw [hw, if_pos h, lives_true, Option.bind_some]
  · refine ⟨a.size + (cutS a).length + (cutS b).length + 5, ?_⟩
    unfold gouachelaw02_TokenJoins.f
    rw [hw, if_neg h, cut_f a (by omega), cut_f b (by omega), Option.bind_some, Option.bind_some]
    exact joins_l0 a b (by omega) a.size 0 _ (by omega) (fun j _ h => absurd h (Nat.not_lt_zero j)) (by omega)
end Go.Proofs.YtpnlbmeeihbjaabDoor.P
end
