/- DomWords: for every input the law returns true, and each argument reads behind the call as it read before. -/
import Derived.Test.YtmkakofnabfinaaZDW5
import Derived.Lib.FieldsP
import Derived.Laws.RangeAny
import Derived.Lib.RuneCount
import Derived.Laws.Strings
section
set_option linter.unusedVariables false
set_option linter.unusedSimpArgs false
namespace Go.Proofs.Ytmkakofnabfinaa.P
open Go.RowKit Go.Proofs.YtmkakofnabfinaaW.PrintWords Go.Proofs.YtmkakofnabfinaaW.PrintLast Go.Proofs.YtmkakofnabfinaaW.PrintMore
open Go.Lib
set_option linter.unusedVariables false
set_option linter.unusedSimpArgs false
def blk1 (c : Nat) : Bool := c == 32 || c == 9 || c == 10
theorem blk1_high {c : Nat} (h : 128 ≤ c) : blk1 c = false := by
  unfold blk1
  simp only [Bool.or_eq_false_iff, beq_eq_false_iff_ne]
  omega
theorem getb_at {s : ByteArray} {pos : Nat} (h : pos < s.size) : s.get! pos = s[pos]'h := by
  show s.get! pos = _
  simp [ByteArray.get!, getElem!_pos, h]
  rfl
theorem decode_tail (s : ByteArray) (pos : Nat) (h : pos < s.size) (hb : 128 ≤ (s.get! pos).toNat) : ∀ j, j < (Utf8.decode s pos).2 → pos + j < s.size ∧ 128 ≤ (s.get! (pos + j)).toNat := by
  have c64 : ∀ x : Nat, (x / 64 == 2) = true → 128 ≤ x := fun x hx => by
    have := eq_of_beq hx
    omega
  intro j hj
  cases j with
  | zero => exact ⟨h, hb⟩
  | succ j =>
    unfold Utf8.decode at hj
    simp only [Nat.add_zero] at hj
    rw [if_neg (by omega)] at hj
    split at hj
    · rename_i h1
      simp only [Bool.and_eq_true, decide_eq_true_eq] at h1
      split at hj
      · obtain rfl : j = 0 := by simp at hj; omega
        exact ⟨h1.2.1, c64 _ h1.2.2⟩
      · simp at hj
    · split at hj
      · rename_i h1
        simp only [Bool.and_eq_true, decide_eq_true_eq] at h1
        split at hj
        · rcases (show j = 0 ∨ j = 1 by simp at hj; omega) with rfl | rfl
          · exact ⟨h1.1.2.1, c64 _ h1.1.2.2⟩
          · exact ⟨h1.2.1, c64 _ h1.2.2⟩
        · simp at hj
      · split at hj
        · rename_i h1
          simp only [Bool.and_eq_true, decide_eq_true_eq] at h1
          split at hj
          · rcases (show j = 0 ∨ j = 1 ∨ j = 2 by simp at hj; omega) with rfl | rfl | rfl
            · exact ⟨h1.1.1.2.1, c64 _ h1.1.1.2.2⟩
            · exact ⟨h1.1.2.1, c64 _ h1.1.2.2⟩
            · exact ⟨h1.2.1, c64 _ h1.2.2⟩
          · simp at hj
        · simp at hj
def bsp (s : ByteArray) : Nat → Nat → Option Nat → List (Nat × Nat) → List (Nat × Nat) × Option Nat
  | 0, _, st, acc => (acc, st)
  | m + 1, pos, st, acc =>
    if blk1 (s.get! pos).toNat = true then
      (match st with
       | some a => bsp s m (pos + 1) none (acc ++ [(a, pos)])
       | none => bsp s m (pos + 1) none acc)
    else bsp s m (pos + 1) (some (st.getD pos)) acc
theorem bsp_non (s : ByteArray) (m pos : Nat) (st : Option Nat) (acc : List (Nat × Nat)) (h : blk1 (s.get! pos).toNat = false) : bsp s (m + 1) pos st acc = bsp s m (pos + 1) (some (st.getD pos)) acc := by
  cases st <;> (show (if blk1 (s.get! pos).toNat = true then _ else _) = _; rw [if_neg (by rw [h]; decide)])
theorem bsp_none (s : ByteArray) (m pos : Nat) (acc : List (Nat × Nat)) (h : blk1 (s.get! pos).toNat = true) : bsp s (m + 1) pos none acc = bsp s m (pos + 1) none acc := by
  show (if blk1 (s.get! pos).toNat = true then _ else _) = _; rw [if_pos h]
theorem bsp_some (s : ByteArray) (m pos a : Nat) (acc : List (Nat × Nat)) (h : blk1 (s.get! pos).toNat = true) : bsp s (m + 1) pos (some a) acc = bsp s m (pos + 1) none (acc ++ [(a, pos)]) := by
  show (if blk1 (s.get! pos).toNat = true then _ else _) = _; rw [if_pos h]
theorem bsp_skip (s : ByteArray) (m a : Nat) (acc : List (Nat × Nat)) : ∀ (n pos : Nat), (∀ j, j < n → blk1 (s.get! (pos + j)).toNat = false) → bsp s (m + n) pos (some a) acc = bsp s m (pos + n) (some a) acc
  | 0, _, _ => rfl
  | n + 1, pos, h => by
    rw [show m + (n + 1) = (m + n) + 1 by omega, bsp_non s (m + n) pos (some a) acc (h 0 (by omega))]
    show bsp s (m + n) (pos + 1) (some a) acc = _
    rw [bsp_skip s m a acc n (pos + 1) (fun j hj => by have := h (j + 1) (by omega); rwa [show pos + (j + 1) = pos + 1 + j by omega] at this)]
    congr 1
    omega
theorem spans_bytes (s : ByteArray) : ∀ (f pos : Nat) (st : Option Nat) (acc : List (Nat × Nat)), s.size - pos ≤ f → spansFromP blk1 s f pos st acc = bsp s (s.size - pos) pos st acc
  | 0, pos, st, acc, h => by rw [show s.size - pos = 0 by omega]; rfl
  | f + 1, pos, st, acc, h => by
    by_cases c : pos < s.size
    · unfold spansFromP
      rw [if_pos c]
      obtain ⟨m, hm⟩ : ∃ m, s.size - pos = m + 1 := ⟨s.size - pos - 1, by omega⟩
      have hg := getb_at c
      by_cases ha : (s[pos]'c).toNat < 128
      · rw [decode_ascii s pos c ha, hm]
        have hm1 : m = s.size - (pos + 1) := by omega
        by_cases hp : blk1 (s[pos]'c).toNat = true
        · have hp2 : blk1 (s.get! pos).toNat = true := by rw [hg]; exact hp
          rw [if_pos hp]
          cases st with
          | none => rw [bsp_none s m pos acc hp2, hm1]; exact spans_bytes s f (pos + 1) none acc (by omega)
          | some a => rw [bsp_some s m pos a acc hp2, hm1]; exact spans_bytes s f (pos + 1) none _ (by omega)
        · have hp2 : blk1 (s.get! pos).toNat = false := by rw [hg]; simpa using hp
          rw [if_neg hp, bsp_non s m pos st acc hp2]
          cases st with
          | none => rw [hm1]; exact spans_bytes s f (pos + 1) (some pos) acc (by omega)
          | some a => rw [hm1]; exact spans_bytes s f (pos + 1) (some a) acc (by omega)
      · have hh := decode_high s pos c (by omega)
        have ht := decode_tail s pos c (by rw [hg]; omega)
        obtain ⟨n, hn⟩ : ∃ n, (Utf8.decode s pos).2 = n + 1 := ⟨(Utf8.decode s pos).2 - 1, by omega⟩
        rw [if_neg (by rw [blk1_high hh.1]; decide)]
        have hle : pos + (n + 1) ≤ s.size := by have := (ht n (by omega)).1; omega
        have key : ∀ a, bsp s (s.size - (pos + (n + 1))) (pos + (n + 1)) (some a) acc = bsp s (s.size - (pos + 1)) (pos + 1) (some a) acc := fun a => by
          have := bsp_skip s (s.size - (pos + (n + 1))) a acc n (pos + 1) (fun j hj => by
            have h2 := (ht (j + 1) (by omega)).2
            rw [show pos + 1 + j = pos + (j + 1) by omega]
            exact blk1_high h2)
          rw [show s.size - (pos + (n + 1)) + n = s.size - (pos + 1) by omega] at this
          rw [this, show pos + (n + 1) = pos + 1 + n by omega]
        rw [hm, bsp_non s m pos st acc (by rw [hg]; exact blk1_high (by omega)), show m = s.size - (pos + 1) by omega, ← key]
        cases st with
        | none => rw [hn]; exact spans_bytes s f (pos + (n + 1)) (some pos) acc (by omega)
        | some a => rw [hn]; exact spans_bytes s f (pos + (n + 1)) (some a) acc (by omega)
    · rw [spansFromP_end _ _ _ _ _ _ c, show s.size - pos = 0 by omega]
      rfl
def pcs (s : ByteArray) (l : List (Nat × Nat)) : List ByteArray := l.map fun x => s.extract x.1 x.2
def wOf (s : ByteArray) : Option Nat → Nat → ByteArray
  | some a, pos => s.extract a pos
  | none, _ => ⟨#[]⟩
theorem ext_size (s : ByteArray) (a b : Nat) (h : b ≤ s.size) : (s.extract a b).size = b - a := by
  rw [ByteArray.size_extract]; omega
theorem ext_more (s : ByteArray) (a pos : Nat) (h : a ≤ pos) (hp : pos < s.size) : s.extract a pos ++ s.extract pos (pos + 1) = s.extract a (pos + 1) := by
  rw [ByteArray.extract_append_extract]
  congr 1 <;> omega
theorem ext_ne (s : ByteArray) (a b : Nat) (h : a < b) (hb : b ≤ s.size) : ¬ (s.extract a b).toList = [] := by
  intro e
  have h1 := ext_size s a b hb
  have h2 : (s.extract a b).toList.length = (s.extract a b).size := by
    rw [ByteArray.toList_eq]; rfl
  rw [e] at h2
  simp at h2
  omega
theorem blank_byte (s : ByteArray) (pos : Nat) (h : pos < s.size) : gouacheref01_Blank.f (wrap32 (bt s (pos : Int))) = some (blk1 (s.get! pos).toNat) := by
  have hb : bt s (pos : Int) = ((s.get! pos).toNat : Int) := by
    unfold bt
    rw [dif_pos (by simpa using h), getb_at h]
    rfl
  have hr : (s.get! pos).toNat < 256 := UInt8.toNat_lt _
  rw [hb]
  generalize (s.get! pos).toNat = c at hr
  rw [show wrap32 (c : Int) = c by unfold wrap32; omega]
  unfold gouacheref01_Blank.f blk1
  by_cases h1 : c = 32
  · subst h1; rfl
  · rw [if_neg (by omega)]
    by_cases h2 : c = 9
    · subst h2; rfl
    · rw [if_neg (by omega)]
      have e1 : (c == 32) = false := by simpa using h1
      have e2 : (c == 9) = false := by simpa using h2
      rw [e1, e2, Bool.false_or, Bool.false_or]
      congr 1
      by_cases h3 : c = 10
      · subst h3; rfl
      · have a : (c == 10) = false := by simpa using h3
        have b : ((c : Int) == 10) = false := by simp; omega
        rw [a, b]
theorem w_push (s : ByteArray) (pos : Nat) (st : Option Nat) (h : pos < s.size) (hst : ∀ a, st = some a → a < pos) : wOf s st pos ++ s.extract pos (pos + 1) = s.extract (st.getD pos) (pos + 1) := by
  cases st with
  | none =>
    show (⟨#[]⟩ : ByteArray) ++ _ = _
    rw [show (⟨#[]⟩ : ByteArray) = ByteArray.empty from rfl, ByteArray.empty_append]
    rfl
  | some a => exact ext_more s a pos (Nat.le_of_lt (hst a rfl)) h
theorem words_stop (s : ByteArray) (l : List ByteArray) (w : ByteArray) : gouacheref07_Words.l0 1 s l w ((s.size : Int) + 1) = some l := by
  rw [gouacheref07_Words.l0, if_neg (by omega)]
theorem words_none (k : Nat) (s : ByteArray) (l : List ByteArray) (w : ByteArray) (pos : Int) (hw : w.toList = []) (b : Bool) (hb : b = false) : gouacheref07_Words.j1 (k + 1) s l w pos b = gouacheref07_Words.l0 k s l ⟨#[]⟩ (wrap64 (pos + 1)) := by
  subst hb
  rw [gouacheref07_Words.j1, if_neg (by decide), if_pos hw]
theorem words_word (k : Nat) (s : ByteArray) (l : List ByteArray) (w : ByteArray) (pos : Int) (hw : ¬ w.toList = []) (hl : l.length ≤ 100000) (b : Bool) (hb : b = false) : gouacheref07_Words.j1 (k + 1) s l w pos b = gouacheref07_Words.l0 k s (l ++ [w]) ⟨#[]⟩ (wrap64 (pos + 1)) := by
  subst hb
  rw [gouacheref07_Words.j1, if_neg (by decide), if_neg hw, if_pos (by omega)]
theorem words_more (k : Nat) (s : ByteArray) (l : List ByteArray) (w : ByteArray) (pos : Nat) (hp : pos < s.size) (hs : s.size ≤ 3000) (hw : w.size ≤ s.size) : gouacheref07_Words.j1 (k + 1) s l w (pos : Int) true = gouacheref07_Words.l0 k s l (w ++ s.extract pos (pos + 1)) ((pos + 1 : Nat) : Int) := by
  have e : wrap64 ((pos : Int) + 1) = ((pos + 1 : Nat) : Int) := by unfold wrap64; omega
  rw [gouacheref07_Words.j1, if_pos rfl, if_pos (by omega), e, if_pos (by omega), if_pos (by omega), Int.toNat_natCast, Int.toNat_natCast, if_pos (by rw [ext_size s pos (pos + 1) (by omega)]; omega)]
theorem words_at_end (k : Nat) (s : ByteArray) (l : List ByteArray) (w : ByteArray) : gouacheref07_Words.l0 (k + 1) s l w (s.size : Int) = gouacheref07_Words.j1 k s l w (s.size : Int) false := by
  rw [gouacheref07_Words.l0, if_pos (Int.le_refl _), if_neg (by omega)]
theorem words_on (k : Nat) (s : ByteArray) (l : List ByteArray) (w : ByteArray) (pos : Nat) (hp : pos < s.size) : gouacheref07_Words.l0 (k + 1) s l w (pos : Int) = gouacheref07_Words.j1 k s l w (pos : Int) (!(blk1 (s.get! pos).toNat)) := by
  rw [gouacheref07_Words.l0, if_pos (by omega), if_pos (by omega), if_pos (by omega), blank_byte s pos hp]
  rfl
theorem w_size (s : ByteArray) (st : Option Nat) (pos : Nat) (h : pos ≤ s.size) : (wOf s st pos).size ≤ s.size := by
  cases st with
  | none => exact Nat.zero_le _
  | some a => show (s.extract a pos).size ≤ _; rw [ext_size s a pos h]; omega
theorem w_nil (s : ByteArray) (pos : Nat) : (wOf s none pos).toList = [] := by rw [ByteArray.toList_eq]; rfl
theorem pcs_snoc (s : ByteArray) (acc : List (Nat × Nat)) (a pos : Nat) : pcs s acc ++ [wOf s (some a) pos] = pcs s (acc ++ [(a, pos)]) := by simp [pcs, wOf]
theorem pcs_len (s : ByteArray) (acc : List (Nat × Nat)) (h : acc.length ≤ 100000) : (pcs s acc).length ≤ 100000 := by unfold pcs; rw [List.length_map]; exact h
theorem words_at (s : ByteArray) (hs : s.size ≤ 3000) : ∀ (m pos : Nat) (st : Option Nat) (acc : List (Nat × Nat)), s.size - pos = m → pos ≤ s.size → (∀ a, st = some a → a < pos) → acc.length ≤ pos →
    ∃ k, gouacheref07_Words.l0 k s (pcs s acc) (wOf s st pos) (pos : Int) = some (pcs s (closeSpans s (bsp s m pos st acc))) := by
  intro m
  induction m with
  | zero =>
    intro pos st acc hm hp hst ha
    obtain rfl : pos = s.size := by omega
    have hw : wrap64 ((s.size : Int) + 1) = (s.size : Int) + 1 := by unfold wrap64; omega
    refine ⟨1 + 1 + 1, ?_⟩
    rw [words_at_end]
    cases st with
    | none => rw [words_none 1 s _ _ _ (w_nil s _) false rfl, hw, words_stop]; rfl
    | some a =>
      rw [words_word 1 s _ _ _ (show ¬ (wOf s (some a) s.size).toList = [] from ext_ne s a s.size (hst a rfl) (Nat.le_refl _)) (by unfold pcs; rw [List.length_map]; omega) false rfl, hw, words_stop, pcs_snoc]
      rfl
  | succ m ih =>
    intro pos st acc hm hp hst ha
    have hlt : pos < s.size := by omega
    have hw : wrap64 ((pos : Int) + 1) = ((pos + 1 : Nat) : Int) := by unfold wrap64; omega
    cases hb : blk1 (s.get! pos).toNat with
    | true =>
      cases st with
      | none =>
        obtain ⟨k, hk⟩ := ih (pos + 1) none acc (by omega) (by omega) (fun a h => by cases h) (by omega)
        refine ⟨k + 1 + 1, ?_⟩
        rw [words_on _ s _ _ pos hlt, hb, words_none k s _ _ _ (w_nil s _) (!true) rfl, hw, bsp_none s m pos acc hb]
        exact hk
      | some a =>
        have h1 := hst a rfl
        obtain ⟨k, hk⟩ := ih (pos + 1) none (acc ++ [(a, pos)]) (by omega) (by omega) (fun a h => by cases h) (by rw [List.length_append]; show acc.length + 1 ≤ _; omega)
        refine ⟨k + 1 + 1, ?_⟩
        rw [words_on _ s _ _ pos hlt, hb, words_word k s _ _ _ (show ¬ (wOf s (some a) pos).toList = [] from ext_ne s a pos h1 (by omega)) (pcs_len s acc (by omega)) (!true) rfl, hw, bsp_some s m pos a acc hb, pcs_snoc]
        exact hk
    | false =>
      obtain ⟨k, hk⟩ := ih (pos + 1) (some (st.getD pos)) acc (by omega) (by omega) (fun a h => by
        obtain rfl := Option.some.inj h
        cases st with
        | none => exact Nat.lt_succ_self _
        | some a => have := hst a rfl; show a < pos + 1; omega) (by omega)
      refine ⟨k + 1 + 1, ?_⟩
      rw [words_on _ s _ _ pos hlt, hb]
      show gouacheref07_Words.j1 (k + 1) s (pcs s acc) (wOf s st pos) (pos : Int) true = _
      rw [words_more k s _ _ pos hlt hs (w_size s st pos (by omega)), w_push s pos st hlt hst, bsp_non s m pos st acc hb]
      exact hk
theorem words_all (s : ByteArray) (hs : s.size ≤ 3000) : ∃ k, gouacheref07_Words.f k s = some (goFieldsP blk1 s) := by
  obtain ⟨k, hk⟩ := words_at s hs s.size 0 none [] (by omega) (by omega) (fun a h => by cases h) (Nat.le_refl _)
  refine ⟨k, ?_⟩
  unfold goFieldsP spansOfP
  rw [spans_bytes s s.size 0 none [] (by omega), Nat.sub_zero]
  exact hk
theorem texts_from (l : List ByteArray) (hl : l.length ≤ 1000000) : ∀ (m i : Nat), i + m = l.length → ∃ k, gouacheref01_Texts.l0 k l l (l.length : Int) (i : Int) = some true
  | 0, i, h => ⟨1, by rw [gouacheref01_Texts.l0, if_neg (by omega)]⟩
  | m + 1, i, h => by
    obtain ⟨k, hk⟩ := texts_from l hl m (i + 1) (by omega)
    refine ⟨k + 1, ?_⟩
    rw [gouacheref01_Texts.l0, if_pos (by omega), if_pos (by omega), if_pos (by omega), if_pos (by omega), if_pos rfl, show wrap64 ((i : Int) + 1) = ((i + 1 : Nat) : Int) by unfold wrap64; omega]
    exact hk
theorem texts_same (l : List ByteArray) (hl : l.length ≤ 1000000) : ∃ k, gouacheref01_Texts.f k l l = some true := by
  obtain ⟨k, hk⟩ := texts_from l hl l.length 0 (by omega)
  refine ⟨k, ?_⟩
  unfold gouacheref01_Texts.f
  rw [if_pos rfl]
  exact hk
theorem bsp_len (s : ByteArray) : ∀ (m pos : Nat) (st : Option Nat) (acc : List (Nat × Nat)), (bsp s m pos st acc).1.length ≤ acc.length + m
  | 0, _, _, _ => Nat.le_refl _
  | m + 1, pos, st, acc => by
    cases hb : blk1 (s.get! pos).toNat with
    | true =>
      cases st with
      | none => rw [bsp_none s m pos acc hb]; have := bsp_len s m (pos + 1) none acc; omega
      | some a => rw [bsp_some s m pos a acc hb]; have := bsp_len s m (pos + 1) none (acc ++ [(a, pos)]); simp at this; omega
    | false => rw [bsp_non s m pos st acc hb]; have := bsp_len s m (pos + 1) (some (st.getD pos)) acc; omega
theorem fields_len (s : ByteArray) (hs : s.size ≤ 3000) : (goFieldsP blk1 s).length ≤ 3001 := by
  unfold goFieldsP spansOfP
  rw [spans_bytes s s.size 0 none [] (by omega), Nat.sub_zero, List.length_map]
  have h := bsp_len s s.size 0 none []
  unfold closeSpans
  split <;> simp at h ⊢ <;> omega
end Go.Proofs.Ytmkakofnabfinaa.P
end
