/- The law TokenBack (layer 2): the row and its tied card: for every input the law returns true, and the arguments read behind the call as they read before. No condition of ours. -/
import Derived.Test.YtpnlbmeeihbjaabDoorZBK7
import Derived.Test.YtpnlbmeeihbjaabDoorZBK11
import Derived.Test.YtpnlbmeeihbjaabDoorZBK13
import Derived.Lib.MapLaws
section
set_option linter.unusedVariables false
set_option linter.unusedSimpArgs false
namespace Go.Proofs.YtpnlbmeeihbjaabDoor.P
open Go.RowKit Go.Proofs.YtpnlbmeeihbjaabDoorW.PrintWords Go.Proofs.YtpnlbmeeihbjaabDoorW.PrintLast Go.Proofs.YtpnlbmeeihbjaabDoorW.PrintMore
open Go.Lib
attribute [local go_sem] max2_int min2_int max_two min_two max_three min_three max_four min_four
set_option linter.unusedVariables false
set_option linter.unusedSimpArgs false
def dcl (l : List UInt8) : Nat × Nat := Lib.decodeL l
theorem dec_drop (S : ByteArray) (i : Nat) : Utf8.decode S i = dcl (S.data.toList.drop i) := (Lib.decodeL_drop S i).symm
theorem dcl_N (l : List UInt8) : dcl l = Lib.decodeN l.length (l.getD 0 0).toNat (l.getD 1 0).toNat (l.getD 2 0).toNat (l.getD 3 0).toNat := Lib.decodeL_N l
theorem dcl_ascii {a : UInt8} {t : List UInt8} (h : a.toNat < 128) : dcl (a :: t) = (a.toNat, 1) := by
  rw [dcl_N]
  unfold Lib.decodeN
  rw [show (a :: t).getD 0 0 = a from rfl, if_pos h]
theorem dcl_head {a : UInt8} {t : List UInt8} (h : (dcl (a :: t)).1 < 128) : a.toNat = (dcl (a :: t)).1 := by
  rw [dcl_N] at h ⊢
  rw [show (a :: t).getD 0 0 = a from rfl] at h ⊢
  rcases Lib.decodeN_shape (a :: t).length a.toNat ((a :: t).getD 1 0).toNat ((a :: t).getD 2 0).toNat ((a :: t).getD 3 0).toNat with ⟨c, e⟩ | ⟨c1, c2, c3, cv, e⟩ | ⟨c1, c2, c3, c4, cv, cs, e⟩ | ⟨c1, c2, c3, c4, c5, cv, cw, e⟩ | e
  all_goals rw [e] at h ⊢
  all_goals simp only at h ⊢
  all_goals omega
theorem dcl_width {a : UInt8} {t : List UInt8} : 1 ≤ (dcl (a :: t)).2 ∧ (dcl (a :: t)).2 ≤ (a :: t).length := by
  rw [dcl_N]
  have hl : 1 ≤ (a :: t).length := by simp
  rcases Lib.decodeN_shape (a :: t).length ((a :: t).getD 0 0).toNat ((a :: t).getD 1 0).toNat ((a :: t).getD 2 0).toNat ((a :: t).getD 3 0).toNat with ⟨c, e⟩ | ⟨c1, c2, c3, cv, e⟩ | ⟨c1, c2, c3, c4, cv, cs, e⟩ | ⟨c1, c2, c3, c4, c5, cv, cw, e⟩ | e
  all_goals rw [e]
  all_goals simp only
  all_goals omega
def chr (c : Int) : Int := if c = 13 ∨ c = 12 then 10 else if c = 0 then 65533 else c
def runB : Nat → List UInt8 → Int → List Int
  | 0, _, _ => []
  | _ + 1, [], _ => []
  | k + 1, a :: t, was => (if ((dcl (a :: t)).1 : Int) = 10 ∧ was = 13 then [] else [chr (dcl (a :: t)).1]) ++ runB k ((a :: t).drop (dcl (a :: t)).2) (dcl (a :: t)).1
theorem runL_B (S : ByteArray) : ∀ (k pos : Nat) (was : Int), runL S k pos was = runB k (S.data.toList.drop pos) was
  | 0, _, _ => rfl
  | k + 1, pos, was => by
    have hl : S.size = S.data.toList.length := rfl
    by_cases hp : pos < S.size
    · have hd := dec_drop S pos
      obtain ⟨a, t, hat⟩ : ∃ a t, S.data.toList.drop pos = a :: t := ⟨_, _, List.drop_eq_getElem_cons (by omega)⟩
      unfold runL
      rw [if_pos hp, hd, runL_B S k, ← List.drop_drop, hat]
      rfl
    · unfold runL
      rw [if_neg hp, List.drop_eq_nil_of_le (by omega)]
      rfl
theorem runB_fuel : ∀ (k m : Nat) (l : List UInt8) (was : Int), l.length ≤ k → l.length ≤ m → runB k l was = runB m l was
  | 0, 0, _, _, _, _ => rfl
  | 0, m + 1, l, _, h, _ => by
    obtain rfl := List.eq_nil_of_length_eq_zero (by omega : l.length = 0)
    rfl
  | k + 1, 0, l, _, _, h => by
    obtain rfl := List.eq_nil_of_length_eq_zero (by omega : l.length = 0)
    rfl
  | k + 1, m + 1, [], _, _, _ => rfl
  | k + 1, m + 1, a :: t, was, h1, h2 => by
    have hw := dcl_width (a := a) (t := t)
    have hd : ((a :: t).drop (dcl (a :: t)).2).length = (a :: t).length - (dcl (a :: t)).2 := List.length_drop
    unfold runB
    rw [runB_fuel k m _ _ (by omega) (by omega)]
def runN (l : List UInt8) (was : Int) : List Int := runB l.length l was
theorem runS_N (S : ByteArray) : runS S = runN S.data.toList 0 := by
  have hl : S.size = S.data.toList.length := rfl
  unfold runS runN
  rw [runL_B, List.drop_zero]
  exact runB_fuel _ _ _ _ (by omega) (Nat.le_refl _)
theorem runN_nil (was : Int) : runN [] was = [] := rfl
theorem runN_cons (a : UInt8) (t : List UInt8) (was : Int) : runN (a :: t) was = (if ((dcl (a :: t)).1 : Int) = 10 ∧ was = 13 then [] else [chr (dcl (a :: t)).1]) ++ runN ((a :: t).drop (dcl (a :: t)).2) (dcl (a :: t)).1 := by
  have hw := dcl_width (a := a) (t := t)
  have hd : ((a :: t).drop (dcl (a :: t)).2).length = (a :: t).length - (dcl (a :: t)).2 := List.length_drop
  unfold runN
  rw [List.length_cons, runB, runB_fuel t.length _ _ _ (by rw [List.length_cons] at hd; omega) (Nat.le_refl _)]
theorem runN_ascii {a : UInt8} (h : a.toNat < 128) (t : List UInt8) (was : Int) : runN (a :: t) was = (if (a.toNat : Int) = 10 ∧ was = 13 then [] else [chr a.toNat]) ++ runN t a.toNat := by
  rw [runN_cons, dcl_ascii h]
  rfl
theorem runN_was (l : List UInt8) {v w : Int} (hv : v ≠ 13) (hw : w ≠ 13) : runN l v = runN l w := by
  cases l with
  | nil => rfl
  | cons a t => rw [runN_cons, runN_cons, if_neg (fun h => hv h.2), if_neg (fun h => hw h.2)]
end Go.Proofs.YtpnlbmeeihbjaabDoor.P
end
section
set_option linter.unusedVariables false
set_option linter.unusedSimpArgs false
namespace Go.Proofs.YtpnlbmeeihbjaabDoor.P
open Go.RowKit Go.Proofs.YtpnlbmeeihbjaabDoorW.PrintWords Go.Proofs.YtpnlbmeeihbjaabDoorW.PrintLast Go.Proofs.YtpnlbmeeihbjaabDoorW.PrintMore
open Go.Lib
attribute [local go_sem] max2_int min2_int max_two min_two max_three min_three max_four min_four
set_option linter.unusedVariables false
set_option linter.unusedSimpArgs false
theorem quotL_suf (q : Int) : ∀ (n : Nat) (s : List Int), (quotL q n s).2.2 <:+ s
  | 0, s => List.suffix_rfl
  | n + 1, [] => List.suffix_rfl
  | n + 1, c :: t => by
    have h1 := quotL_suf q n t
    have h2 := quotL_suf q n (escd (c :: t)).2
    have h3 := quotL_suf q n (t.drop 1)
    have h4 := escd_suf c t
    have h5 : t <:+ c :: t := List.suffix_cons c t
    unfold quotL
    split
    · exact h5
    · split
      · exact List.suffix_rfl
      · split
        · exact (h2.trans h4).trans h5
        · split
          · exact (h3.trans (List.drop_suffix _ _)).trans h5
          · exact h1.trans h5
theorem badL_suf : ∀ (n : Nat) (s : List Int), badL n s <:+ s
  | 0, s => List.suffix_rfl
  | n + 1, [] => List.suffix_rfl
  | n + 1, c :: t => by
    have h1 := badL_suf n t
    have h2 := badL_suf n (escd (c :: t)).2
    have h4 := escd_suf c t
    have h5 : t <:+ c :: t := List.suffix_cons c t
    unfold badL
    split
    · exact (h2.trans h4).trans h5
    · split
      · exact h5
      · exact h1.trans h5
theorem urlL_suf : ∀ (n : Nat) (s : List Int), (urlL n s).2.2 <:+ s
  | 0, s => List.suffix_rfl
  | n + 1, [] => List.suffix_rfl
  | n + 1, c :: t => by
    have h1 := urlL_suf n t
    have h2 := urlL_suf n (escd (c :: t)).2
    have h3 := urlL_suf n (t.dropWhile blankB)
    have h4 := escd_suf c t
    have h5 : t <:+ c :: t := List.suffix_cons c t
    have h6 : t.dropWhile blankB <:+ t := List.dropWhile_suffix _
    unfold urlL badS
    split
    · exact h5
    · split
      · split
        · exact ((badL_suf _ _).trans h6).trans h5
        · exact (h3.trans h6).trans h5
      · split
        · exact (h2.trans h4).trans h5
        · split
          · exact badL_suf _ _
          · exact h1.trans h5
theorem urlR_suf (s : List Int) : urlR s <:+ s := (urlL_suf _ _).trans (List.dropWhile_suffix _)
theorem numR_suf (s : List Int) : numR s <:+ s := by
  refine List.IsSuffix.trans ?_ (numD_suf s)
  unfold numR
  split
  · exact nameS_suf _
  · split
    · exact List.tail_suffix _
    · exact List.suffix_rfl
theorem wordR_suf (s : List Int) : wordR s <:+ s := by
  refine List.IsSuffix.trans ?_ (nameS_suf s)
  unfold wordR
  split
  · exact List.suffix_rfl
  · split
    · exact (urlR_suf _).trans (List.tail_suffix _)
    · exact List.tail_suffix _
theorem oneK_suf (s : List Int) : (oneK s).2 <:+ s := by
  rcases wayN_cases s with e | e | e | e | e | e | e | e | e
  all_goals unfold oneK
  all_goals simp only [e]
  all_goals simp only [reduceIte, Nat.reduceEqDiff]
  · exact List.dropWhile_suffix _
  · exact (quotL_suf _ _ _).trans (List.tail_suffix _)
  · exact (nameS_suf _).trans (List.tail_suffix _)
  · exact numR_suf s
  · exact List.drop_suffix _ _
  · exact List.drop_suffix _ _
  · exact wordR_suf s
  · exact (nameS_suf _).trans (List.tail_suffix _)
  · exact List.tail_suffix _
theorem toksS_nil : toksS [] = [] := rfl
end Go.Proofs.YtpnlbmeeihbjaabDoor.P
end
section
set_option linter.unusedVariables false
set_option linter.unusedSimpArgs false
namespace Go.Proofs.YtpnlbmeeihbjaabDoor.P
open Go.RowKit Go.Proofs.YtpnlbmeeihbjaabDoorW.PrintWords Go.Proofs.YtpnlbmeeihbjaabDoorW.PrintLast Go.Proofs.YtpnlbmeeihbjaabDoorW.PrintMore
open Go.Lib
attribute [local go_sem] max2_int min2_int max_two min_two max_three min_three max_four min_four
set_option linter.unusedVariables false
set_option linter.unusedSimpArgs false
def NoO (s : List Int) : Prop := ∀ c ∈ s, c ≠ 34 ∧ c ≠ 39 ∧ c ≠ 40 ∧ c ≠ 47 ∧ c ≠ 92
theorem NoO.suf {s t : List Int} (h : NoO s) (hs : t <:+ s) : NoO t := fun c hc => h c (hs.subset hc)
section
variable {s B : List Int}
theorem pk_mem {n : Nat} (h : n < s.length) : pk s n ∈ s := by
  unfold pk
  simp only [List.getD_eq_getElem?_getD, List.getElem?_eq_getElem h, Option.getD_some]
  exact List.getElem_mem h
end
section
variable {s B : List Int}
end
end Go.Proofs.YtpnlbmeeihbjaabDoor.P
end
section
set_option linter.unusedVariables false
set_option linter.unusedSimpArgs false
namespace Go.Proofs.YtpnlbmeeihbjaabDoor.P
open Go.RowKit Go.Proofs.YtpnlbmeeihbjaabDoorW.PrintWords Go.Proofs.YtpnlbmeeihbjaabDoorW.PrintLast Go.Proofs.YtpnlbmeeihbjaabDoorW.PrintMore
open Go.Lib
attribute [local go_sem] max2_int min2_int max_two min_two max_three min_three max_four min_four
set_option linter.unusedVariables false
set_option linter.unusedSimpArgs false
def okC (c : Int) : Prop := 0 < c ∧ c ≤ 1114111 ∧ (c < 55296 ∨ 57343 < c) ∧ c ≠ 65533
theorem toB {z : Int} (h0 : 0 ≤ z) (h1 : z < 256) : (z.toNat.toUInt8).toNat = z.toNat := by
  simp only [Nat.toUInt8, UInt8.toNat_ofNat']
  omega
theorem dcl_enc {c : Int} (h0 : 0 ≤ c) (h1 : c ≤ 1114111) (h2 : c < 55296 ∨ 57343 < c) (r : List UInt8) : dcl (Lib.encodeRune c ++ r) = (c.toNat, (Lib.encodeRune c).length) := by
  rw [dcl_N]
  unfold Lib.encodeRune
  by_cases c1 : c ≤ 127
  · rw [Lib.encodeRuneZ_one h0 c1]
    simp only [List.map_cons, List.map_nil, List.cons_append, List.nil_append, List.getD_cons_zero, List.length_cons, List.length_nil, toB h0 (by omega)]
    unfold Lib.decodeN
    rw [if_pos (by omega)]
  by_cases c2 : c ≤ 2047
  · rw [Lib.encodeRuneZ_two (by omega) c2]
    simp only [List.map_cons, List.map_nil, List.cons_append, List.nil_append, List.getD_cons_zero, List.getD_cons_succ, List.length_cons, List.length_nil]
    rw [toB (by omega) (by omega), toB (by omega) (by omega)]
    unfold Lib.decodeN
    rw [if_neg (by omega), if_pos (by omega), if_pos (by omega)]
    refine Prod.ext ?_ rfl
    simp only
    omega
  by_cases c3 : c ≤ 65535
  · rw [Lib.encodeRuneZ_three (by omega)]
    simp only [List.map_cons, List.map_nil, List.cons_append, List.nil_append, List.getD_cons_zero, List.getD_cons_succ, List.length_cons, List.length_nil]
    rw [toB (by omega) (by omega), toB (by omega) (by omega), toB (by omega) (by omega)]
    unfold Lib.decodeN
    rw [if_neg (by omega), if_neg (by omega), if_pos (by omega), if_pos (by omega)]
    refine Prod.ext ?_ rfl
    simp only
    omega
  · rw [Lib.encodeRuneZ_four (by omega) h1]
    simp only [List.map_cons, List.map_nil, List.cons_append, List.nil_append, List.getD_cons_zero, List.getD_cons_succ, List.length_cons, List.length_nil]
    rw [toB (by omega) (by omega), toB (by omega) (by omega), toB (by omega) (by omega), toB (by omega) (by omega)]
    unfold Lib.decodeN
    rw [if_neg (by omega), if_neg (by omega), if_neg (by omega), if_pos (by omega), if_pos (by omega)]
    refine Prod.ext ?_ rfl
    simp only
    omega
theorem enc_ne (c : Int) : ∃ a t, Lib.encodeRune c = a :: t := by
  have h := (Lib.encodeRuneZ_length c).1
  have h2 : (Lib.encodeRune c).length = (Lib.encodeRuneZ c).length := by simp [Lib.encodeRune]
  cases e : Lib.encodeRune c with
  | nil => rw [e] at h2; simp at h2; omega
  | cons a t => exact ⟨a, t, rfl⟩
theorem runN_enc {c : Int} (h0 : 32 ≤ c) (h1 : c ≤ 1114111) (h2 : c < 55296 ∨ 57343 < c) (r : List UInt8) {was : Int} (hw : was ≠ 13) : runN (Lib.encodeRune c ++ r) was = c :: runN r 0 := by
  obtain ⟨a, t, e⟩ := enc_ne c
  have hd := dcl_enc (by omega) h1 h2 r
  have hl : (Lib.encodeRune c ++ r).drop (Lib.encodeRune c).length = r := List.drop_left
  rw [e] at hd hl ⊢
  rw [List.cons_append] at hd hl ⊢
  rw [runN_cons, hd, if_neg (fun h => hw h.2)]
  simp only
  rw [hl, runN_was r (v := ((c.toNat : Nat) : Int)) (w := 0) (by omega) (by decide)]
  unfold chr
  rw [if_neg (by omega), if_neg (by omega)]
  rw [show ((c.toNat : Nat) : Int) = c by omega]
  rfl
theorem runN_plain (r : List UInt8) : ∀ (l : List UInt8) (was : Int), was ≠ 13 → (∀ x ∈ l, 32 ≤ x.toNat ∧ x.toNat < 128) → runN (l ++ r) was = l.map (fun x => (x.toNat : Int)) ++ runN r 0
  | [], was, hw, _ => by rw [List.nil_append, runN_was r hw (w := 0) (by decide)]; rfl
  | a :: t, was, hw, h => by
    have ha := h a List.mem_cons_self
    rw [List.cons_append, runN_ascii ha.2, if_neg (fun h => hw h.2), runN_plain r t _ (by omega) (fun x hx => h x (List.mem_cons_of_mem _ hx))]
    unfold chr
    rw [if_neg (by omega), if_neg (by omega)]
    rfl
def hexQ (c : Int) : List Int := (hexC c.toNat).map (fun x => (x.toNat : Int))
def cq (sb : Int → Bool) (c : Int) : List Int := if c < 32 ∨ c = 127 then hexQ c else if sb c then [c] else [92, c]
theorem hexC_sign : ∀ c : Fin 128, ∀ x ∈ hexC c.val, 32 ≤ x.toNat ∧ x.toNat < 128 := by decide +kernel
theorem runN_char (sb : Int → Bool) {c : Int} (h : okC c) (r : List UInt8) : runN (charB sb c ++ r) 0 = cq sb c ++ runN r 0 := by
  obtain ⟨h0, h1, h2, h3⟩ := h
  unfold charB plainB cq
  rw [if_neg (by omega)]
  by_cases k : c < 32 ∨ c = 127
  · rw [if_pos k, if_pos k]
    simp only
    rw [runN_plain r _ 0 (by decide) (hexC_sign ⟨c.toNat, by omega⟩)]
    rfl
  · rw [if_neg k, if_neg k]
    by_cases ks : sb c = true
    · rw [if_pos ks, if_pos ks]
      simp only
      rw [runN_enc (by omega) h1 h2 r (by decide)]
      rfl
    · rw [if_neg ks, if_neg ks]
      simp only [List.cons_append]
      rw [runN_ascii (by decide), if_neg (fun h => absurd h.2 (by decide)), runN_enc (by omega) h1 h2 r (by decide)]
      rfl
theorem runN_parts (sb : Int → Bool) (r : List UInt8) : ∀ xs : List Int, (∀ c ∈ xs, okC c) → runN (partsB sb xs ++ r) 0 = xs.flatMap (cq sb) ++ runN r 0
  | [], _ => rfl
  | c :: t, h => by
    rw [partsB_cons, List.append_assoc, runN_char sb (h c List.mem_cons_self), runN_parts sb r t (fun x hx => h x (List.mem_cons_of_mem _ hx)), List.flatMap_cons, List.append_assoc]
def decB : Nat → List UInt8 → List Int
  | 0, _ => []
  | _ + 1, [] => []
  | k + 1, a :: t => ((dcl (a :: t)).1 : Int) :: decB k ((a :: t).drop (dcl (a :: t)).2)
theorem decL_B (S : ByteArray) : ∀ (k pos : Nat), decL S k pos = decB k (S.data.toList.drop pos)
  | 0, _ => rfl
  | k + 1, pos => by
    have hl : S.size = S.data.toList.length := rfl
    by_cases hp : pos < S.size
    · have hd := dec_drop S pos
      obtain ⟨a, t, hat⟩ : ∃ a t, S.data.toList.drop pos = a :: t := ⟨_, _, List.drop_eq_getElem_cons (by omega)⟩
      unfold decL
      rw [if_pos hp, hd, decL_B S k, ← List.drop_drop, hat]
      rfl
    · unfold decL
      rw [if_neg hp, List.drop_eq_nil_of_le (by omega)]
      rfl
theorem dcl_ok (l : List UInt8) : ((dcl l).1 : Int) ≤ 1114111 ∧ (((dcl l).1 : Int) < 55296 ∨ 57343 < ((dcl l).1 : Int)) := by
  rw [dcl_N]
  have k0 := (l.getD 0 0).toNat_lt
  rcases Lib.decodeN_shape l.length (l.getD 0 0).toNat (l.getD 1 0).toNat (l.getD 2 0).toNat (l.getD 3 0).toNat with ⟨c, e⟩ | ⟨c1, c2, c3, cv, e⟩ | ⟨c1, c2, c3, c4, cv, cs, e⟩ | ⟨c1, c2, c3, c4, c5, cv, cw, e⟩ | e
  all_goals rw [e]
  all_goals simp only
  all_goals omega
theorem decB_back : ∀ (k : Nat) (l : List UInt8), l.length ≤ k → (∀ c ∈ decB k l, c ≠ 0 ∧ c ≠ 65533) → strR (decB k l) = l ∧ ∀ c ∈ decB k l, okC c
  | 0, l, h, _ => by
    obtain rfl := List.eq_nil_of_length_eq_zero (by omega : l.length = 0)
    exact ⟨rfl, fun c hc => by cases hc⟩
  | k + 1, [], _, _ => ⟨rfl, fun c hc => by cases hc⟩
  | k + 1, a :: t, h, hc => by
    have hw := dcl_width (a := a) (t := t)
    have h1 := dcl_ok (a :: t)
    unfold decB at hc ⊢
    have h2 := hc _ List.mem_cons_self
    have ih := decB_back k ((a :: t).drop (dcl (a :: t)).2) (by rw [List.length_drop]; omega) (fun c hx => hc c (List.mem_cons_of_mem _ hx))
    have he := Lib.encode_decode (a :: t) (by simp) (fun e => by
      have : (dcl (a :: t)).1 = 65533 := e.1
      omega)
    refine ⟨?_, ?_⟩
    · show Lib.encodeRune _ ++ strR _ = _
      rw [ih.1]
      show Lib.encodeRune ((Lib.decodeL (a :: t)).1 : Int) ++ _ = _
      rw [he]
      exact List.take_append_drop _ _
    · intro c hx
      rcases List.mem_cons.1 hx with rfl | hx
      · unfold okC; omega
      · exact ih.2 c hx
def Clean (S : ByteArray) : Prop := ∀ c ∈ decS S, c ≠ 0 ∧ c ≠ 65533
theorem decS_B (S : ByteArray) : decS S = decB (S.size + 1) S.data.toList := by
  unfold decS
  rw [decL_B, List.drop_zero]
theorem clean_back {S : ByteArray} (h : Clean S) : strR (decS S) = S.data.toList ∧ (∀ c ∈ decS S, okC c) := by
  have hl : S.size = S.data.toList.length := rfl
  unfold Clean at h
  rw [decS_B] at h ⊢
  exact decB_back _ _ (by omega) h
theorem clean_strB {S : ByteArray} (h : Clean S) : strB (decS S) = S := by
  unfold strB
  rw [(clean_back h).1]
theorem quotS_endq (q : Int) (t : List Int) : quotS q (q :: t) = (false, [], t) := by
  unfold quotS
  rw [List.length_cons]
  unfold quotL
  rw [if_pos rfl]
theorem quotS_charq {q c : Int} (t : List Int) (h1 : c ≠ q) (h2 : c ≠ 10) (h3 : c ≠ 92) : quotS q (c :: t) = ((quotS q t).1, c :: (quotS q t).2.1, (quotS q t).2.2) := by
  unfold quotS
  rw [List.length_cons, quotL, if_neg h1, if_neg h2, if_neg (by unfold escB; rw [show pk (c :: t) 0 = c from rfl]; simp [h3]), if_neg h3]
theorem quotS_escq {q d : Int} (t : List Int) (hq : q ≠ 92) (h1 : d ≠ 10) (h2 : d ≠ -1) : quotS q (92 :: d :: t) = ((quotS q (escd (92 :: d :: t)).2).1, (escd (92 :: d :: t)).1 :: (quotS q (escd (92 :: d :: t)).2).2.1, (quotS q (escd (92 :: d :: t)).2).2.2) := by
  have hl := escd_len 92 (d :: t)
  unfold quotS
  rw [List.length_cons, quotL, if_neg (fun e => hq e.symm), if_neg (by decide), if_pos ⟨by unfold escB; rw [show pk (92 :: d :: t) 0 = 92 from rfl, show pk (92 :: d :: t) (0 + 1) = d from rfl]; simp [h1], h2⟩, quotL_fuel q (d :: t).length (escd (92 :: d :: t)).2.length _ hl (Nat.le_refl _)]
theorem escd_sign {d : Int} (t : List Int) (h : hexI d < 0) : escd (92 :: d :: t) = (d, t) := by
  unfold escd
  simp only [List.drop_succ_cons, List.drop_zero]
  rw [if_pos h]
theorem hex_cases {c : Int} (h : 0 < c ∧ c < 32 ∨ c = 127 ∨ 48 ≤ c ∧ c ≤ 57) (t : List Int) : escd (hexQ c ++ t) = (c, t) ∧ ∃ d u, hexQ c ++ t = 92 :: d :: u ∧ d ≠ 10 ∧ d ≠ -1 := by
  have : c = 1 ∨ c = 2 ∨ c = 3 ∨ c = 4 ∨ c = 5 ∨ c = 6 ∨ c = 7 ∨ c = 8 ∨ c = 9 ∨ c = 10 ∨ c = 11 ∨ c = 12 ∨ c = 13 ∨ c = 14 ∨ c = 15 ∨ c = 16 ∨ c = 17 ∨ c = 18 ∨ c = 19 ∨ c = 20 ∨ c = 21 ∨ c = 22 ∨ c = 23 ∨ c = 24 ∨ c = 25 ∨ c = 26 ∨ c = 27 ∨ c = 28 ∨ c = 29 ∨ c = 30 ∨ c = 31 ∨ c = 127 ∨ c = 48 ∨ c = 49 ∨ c = 50 ∨ c = 51 ∨ c = 52 ∨ c = 53 ∨ c = 54 ∨ c = 55 ∨ c = 56 ∨ c = 57 := by omega
  rcases this with rfl | rfl | rfl | rfl | rfl | rfl | rfl | rfl | rfl | rfl | rfl | rfl | rfl | rfl | rfl | rfl | rfl | rfl | rfl | rfl | rfl | rfl | rfl | rfl | rfl | rfl | rfl | rfl | rfl | rfl | rfl | rfl | rfl | rfl | rfl | rfl | rfl | rfl | rfl | rfl | rfl | rfl
  all_goals exact ⟨by rfl, _, _, rfl, by decide, by decide⟩
theorem quot_read (r : List Int) : ∀ xs : List Int, (∀ c ∈ xs, okC c) → quotS 34 (xs.flatMap (cq quoB) ++ 34 :: r) = (false, xs, r)
  | [], _ => quotS_endq 34 r
  | c :: t, h => by
    have hc := h c List.mem_cons_self
    have ih := quot_read r t (fun x hx => h x (List.mem_cons_of_mem _ hx))
    obtain ⟨h0, h1, h2, h3⟩ := hc
    rw [List.flatMap_cons, List.append_assoc]
    generalize t.flatMap (cq quoB) ++ 34 :: r = T at ih ⊢
    unfold cq
    by_cases k : c < 32 ∨ c = 127
    · rw [if_pos k]
      obtain ⟨e1, d, u, e2, e3, e4⟩ := hex_cases (c := c) (by omega) T
      rw [e2] at e1 ⊢
      rw [quotS_escq u (by decide) e3 e4, e1, ih]
    · rw [if_neg k]
      by_cases ks : quoB c = true
      · rw [if_pos ks]
        have : c ≠ 34 ∧ c ≠ 92 := by
          unfold quoB at ks
          simpa using ks
        rw [List.cons_append, List.nil_append, quotS_charq T this.1 (by omega) this.2, ih]
      · rw [if_neg ks]
        have : c = 34 ∨ c = 92 := by
          apply Decidable.byContradiction
          intro hn
          apply ks
          unfold quoB
          simp only [Bool.and_eq_true, bne_iff_ne]
          omega
        rw [List.cons_append, List.cons_append, List.nil_append, quotS_escq T (by decide) (by omega) (by omega), escd_sign T (by rcases this with rfl | rfl <;> decide), ih]
theorem quote_cut {S : ByteArray} (h : Clean S) : cutS ⟨(quoteS S).toArray⟩ = [⟨5, S, ⟨#[]⟩, false, false⟩] := by
  have hx := (clean_back h).2
  have hs := clean_strB h
  have hr : runS ⟨(quoteS S).toArray⟩ = 34 :: ((decS S).flatMap (cq quoB) ++ [34]) := by
    rw [runS_N]
    show runN (34 :: (partsB quoB (decS S) ++ [34])) 0 = _
    rw [runN_ascii (by decide), if_neg (fun h => absurd h.2 (by decide)), runN_was _ (w := 0) (by decide) (by decide), runN_parts quoB [34] _ hx]
    rfl
  have hw : wayN (34 :: ((decS S).flatMap (cq quoB) ++ [34])) = 65 := by
    unfold wayN
    rw [show pk (34 :: ((decS S).flatMap (cq quoB) ++ [34])) 0 = 34 from rfl]
    rfl
  unfold cutS
  rw [hr, toksS_unf, if_neg (by unfold comB; rw [show pk (34 :: ((decS S).flatMap (cq quoB) ++ [34])) 0 = 34 from rfl]; simp)]
  have ho : oneK (34 :: ((decS S).flatMap (cq quoB) ++ [34])) = (kt 5 S, []) := by
    unfold oneK
    simp only [hw]
    simp only [reduceIte, Nat.reduceEqDiff]
    rw [show pk (34 :: ((decS S).flatMap (cq quoB) ++ [34])) 0 = 34 from rfl, List.tail_cons]
    unfold quotK
    rw [quot_read [] _ hx]
    simp only
    rw [hs]
    rfl
  rw [ho]
  rfl
end Go.Proofs.YtpnlbmeeihbjaabDoor.P
end
section
set_option linter.unusedVariables false
set_option linter.unusedSimpArgs false
namespace Go.Proofs.YtpnlbmeeihbjaabDoor.P
open Go.RowKit Go.Proofs.YtpnlbmeeihbjaabDoorW.PrintWords Go.Proofs.YtpnlbmeeihbjaabDoorW.PrintLast Go.Proofs.YtpnlbmeeihbjaabDoorW.PrintMore
open Go.Lib
attribute [local go_sem] max2_int min2_int max_two min_two max_three min_three max_four min_four
set_option linter.unusedVariables false
set_option linter.unusedSimpArgs false
theorem decB_fuel : ∀ (k m : Nat) (l : List UInt8), l.length ≤ k → l.length ≤ m → decB k l = decB m l
  | 0, 0, _, _, _ => rfl
  | 0, m + 1, l, h, _ => by
    obtain rfl := List.eq_nil_of_length_eq_zero (by omega : l.length = 0)
    rfl
  | k + 1, 0, l, _, h => by
    obtain rfl := List.eq_nil_of_length_eq_zero (by omega : l.length = 0)
    rfl
  | k + 1, m + 1, [], _, _ => rfl
  | k + 1, m + 1, a :: t, h1, h2 => by
    have hw := dcl_width (a := a) (t := t)
    have hd : ((a :: t).drop (dcl (a :: t)).2).length = (a :: t).length - (dcl (a :: t)).2 := List.length_drop
    unfold decB
    rw [decB_fuel k m _ (by omega) (by omega)]
def decN (l : List UInt8) : List Int := decB l.length l
theorem decS_N (S : ByteArray) : decS S = decN S.data.toList := by
  have hl : S.size = S.data.toList.length := rfl
  rw [decS_B]
  exact decB_fuel _ _ _ (by omega) (Nat.le_refl _)
theorem decN_nil : decN [] = [] := rfl
theorem decN_cons (a : UInt8) (t : List UInt8) : decN (a :: t) = ((dcl (a :: t)).1 : Int) :: decN ((a :: t).drop (dcl (a :: t)).2) := by
  have hw := dcl_width (a := a) (t := t)
  have hd : ((a :: t).drop (dcl (a :: t)).2).length = (a :: t).length - (dcl (a :: t)).2 := List.length_drop
  unfold decN
  rw [List.length_cons, decB, decB_fuel t.length _ _ (by rw [List.length_cons] at hd; omega) (Nat.le_refl _)]
theorem decN_ascii {a : UInt8} (h : a.toNat < 128) (t : List UInt8) : decN (a :: t) = (a.toNat : Int) :: decN t := by
  rw [decN_cons, dcl_ascii h]
  rfl
theorem ext_tail (R : ByteArray) : (R.extract 1 R.size).data.toList = R.data.toList.tail := by
  have hl : R.size = R.data.toList.length := rfl
  rw [ByteArray.data_extract, Array.toList_extract, List.extract_eq_take_drop, List.drop_one, List.take_of_length_le (by rw [List.length_tail]; omega)]
def fq (c : Int) : List Int := if 48 ≤ c ∧ c ≤ 57 then hexQ c else cq partB c
def escE : List Int → List Int
  | [] => []
  | c :: t => fq c ++ t.flatMap (cq partB)
theorem escE_cons (c : Int) (t : List Int) : escE (c :: t) = fq c ++ t.flatMap (cq partB) := rfl
theorem runN_hex {c : Nat} (h : c < 128) (r : List UInt8) : runN (hexC c ++ r) 0 = hexQ (c : Int) ++ runN r 0 := by
  rw [runN_plain r _ 0 (by decide) (hexC_sign ⟨c, h⟩)]
  rfl
theorem escR_run (R : ByteArray) (h : ∀ c ∈ decS R, okC c) (r : List UInt8) : runN (escR R ++ r) 0 = escE (decS R) ++ runN r 0 := by
  have hl : R.size = R.data.toList.length := rfl
  rw [decS_N] at h ⊢
  unfold escR
  by_cases hd : 0 < R.size ∧ btw 48 57 (hd0 R) = true
  · rw [if_pos hd, decS_N, ext_tail]
    obtain ⟨h0, h1⟩ := hd
    rw [hd0_at R h0] at h1 ⊢
    have hg : R.data.toList[0]'(by omega) = R[0]'h0 := by
      rw [Array.getElem_toList]; rfl
    generalize R[0]'h0 = a at h1 hg ⊢
    obtain ⟨a', t, e⟩ : ∃ a t, R.data.toList = a :: t := ⟨_, _, (List.cons_head_tail (List.length_pos_iff.1 (by omega))).symm⟩
    simp only [e, List.getElem_cons_zero] at hg
    subst hg
    rw [e] at h ⊢
    have hb : 48 ≤ a'.toNat ∧ a'.toNat ≤ 57 := by
      unfold btw at h1
      simp only [Bool.and_eq_true, decide_eq_true_eq] at h1
      omega
    rw [decN_ascii (by omega)] at h ⊢
    rw [List.tail_cons, List.append_assoc, runN_hex (by omega), runN_parts partB r _ (fun x hx => h x (List.mem_cons_of_mem _ hx))]
    rw [escE_cons]
    unfold fq
    rw [if_pos (by omega), List.append_assoc]
  · rw [if_neg hd, decS_N, runN_parts partB r _ h]
    congr 1
    cases hx : decN R.data.toList with
    | nil => rfl
    | cons c t =>
      rw [List.flatMap_cons]
      rw [escE_cons]
      unfold fq
      rw [if_neg]
      intro hc
      apply hd
      have h0 : 0 < R.size := by
        rw [hl]
        apply Decidable.byContradiction
        intro hn
        rw [List.eq_nil_of_length_eq_zero (by omega : R.data.toList.length = 0), decN_nil] at hx
        cases hx
      refine ⟨h0, ?_⟩
      have hg : R.data.toList[0]'(by omega) = R[0]'h0 := by
        rw [Array.getElem_toList]; rfl
      rw [hd0_at R h0]
      generalize R[0]'h0 = a at hg ⊢
      obtain ⟨a', u, e⟩ : ∃ a t, R.data.toList = a :: t := ⟨_, _, (List.cons_head_tail (List.length_pos_iff.1 (by omega))).symm⟩
      simp only [e, List.getElem_cons_zero] at hg
      subst hg
      rw [e, decN_cons] at hx
      injection hx with hx1 hx2
      have := dcl_head (a := a') (t := u) (by omega)
      unfold btw
      simp only [Bool.and_eq_true, decide_eq_true_eq]
      omega
def escQ : List Int → List Int
  | 45 :: c :: t => 45 :: escE (c :: t)
  | [45] => [92, 45]
  | xs => escE xs
theorem escQ_else {c : Int} {t : List Int} (h : c ≠ 45) : escQ (c :: t) = escE (c :: t) := by
  unfold escQ
  split
  · rename_i e; injection e with e1 _; exact absurd e1 h
  · rename_i e; injection e with e1 _; exact absurd e1 h
  · rfl
theorem pref_45 (S : ByteArray) : hpB S ⟨#[45]⟩ = true ↔ ∃ t, S.data.toList = 45 :: t := by
  have hl : S.size = S.data.toList.length := rfl
  unfold hpB
  rw [Bool.and_eq_true, decide_eq_true_eq, beq_iff_eq, ByteArray.toList_eq, ByteArray.toList_eq, ByteArray.data_extract, Array.toList_extract, List.extract_eq_take_drop, List.drop_zero]
  show 1 ≤ S.size ∧ List.take 1 S.data.toList = [45] ↔ _
  rw [hl]
  constructor
  · rintro ⟨h1, h2⟩
    cases e : S.data.toList with
    | nil => rw [e] at h1; cases h1
    | cons a t =>
      rw [e] at h2
      simp at h2
      exact ⟨t, by rw [h2]⟩
  · rintro ⟨t, e⟩
    rw [e]
    exact ⟨by simp, rfl⟩
theorem escS_run {S : ByteArray} (h : Clean S) (r : List UInt8) : runN (escS S ++ r) 0 = escQ (decS S) ++ runN r 0 := by
  have hl : S.size = S.data.toList.length := rfl
  have hx := (clean_back h).2
  have hp := pref_45 S
  unfold escS
  by_cases h1 : hpB S ⟨#[45]⟩ = true ∧ 1 < S.size
  · rw [if_pos h1]
    obtain ⟨t, e⟩ := hp.1 h1.1
    have hd : decS S = 45 :: decS (S.extract 1 S.size) := by
      rw [decS_N, decS_N, ext_tail, e, decN_ascii (by decide)]
      rfl
    rw [hd] at hx ⊢
    rw [List.cons_append, runN_ascii (by decide), if_neg (fun h => absurd h.2 (by decide)), runN_was _ (w := 0) (by decide) (by decide), escR_run _ (fun c hc => hx c (List.mem_cons_of_mem _ hc))]
    obtain ⟨c, u, e2⟩ : ∃ c u, decS (S.extract 1 S.size) = c :: u := by
      rw [decS_N, ext_tail, e, List.tail_cons]
      cases t with
      | nil => rw [hl, e] at h1; exact absurd h1.2 (by decide)
      | cons a t => exact ⟨_, _, decN_cons a t⟩
    rw [e2]
    rfl
  · rw [if_neg h1]
    by_cases h2 : S.toList = [45]
    · rw [if_pos h2]
      rw [ByteArray.toList_eq] at h2
      rw [decS_N, h2]
      rw [List.cons_append, List.cons_append, List.nil_append, runN_ascii (by decide), if_neg (fun h => absurd h.2 (by decide)), runN_ascii (by decide), if_neg (fun h => absurd h.2 (by decide)), runN_was r (w := 0) (by decide) (by decide)]
      rfl
    · rw [if_neg h2, escR_run S hx r]
      congr 1
      cases e : decS S with
      | nil => rfl
      | cons c u =>
        rw [escQ_else]
        rintro rfl
        rw [decS_N] at e
        cases e3 : S.data.toList with
        | nil => rw [e3, decN_nil] at e; cases e
        | cons a t =>
          rw [e3, decN_cons] at e
          injection e with e4 e5
          have := dcl_head (a := a) (t := t) (by omega)
          have ha : a = 45 := by
            apply UInt8.toNat.inj
            show a.toNat = 45
            omega
          subst ha
          have hpt := hp.2 ⟨t, e3⟩
          apply h2
          rw [ByteArray.toList_eq, e3]
          cases t with
          | nil => rfl
          | cons b t => exact absurd ⟨hpt, by rw [hl, e3]; simp⟩ h1
theorem part_hex {c : Int} (h : partB c = false) : hexI c < 0 := by
  unfold partB startB btw at h
  simp only [Bool.or_eq_false_iff, Bool.and_eq_false_iff, decide_eq_false_iff_not, beq_eq_false_iff_ne] at h
  unfold hexI
  rw [if_neg (by omega), if_neg (by omega), if_neg (by omega)]
  decide
theorem name_hex {c : Int} (h : 0 < c ∧ c < 32 ∨ c = 127 ∨ 48 ≤ c ∧ c ≤ 57) (T : List Int) : nameS (hexQ c ++ T) = (c :: (nameS T).1, (nameS T).2) := by
  obtain ⟨e1, d, u, e2, e3, e4⟩ := hex_cases h T
  rw [e2] at e1 ⊢
  rw [nameS_esc (by decide) (by unfold escB; rw [show pk (92 :: d :: u) 0 = 92 from rfl, show pk (92 :: d :: u) (0 + 1) = d from rfl]; simp [e3]), e1]
theorem name_cq {c : Int} (h : okC c) (T : List Int) : nameS (cq partB c ++ T) = (c :: (nameS T).1, (nameS T).2) := by
  obtain ⟨h0, h1, h2, h3⟩ := h
  unfold cq
  by_cases k : c < 32 ∨ c = 127
  · rw [if_pos k]
    exact name_hex (by omega) T
  · rw [if_neg k]
    by_cases ks : partB c = true
    · rw [if_pos ks]
      exact nameS_part ks
    · rw [if_neg ks]
      have ks' : partB c = false := by simpa using ks
      rw [List.cons_append, List.cons_append, List.nil_append, nameS_esc (by decide) (by unfold escB; rw [show pk (92 :: c :: T) 0 = 92 from rfl, show pk (92 :: c :: T) (0 + 1) = c from rfl]; have : c ≠ 10 := by omega
                                                                                         simp [this]), escd_sign T (part_hex ks')]
theorem name_fq {c : Int} (h : okC c) (T : List Int) : nameS (fq c ++ T) = (c :: (nameS T).1, (nameS T).2) := by
  unfold fq
  by_cases k : 48 ≤ c ∧ c ≤ 57
  · rw [if_pos k]; exact name_hex (by omega) T
  · rw [if_neg k]; exact name_cq h T
theorem name_parts (T : List Int) : ∀ xs : List Int, (∀ c ∈ xs, okC c) → nameS (xs.flatMap (cq partB) ++ T) = (xs ++ (nameS T).1, (nameS T).2)
  | [], _ => rfl
  | c :: t, h => by
    rw [List.flatMap_cons, List.append_assoc, name_cq (h c List.mem_cons_self), name_parts T t (fun x hx => h x (List.mem_cons_of_mem _ hx))]
    rfl
theorem name_escE (T : List Int) (xs : List Int) (h : ∀ c ∈ xs, okC c) : nameS (escE xs ++ T) = (xs ++ (nameS T).1, (nameS T).2) := by
  cases xs with
  | nil => rfl
  | cons c t =>
    unfold escE
    rw [List.append_assoc, name_fq (h c List.mem_cons_self), name_parts T t (fun x hx => h x (List.mem_cons_of_mem _ hx))]
    rfl
theorem name_escQ (T : List Int) (xs : List Int) (h : ∀ c ∈ xs, okC c) : nameS (escQ xs ++ T) = (xs ++ (nameS T).1, (nameS T).2) := by
  unfold escQ
  split
  · rename_i c t
    rw [List.cons_append, nameS_part (by decide), name_escE T _ (fun x hx => h x (List.mem_cons_of_mem _ hx))]
    rfl
  · rw [List.cons_append, List.cons_append, List.nil_append, nameS_esc (by decide) rfl, escd_sign T (by decide)]
    rfl
  · exact name_escE T _ h
theorem cnt_zero {s : List Int} (h1 : pk s 0 ≠ 43) (h2 : pk s 0 ≠ 45) (hd : digB (pk s 0) = false) (h3 : pk s 0 ≠ 46) : cntB s = false := by
  unfold cntB
  rw [if_neg (by omega)]
  show (digB (pk s 0) || (pk s 0 == 46 && digB (pk s 1))) = false
  rw [hd]
  simp [h3]
theorem cnt_sign {s : List Int} (h1 : pk s 0 = 43 ∨ pk s 0 = 45) (hd : digB (pk s 1) = false) (h3 : pk s 1 ≠ 46) : cntB s = false := by
  unfold cntB
  rw [if_pos h1]
  show (digB (pk s 1) || (pk s 1 == 46 && digB (pk s 2))) = false
  rw [hd]
  simp [h3]
def Beg0 (s : List Int) : Prop := (pk s 0 = 92 ∧ pk s 1 ≠ 10) ∨ startB (pk s 0) = true
theorem start_fact {c : Int} (h : startB c = true) : 65 ≤ c ∧ c ≠ 92 := by
  unfold startB btw at h
  simp only [Bool.or_eq_true, Bool.and_eq_true, decide_eq_true_eq, beq_iff_eq] at h
  omega
theorem dig_hi {c : Int} (h : 65 ≤ c) : digB c = false := by
  unfold digB btw
  simp only [Bool.and_eq_false_iff, decide_eq_false_iff_not]
  omega
theorem Beg0.hi {s : List Int} (h : Beg0 s) : 65 ≤ pk s 0 := by
  rcases h with h | h
  · omega
  · exact (start_fact h).1
theorem Beg0.beg {s : List Int} (h : Beg0 s) : begB s 0 = true := by
  have := h.hi
  unfold begB
  rw [if_neg (by omega)]
  rcases h with ⟨h1, h2⟩ | h
  · unfold escB
    rw [h1]
    simp [h2]
  · rw [h]; rfl
theorem Beg0.way {s : List Int} (h : Beg0 s) : wayN s = 73 := by
  have h1 := h.hi
  unfold wayN
  rw [h.beg]
  rw [if_neg (by unfold blankB; simp only [Bool.or_eq_true, beq_iff_eq]; omega), if_neg (by simp only [Bool.or_eq_true, beq_iff_eq]; omega), if_neg (by simp only [Bool.and_eq_true, beq_iff_eq]; omega)]
  rw [cnt_zero (by omega) (by omega) (dig_hi h1) (by omega), if_neg (by simp)]
  rw [if_neg (by unfold cdcB; simp only [Bool.and_eq_true, beq_iff_eq]; omega), if_neg (by unfold cdoB; simp only [Bool.and_eq_true, beq_iff_eq]; omega)]
  rfl
def Beg1 (u : List Int) : Prop := Beg0 u ∨ (pk u 0 = 45 ∧ pk u 1 ≠ 62)
theorem Beg1.beg {u : List Int} (h : Beg1 u) : begB (45 :: u) 0 = true := by
  unfold begB
  rw [show pk (45 :: u) 0 = 45 from rfl, if_pos rfl, show pk (45 :: u) (0 + 1) = pk u 0 from rfl, show escB (45 :: u) (0 + 1) = escB u 0 from rfl]
  rcases h with (⟨h1, h2⟩ | h) | h
  · have : escB u 0 = true := by
      unfold escB
      rw [h1]
      simp [h2]
    rw [this]; simp
  · rw [h]; simp
  · rw [h.1]; rfl
theorem Beg1.way {u : List Int} (h : Beg1 u) : wayN (45 :: u) = 73 := by
  have h0 : pk (45 :: u) 0 = 45 := rfl
  have h1 : pk (45 :: u) 1 = pk u 0 := rfl
  have h2 : pk (45 :: u) 2 = pk u 1 := rfl
  have hd : digB (pk u 0) = false ∧ pk u 0 ≠ 46 ∧ ¬ (pk u 0 = 45 ∧ pk u 1 = 62) := by
    rcases h with h | h
    · have := h.hi
      exact ⟨dig_hi this, by omega, by omega⟩
    · rw [h.1]
      exact ⟨by decide, by decide, fun e => h.2 e.2⟩
  unfold wayN
  rw [h.beg, h0]
  rw [if_neg (by decide), if_neg (by decide), if_neg (by simp)]
  rw [cnt_sign (.inr h0) (by rw [h1]; exact hd.1) (by rw [h1]; exact hd.2.1), if_neg (by simp)]
  rw [if_neg (by unfold cdcB; rw [h0, h1, h2]; simp only [Bool.and_eq_true, beq_iff_eq]; exact fun e => hd.2.2 ⟨e.2.1, e.2.2⟩), if_neg (by unfold cdoB; rw [h0]; simp)]
  rfl
theorem pk_hex {c : Int} (h : 0 < c ∧ c < 32 ∨ c = 127 ∨ 48 ≤ c ∧ c ≤ 57) (T : List Int) : pk (hexQ c ++ T) 0 = 92 ∧ pk (hexQ c ++ T) 1 ≠ 10 := by
  obtain ⟨e1, d, u, e2, e3, e4⟩ := hex_cases h T
  rw [e2]
  exact ⟨rfl, e3⟩
theorem pk_cq {c : Int} (h : okC c) (T : List Int) : pk (cq partB c ++ T) 0 = 92 ∧ pk (cq partB c ++ T) 1 ≠ 10 ∨ (partB c = true ∧ cq partB c = [c]) := by
  obtain ⟨h0, h1, h2, h3⟩ := h
  unfold cq
  by_cases k : c < 32 ∨ c = 127
  · rw [if_pos k]; exact .inl (pk_hex (by omega) T)
  · rw [if_neg k]
    by_cases ks : partB c = true
    · rw [if_pos ks]; exact .inr ⟨ks, rfl⟩
    · rw [if_neg ks]; exact .inl ⟨rfl, by show c ≠ 10; omega⟩
theorem pk_fq {c : Int} (h : okC c) (hc : c ≠ 45) (T : List Int) : Beg0 (fq c ++ T) := by
  unfold fq
  by_cases k : 48 ≤ c ∧ c ≤ 57
  · rw [if_pos k]; exact .inl (pk_hex (by omega) T)
  · rw [if_neg k]
    rcases pk_cq h T with h' | ⟨h1, h2⟩
    · exact .inl h'
    · right
      rw [h2]
      show startB c = true
      unfold partB at h1
      have e1 : (c == 45) = false := by simpa using hc
      have e2 : btw 48 57 c = false := by
        unfold btw
        simp only [Bool.and_eq_false_iff, decide_eq_false_iff_not]
        omega
      rw [e1, e2] at h1
      simpa using h1
theorem pk_parts {T : List Int} (hT : pk T 0 ≠ 62) : ∀ xs : List Int, (∀ c ∈ xs, okC c) → pk (xs.flatMap (cq partB) ++ T) 0 ≠ 62
  | [], _ => hT
  | c :: t, h => by
    rw [List.flatMap_cons, List.append_assoc]
    rcases pk_cq (h c List.mem_cons_self) (t.flatMap (cq partB) ++ T) with h' | ⟨h1, h2⟩
    · rw [h'.1]; decide
    · rw [h2]
      show c ≠ 62
      rintro rfl
      revert h1; decide
theorem escE_beg {T : List Int} (hT : pk T 0 ≠ 62) {c : Int} {t : List Int} (h : ∀ x ∈ c :: t, okC x) : Beg1 (escE (c :: t) ++ T) := by
  unfold escE
  rw [List.append_assoc]
  by_cases hc : c = 45
  · subst hc
    right
    refine ⟨rfl, ?_⟩
    show pk (t.flatMap (cq partB) ++ T) 0 ≠ 62
    exact pk_parts hT t (fun x hx => h x (List.mem_cons_of_mem _ hx))
  · exact .inl (pk_fq (h c List.mem_cons_self) hc _)
theorem escQ_way {T : List Int} (hT : pk T 0 ≠ 62) {xs : List Int} (hne : xs ≠ []) (h : ∀ x ∈ xs, okC x) : wayN (escQ xs ++ T) = 73 ∧ begB (escQ xs ++ T) 0 = true := by
  cases xs with
  | nil => exact absurd rfl hne
  | cons c t =>
    by_cases hc : c = 45
    · subst hc
      cases t with
      | nil => exact ⟨Beg0.way (.inl ⟨rfl, (by decide : (45 : Int) ≠ 10)⟩), Beg0.beg (.inl ⟨rfl, (by decide : (45 : Int) ≠ 10)⟩)⟩
      | cons d u =>
        have hb := escE_beg hT (c := d) (t := u) (fun x hx => h x (List.mem_cons_of_mem _ hx))
        exact ⟨hb.way, hb.beg⟩
    · rw [escQ_else hc]
      unfold escE
      rw [List.append_assoc]
      have hb := pk_fq (h c List.mem_cons_self) hc (t.flatMap (cq partB) ++ T)
      exact ⟨hb.way, hb.beg⟩
theorem com_way {s : List Int} (h : begB s 0 = true) : comB s = false := by
  have : pk s 0 ≠ 47 := fun e => by
    unfold begB escB at h
    rw [e] at h
    revert h
    rw [if_neg (by decide), show startB 47 = false by decide]
    simp
  unfold comB
  simp [this]
theorem toks_eq {s : List Int} (hs : s ≠ []) (hc : comB s = false) : toksS s = (oneK s).1 :: toksS (oneK s).2 := by
  cases s with
  | nil => exact absurd rfl hs
  | cons c t => rw [toksS_unf, if_neg (by rw [hc]; simp)]
theorem beg_ne {s : List Int} (h : begB s 0 = true) : s ≠ [] := by rintro rfl; revert h; decide
theorem decS_ne {S : ByteArray} (h : S.data.toList ≠ []) : decS S ≠ [] := by
  rw [decS_N]
  cases e : S.data.toList with
  | nil => exact absurd e h
  | cons a t => rw [decN_cons]; simp
theorem beg_parts {s : List Int} (h : begB s 0 = true) : partB (pk s 0) = true ∨ escB s 0 = true := by
  cases s with
  | nil => revert h; decide
  | cons c t => exact beg_name h
section
variable {S : ByteArray} (h : Clean S) (hne : S.data.toList ≠ [])
include h hne
theorem esc_cut : cutS ⟨(escS S).toArray⟩ = [⟨1, S, ⟨#[]⟩, false, false⟩] := by
  have hx := (clean_back h).2
  have hs := clean_strB h
  have hr := escS_run h []
  rw [List.append_nil, runN_nil, List.append_nil] at hr
  have hw := escQ_way (T := []) (by decide) (decS_ne hne) hx
  have hn := name_escQ [] _ hx
  rw [nameS_nil, List.append_nil] at hn
  rw [List.append_nil] at hw hn
  simp only at hn
  unfold cutS
  rw [runS_N]
  show toksS (runN (escS S) 0) = _
  rw [hr, toks_eq (beg_ne hw.2) (com_way hw.2)]
  have ho : oneK (escQ (decS S)) = (kt 1 S, []) := by
    unfold oneK
    simp only [hw.1]
    simp only [reduceIte, Nat.reduceEqDiff]
    unfold wordK wordR
    simp only [hn]
    rw [if_pos (by decide), if_pos (by decide), hs]
  rw [ho]
  rfl
theorem at_cut : cutS (⟨#[64]⟩ ++ ⟨(escS S).toArray⟩) = [⟨3, S, ⟨#[]⟩, false, false⟩] := by
  have hx := (clean_back h).2
  have hs := clean_strB h
  have hr := escS_run h []
  rw [List.append_nil, runN_nil, List.append_nil] at hr
  have hw := escQ_way (T := []) (by decide) (decS_ne hne) hx
  have hn := name_escQ [] _ hx
  rw [nameS_nil, List.append_nil] at hn
  rw [List.append_nil] at hw hn
  simp only at hn
  unfold cutS
  rw [runS_N]
  rw [show ((⟨#[64]⟩ : ByteArray) ++ ⟨(escS S).toArray⟩).data.toList = 64 :: escS S by simp]
  rw [runN_ascii (by decide), if_neg (fun h => absurd h.2 (by decide)), runN_was _ (w := 0) (by decide) (by decide), hr]
  show toksS (64 :: escQ (decS S)) = _
  generalize escQ (decS S) = e at hw hn ⊢
  have hw2 : wayN (64 :: e) = 74 := by
    unfold wayN
    rw [show pk (64 :: e) 0 = 64 from rfl, show begB (64 :: e) 1 = begB e 0 from rfl, hw.2]
    rw [show cntB (64 :: e) = false by unfold cntB; rfl, show cdcB (64 :: e) = false from rfl, show cdoB (64 :: e) = false from rfl, show begB (64 :: e) 0 = false from rfl]
    rfl
  have ho : oneK (64 :: e) = (kt 3 S, []) := by
    unfold oneK
    simp only [hw2]
    simp only [reduceIte, Nat.reduceEqDiff, List.tail_cons]
    rw [hn]
    simp only
    rw [hs]
  rw [toks_eq (by simp) rfl, ho]
  rfl
theorem hash_cut : cutS (⟨#[35]⟩ ++ ⟨(escS S).toArray⟩) = [⟨4, S, ⟨#[]⟩, false, true⟩] := by
  have hx := (clean_back h).2
  have hs := clean_strB h
  have hr := escS_run h []
  rw [List.append_nil, runN_nil, List.append_nil] at hr
  have hw := escQ_way (T := []) (by decide) (decS_ne hne) hx
  have hn := name_escQ [] _ hx
  rw [nameS_nil, List.append_nil] at hn
  rw [List.append_nil] at hw hn
  simp only at hn
  unfold cutS
  rw [runS_N]
  rw [show ((⟨#[35]⟩ : ByteArray) ++ ⟨(escS S).toArray⟩).data.toList = 35 :: escS S by simp]
  rw [runN_ascii (by decide), if_neg (fun h => absurd h.2 (by decide)), runN_was _ (w := 0) (by decide) (by decide), hr]
  show toksS (35 :: escQ (decS S)) = _
  generalize escQ (decS S) = e at hw hn ⊢
  have hh : hashB (35 :: e) = true := by
    have hb := hw.2
    unfold hashB
    rw [show escB (35 :: e) 1 = escB e 0 from rfl, show pk (35 :: e) 1 = pk e 0 from rfl]
    rcases beg_parts hb with h1 | h1
    · rw [h1, show (pk e 0 != -1) = true by simpa using partB_nn h1]
      simp
    · rw [h1]; rfl
  have hw2 : wayN (35 :: e) = 67 := by
    unfold wayN
    rw [show pk (35 :: e) 0 = 35 from rfl, hh]
    rfl
  have ho : oneK (35 :: e) = (⟨4, S, ⟨#[]⟩, false, true⟩, []) := by
    unfold oneK
    simp only [hw2]
    simp only [reduceIte, Nat.reduceEqDiff, List.tail_cons]
    rw [hn, hw.2]
    simp only
    rw [hs]
  rw [toks_eq (by simp) rfl, ho]
  rfl
end
end Go.Proofs.YtpnlbmeeihbjaabDoor.P
end
section
set_option linter.unusedVariables false
set_option linter.unusedSimpArgs false
namespace Go.Proofs.YtpnlbmeeihbjaabDoor.P
open Go.RowKit Go.Proofs.YtpnlbmeeihbjaabDoorW.PrintWords Go.Proofs.YtpnlbmeeihbjaabDoorW.PrintLast Go.Proofs.YtpnlbmeeihbjaabDoorW.PrintMore
open Go.Lib
attribute [local go_sem] max2_int min2_int max_two min_two max_three min_three max_four min_four
set_option linter.unusedVariables false
set_option linter.unusedSimpArgs false
theorem bits_or_i32 (a b : Nat) (ha : a < 2147483648) (hb : b < 2147483648) : Go.bits .or .i32 (a : Int) (b : Int) = ((a ||| b : Nat) : Int) := by
  have hx : a ||| b < 2 ^ 31 := Nat.or_lt_two_pow (by omega) (by omega)
  have h1 : (BitVec.ofInt 32 (a : Int)).toNat = a := by
    rw [BitVec.ofInt_natCast, BitVec.toNat_ofNat]; exact Nat.mod_eq_of_lt (by omega)
  have h2 : (BitVec.ofInt 32 (b : Int)).toNat = b := by
    rw [BitVec.ofInt_natCast, BitVec.toNat_ofNat]; exact Nat.mod_eq_of_lt (by omega)
  show IntKind.i32.wrap ((BitVec.ofInt 32 (a : Int) ||| BitVec.ofInt 32 (b : Int)).toNat : Int) = _
  rw [BitVec.toNat_or, h1, h2, IntKind.wrap_i32]
  omega
theorem low_e : ∀ n : Fin 128, (n.val ||| 32 = 101) → n.val = 69 ∨ n.val = 101 := by decide
theorem or_101 {c : Int} (h0 : -1 ≤ c) (h1 : c ≤ 1114111) : (Go.bits .or .i32 c 32 == 101) = (c == 69 || c == 101) := by
  by_cases hn : c = -1
  · subst hn; decide
  · obtain ⟨n, rfl⟩ : ∃ n : Nat, c = (n : Int) := ⟨c.toNat, by omega⟩
    rw [show (32 : Int) = ((32 : Nat) : Int) from rfl, bits_or_i32 n 32 (by omega) (by decide)]
    by_cases h : n = 69 ∨ n = 101
    · rcases h with rfl | rfl <;> decide
    · have hf : ¬ (n ||| 32) = 101 := fun e => by
        have hle : n ≤ n ||| 32 := Nat.left_le_or
        exact h (low_e ⟨n, by omega⟩ e)
      have e1 : ((((n ||| 32 : Nat) : Int)) == 101) = false := by
        rw [beq_eq_false_iff_ne]
        intro e; apply hf; omega
      rw [e1]
      symm
      simp only [Bool.or_eq_false_iff, beq_eq_false_iff_ne]
      omega
def Digs (a : List Int) : Prop := ∀ x ∈ a, digB x = true
theorem digs_drop {a r : List Int} (h : Digs a) (hr : digB (pk r 0) = false) : (a ++ r).dropWhile digB = r := by
  induction a with
  | nil =>
    cases r with
    | nil => rfl
    | cons c t => rw [List.nil_append, List.dropWhile_cons, if_neg (by rw [show digB c = false from hr]; simp)]
  | cons c t ih =>
    rw [List.cons_append, List.dropWhile_cons, if_pos (h c List.mem_cons_self)]
    exact ih (fun x hx => h x (List.mem_cons_of_mem _ hx))
def SgnL (sg : List Int) : Prop := sg = [] ∨ sg = [43] ∨ sg = [45]
def FraL (f : List Int) : Prop := f = [] ∨ ∃ c t, f = 46 :: c :: t ∧ digB c = true ∧ Digs t
def ExpL (e : List Int) : Prop := e = [] ∨ ∃ c sg d t, e = c :: (sg ++ d :: t) ∧ (c = 69 ∨ c = 101) ∧ SgnL sg ∧ digB d = true ∧ Digs t
structure NumL (sg a f e : List Int) : Prop where
  hs : SgnL sg
  hd : Digs a
  hf : FraL f
  he : ExpL e
  hn : a = [] → f ≠ []
def StopL (r : List Int) : Prop := digB (pk r 0) = false ∧ pk r 0 ≠ 46 ∧ pk r 0 ≠ 69 ∧ pk r 0 ≠ 101 ∧ -1 ≤ pk r 0 ∧ pk r 0 ≤ 1114111
theorem dig_pk {c : Int} (h : digB c = true) : 48 ≤ c ∧ c ≤ 57 := by
  unfold digB btw at h
  simpa using h
theorem num_x0 {sg a f e r : List Int} (h : NumL sg a f e) (hr : StopL r) : digB (pk (a ++ (f ++ (e ++ r))) 0) = true ∨ (pk (a ++ (f ++ (e ++ r))) 0 = 46 ∧ digB (pk (a ++ (f ++ (e ++ r))) 1) = true) := by
  cases ha : a with
  | nil =>
    rcases h.hf with hf | ⟨c, t, hf, hc, _⟩
    · exact absurd hf (h.hn ha)
    · subst hf
      exact .inr ⟨rfl, hc⟩
  | cons c t =>
    subst ha
    exact .inl (h.hd c List.mem_cons_self)
section
variable {sg a f e r : List Int} (h : NumL sg a f e) (hr : StopL r)
include h hr
theorem num_z : digB (pk (e ++ r) 0) = false ∧ pk (e ++ r) 0 ≠ 46 := by
  rcases h.he with rfl | ⟨c, s, d, t, rfl, hc, _⟩
  · exact ⟨hr.1, hr.2.1⟩
  · show digB c = false ∧ c ≠ 46
    rcases hc with rfl | rfl <;> decide
theorem num_y : digB (pk (f ++ (e ++ r)) 0) = false := by
  rcases h.hf with rfl | ⟨c, t, rfl, _⟩
  · exact (num_z h hr).1
  · show digB 46 = false
    decide
theorem num_A : numA (sg ++ (a ++ (f ++ (e ++ r)))) = a ++ (f ++ (e ++ r)) := by
  have hx := num_x0 h hr
  unfold numA
  rcases h.hs with rfl | rfl | rfl
  · rw [List.nil_append, if_neg]
    rcases hx with hx | hx
    · rw [hx]; simp
    · rw [hx.1]; simp
  · rw [if_pos (by rw [show pk ([43] ++ (a ++ (f ++ (e ++ r)))) 0 = 43 from rfl]; decide)]
    rfl
  · rw [if_pos (by rw [show pk ([45] ++ (a ++ (f ++ (e ++ r)))) 0 = 45 from rfl]; decide)]
    rfl
theorem num_B : numB (sg ++ (a ++ (f ++ (e ++ r)))) = f ++ (e ++ r) := by
  unfold numB
  rw [num_A h hr, digs_drop h.hd (num_y h hr)]
theorem num_P : numP (sg ++ (a ++ (f ++ (e ++ r)))) = !f.isEmpty := by
  unfold numP
  rw [num_B h hr]
  rcases h.hf with rfl | ⟨c, t, rfl, hc, _⟩
  · have := (num_z h hr).2
    rw [List.nil_append]
    simp [this]
  · show (46 == 46 && digB c) = true
    rw [hc]; rfl
theorem num_C : numC (sg ++ (a ++ (f ++ (e ++ r)))) = e ++ r := by
  unfold numC
  rw [num_P h hr, num_B h hr]
  rcases h.hf with rfl | ⟨c, t, rfl, hc, ht⟩
  · rw [if_neg (by simp)]; rfl
  · rw [if_pos (by simp)]
    show ((c :: t) ++ (e ++ r)).dropWhile digB = _
    refine digs_drop (fun x hx => ?_) (num_z h hr).1
    rcases List.mem_cons.1 hx with rfl | hx
    · exact hc
    · exact ht x hx
theorem num_E : numE (sg ++ (a ++ (f ++ (e ++ r)))) = !e.isEmpty := by
  unfold numE numN
  rw [num_C h hr]
  rcases h.he with rfl | ⟨c, s, d, t, rfl, hc, hs, hd, ht⟩
  · rw [List.nil_append, or_101 hr.2.2.2.2.1 hr.2.2.2.2.2]
    have h1 : (pk r 0 == 69) = false := by simpa using hr.2.2.1
    have h2 : (pk r 0 == 101) = false := by simpa using hr.2.2.2.1
    rw [h1, h2]
    rfl
  · have h0 : (Go.bits .or .i32 (pk (c :: (s ++ d :: t) ++ r) 0) 32 == 101) = true := by
      show (Go.bits .or .i32 c 32 == 101) = true
      rcases hc with rfl | rfl <;> decide
    rw [h0]
    have hd' := dig_pk hd
    rcases hs with rfl | rfl | rfl
    · have e1 : (pk (c :: ([] ++ d :: t) ++ r) 1 == 43 || pk (c :: ([] ++ d :: t) ++ r) 1 == 45) = false := by
        show (d == 43 || d == 45) = false
        simp only [Bool.or_eq_false_iff, beq_eq_false_iff_ne]; omega
      rw [e1]
      show (true && digB d) = _
      rw [hd]; rfl
    · show (true && digB d) = _
      rw [hd]; rfl
    · show (true && digB d) = _
      rw [hd]; rfl
theorem num_D : numD (sg ++ (a ++ (f ++ (e ++ r)))) = r := by
  unfold numD
  rw [num_E h hr]
  unfold numN
  rw [num_C h hr]
  rcases h.he with rfl | ⟨c, s, d, t, rfl, hc, hs, hd, ht⟩
  · rw [if_neg (by simp)]; rfl
  · rw [if_pos (by simp)]
    have hd' := dig_pk hd
    have key : ((d :: t) ++ r).dropWhile digB = r := digs_drop (fun x hx => by
      rcases List.mem_cons.1 hx with rfl | hx
      · exact hd
      · exact ht x hx) hr.1
    rcases hs with rfl | rfl | rfl
    · have e1 : (pk (c :: ([] ++ d :: t) ++ r) 1 == 43 || pk (c :: ([] ++ d :: t) ++ r) 1 == 45) = false := by
        show (d == 43 || d == 45) = false
        simp only [Bool.or_eq_false_iff, beq_eq_false_iff_ne]; omega
      rw [e1]
      exact key
    · exact key
    · exact key
theorem num_W : numW (sg ++ (a ++ (f ++ (e ++ r)))) = (f.isEmpty && e.isEmpty) := by
  unfold numW
  rw [num_E h hr, num_P h hr]
  cases f <;> cases e <;> rfl
theorem num_X : numX (sg ++ (a ++ (f ++ (e ++ r)))) = sg ++ (a ++ (f ++ e)) := by
  unfold numX
  rw [num_D h hr]
  have e1 : sg ++ (a ++ (f ++ (e ++ r))) = (sg ++ (a ++ (f ++ e))) ++ r := by simp
  rw [e1, List.length_append, Nat.add_sub_cancel, List.take_left]
theorem num_cnt : cntB (sg ++ (a ++ (f ++ (e ++ r)))) = true := by
  have hx := num_x0 h hr
  generalize a ++ (f ++ (e ++ r)) = X at hx
  unfold cntB
  have key : (digB (pk X 0) || (pk X 0 == 46 && digB (pk X 1))) = true := by
    rcases hx with hx | hx
    · rw [hx]; rfl
    · rw [hx.1, hx.2]; rfl
  rcases h.hs with rfl | rfl | rfl
  · rw [List.nil_append, if_neg]
    · exact key
    · rcases hx with hx | hx
      · have := dig_pk hx; omega
      · omega
  · exact key
  · exact key
theorem num_way : wayN (sg ++ (a ++ (f ++ (e ++ r)))) = 69 := by
  have hc := num_cnt h hr
  have hx := num_x0 h hr
  have h0 : 43 ≤ pk (sg ++ (a ++ (f ++ (e ++ r)))) 0 ∧ pk (sg ++ (a ++ (f ++ (e ++ r)))) 0 ≤ 57 := by
    rcases h.hs with rfl | rfl | rfl
    · rw [List.nil_append]
      rcases hx with hx | hx
      · have := dig_pk hx; omega
      · omega
    · exact ⟨show (43 : Int) ≤ 43 by decide, show (43 : Int) ≤ 57 by decide⟩
    · exact ⟨show (43 : Int) ≤ 45 by decide, show (45 : Int) ≤ 57 by decide⟩
  unfold wayN
  rw [hc]
  rw [if_neg (by unfold blankB; simp only [Bool.or_eq_true, beq_iff_eq]; omega), if_neg (by simp only [Bool.or_eq_true, beq_iff_eq]; omega), if_neg (by simp only [Bool.and_eq_true, beq_iff_eq]; omega), if_pos rfl]
theorem num_one : oneK (sg ++ (a ++ (f ++ (e ++ r)))) =
    (if begB r 0 = true then ⟨12, runesBytes (sg ++ (a ++ (f ++ e))), strB (nameS r).1, (f.isEmpty && e.isEmpty), false⟩ else if pk r 0 = 37 then ⟨11, runesBytes (sg ++ (a ++ (f ++ e))), ⟨#[]⟩, (f.isEmpty && e.isEmpty), false⟩ else ⟨10, runesBytes (sg ++ (a ++ (f ++ e))), ⟨#[]⟩, (f.isEmpty && e.isEmpty), false⟩,
     if begB r 0 = true then (nameS r).2 else if pk r 0 = 37 then r.tail else r) := by
  have hw := num_way h hr
  unfold oneK
  simp only [hw]
  simp only [reduceIte, Nat.reduceEqDiff]
  unfold numK numR
  rw [num_D h hr, num_X h hr, num_W h hr]
theorem num_com : comB (sg ++ (a ++ (f ++ (e ++ r)))) = false ∧ sg ++ (a ++ (f ++ (e ++ r))) ≠ [] := by
  have hw := num_way h hr
  constructor
  · cases hc : comB (sg ++ (a ++ (f ++ (e ++ r)))) with
    | false => rfl
    | true =>
      exfalso
      unfold comB at hc
      simp only [Bool.and_eq_true, beq_iff_eq] at hc
      have hx := num_x0 h hr
      have h0 := hc.1
      rcases h.hs with rfl | rfl | rfl
      · rw [List.nil_append] at h0
        rcases hx with hx | hx
        · have := dig_pk hx; omega
        · omega
      · exact absurd h0 (by show (43 : Int) ≠ 47; decide)
      · exact absurd h0 (by show (45 : Int) ≠ 47; decide)
  · intro e0
    rw [e0] at hw
    revert hw; decide
end
theorem enc_sign {b : UInt8} (h : b.toNat < 128) : Utf8.encode (b.toNat : Int) = ⟨#[b]⟩ := by
  unfold Utf8.encode
  have hv : Utf8.valid (b.toNat : Int) = true := by
    unfold Utf8.valid
    simp
    omega
  rw [hv]
  simp only [Int.toNat_natCast, if_true, if_pos h]
  simp
theorem runes_back : ∀ (l : List UInt8) (acc : ByteArray), (∀ x ∈ l, x.toNat < 128) → (l.map (fun x => (x.toNat : Int))).foldl (fun r n => r ++ Utf8.encode n) acc = acc ++ ⟨l.toArray⟩
  | [], acc, _ => by
    apply Go.WideShapes.bytes_inj
    simp
  | b :: t, acc, h => by
    rw [List.map_cons, List.foldl_cons, enc_sign (h b List.mem_cons_self), runes_back t _ (fun x hx => h x (List.mem_cons_of_mem _ hx))]
    apply Go.WideShapes.bytes_inj
    simp
theorem runesBytes_sign {l : List UInt8} (h : ∀ x ∈ l, x.toNat < 128) : runesBytes (l.map (fun x => (x.toNat : Int))) = ⟨l.toArray⟩ := by
  unfold runesBytes
  rw [runes_back l _ h]
  apply Go.WideShapes.bytes_inj
  simp
end Go.Proofs.YtpnlbmeeihbjaabDoor.P
end
section
set_option linter.unusedVariables false
set_option linter.unusedSimpArgs false
namespace Go.Proofs.YtpnlbmeeihbjaabDoor.P
open Go.RowKit Go.Proofs.YtpnlbmeeihbjaabDoorW.PrintWords Go.Proofs.YtpnlbmeeihbjaabDoorW.PrintLast Go.Proofs.YtpnlbmeeihbjaabDoorW.PrintMore
open Go.Lib
attribute [local go_sem] max2_int min2_int max_two min_two max_three min_three max_four min_four
set_option linter.unusedVariables false
set_option linter.unusedSimpArgs false
theorem lives_true : gouachelaw02_lives.f = some true := by decide +kernel
theorem w64s {x : Int} (h0 : -9223372036854775808 ≤ x) (h1 : x ≤ 9223372036854775807) : wrap64 x = x := w64 ⟨h0, h1⟩
theorem rd26_at (l : List S26) (i : Nat) (h : i < l.length) : rd_T26 l (i : Int) = l[i] := by
  unfold rd_T26
  simp [List.getD_eq_getElem?_getD, h]
theorem toksL_len : ∀ (n : Nat) (s : List Int), (toksL n s).length ≤ n
  | 0, _ => Nat.le_refl _
  | n + 1, [] => Nat.zero_le _
  | n + 1, c :: t => by
    unfold toksL
    split
    · exact Nat.le_succ_of_le (toksL_len n _)
    · rw [List.length_cons]
      exact Nat.succ_le_succ (toksL_len n _)
theorem cutS_len (S : ByteArray) : (cutS S).length ≤ S.size + 1 := by
  have h1 := toksL_len (runS S).length (runS S)
  have h2 := runL_len S (S.size + 1) 0 0
  unfold cutS toksS
  unfold runS at h1 h2 ⊢
  omega
theorem cut_f (S : ByteArray) (h : S.size < 1099511627776) : gouachelaw02_cut.f S = some (cutS S) := by unfold gouachelaw02_cut.f; rw [if_pos h]
end Go.Proofs.YtpnlbmeeihbjaabDoor.P
end
section
set_option linter.unusedVariables false
set_option linter.unusedSimpArgs false
namespace Go.Proofs.YtpnlbmeeihbjaabDoor.P
open Go.RowKit Go.Proofs.YtpnlbmeeihbjaabDoorW.PrintWords Go.Proofs.YtpnlbmeeihbjaabDoorW.PrintLast Go.Proofs.YtpnlbmeeihbjaabDoorW.PrintMore
open Go.Lib
attribute [local go_sem] max2_int min2_int max_two min_two max_three min_three max_four min_four
set_option linter.unusedVariables false
set_option linter.unusedSimpArgs false
theorem hex_e {c : Int} (h : c = 69 ∨ c = 101) (t : List Int) : escd (hexQ c ++ t) = (c, t) ∧ ∃ d u, hexQ c ++ t = 92 :: d :: u ∧ d ≠ 10 ∧ d ≠ -1 := by
  rcases h with rfl | rfl
  all_goals exact ⟨by rfl, _, _, rfl, by decide, by decide⟩
def unitQ : List Int → List Int
  | [] => []
  | c :: t => if c = 69 ∨ c = 101 then hexQ c ++ t.flatMap (cq partB) else escQ (c :: t)
theorem unitQ_cons (c : Int) (t : List Int) : unitQ (c :: t) = if c = 69 ∨ c = 101 then hexQ c ++ t.flatMap (cq partB) else escQ (c :: t) := rfl
theorem unit_run {S : ByteArray} (h : Clean S) (hne : S.data.toList ≠ []) (r : List UInt8) : runN (unitT S ++ r) 0 = unitQ (decS S) ++ runN r 0 := by
  have hl : S.size = S.data.toList.length := rfl
  have hx := (clean_back h).2
  obtain ⟨a, t, e⟩ : ∃ a t, S.data.toList = a :: t := ⟨_, _, (List.cons_head_tail hne).symm⟩
  have h0 : 0 < S.size := by rw [hl, e]; simp
  have hg : S[0]'h0 = a := by
    have : S.data.toList[0]'h0 = S[0]'h0 := by rw [Array.getElem_toList]; rfl
    rw [← this]
    simp [e]
  have hd0e : hd0 S = a.toNat := by rw [hd0_at S h0, hg]
  unfold unitT
  by_cases hb : 0 < S.size ∧ bigE (hd0 S) = true
  · rw [if_pos hb, hd0e, decS_N, ext_tail, e, List.tail_cons]
    have hb2 := hb.2
    rw [hd0e] at hb2
    have ha : a.toNat = 69 ∨ a.toNat = 101 := by
      unfold bigE at hb2
      simpa using hb2
    rw [decS_N, e, decN_ascii (by omega)] at hx
    rw [decS_N, e, decN_ascii (by omega), List.append_assoc, runN_hex (by omega), runN_parts partB r _ (fun x hm => hx x (List.mem_cons_of_mem _ hm))]
    rw [unitQ_cons]
    rw [if_pos (by omega), List.append_assoc]
  · rw [if_neg hb, escS_run h r]
    congr 1
    rw [decS_N, e, decN_cons]
    rw [unitQ_cons]
    rw [if_neg]
    intro hc
    have := dcl_head (a := a) (t := t) (by omega)
    apply hb
    refine ⟨h0, ?_⟩
    rw [hd0e]
    unfold bigE
    simp only [Bool.or_eq_true, beq_iff_eq]
    omega
theorem name_unitQ {xs : List Int} (T : List Int) (h : ∀ c ∈ xs, okC c) : nameS (unitQ xs ++ T) = (xs ++ (nameS T).1, (nameS T).2) := by
  cases xs with
  | nil => rfl
  | cons c t =>
    rw [unitQ_cons]
    by_cases hc : c = 69 ∨ c = 101
    · rw [if_pos hc, List.append_assoc]
      obtain ⟨e1, d, u, e2, e3, e4⟩ := hex_e hc (t.flatMap (cq partB) ++ T)
      rw [e2] at e1 ⊢
      rw [nameS_esc (by decide) (by unfold escB; rw [show pk (92 :: d :: u) 0 = 92 from rfl, show pk (92 :: d :: u) (0 + 1) = d from rfl]; simp [e3]), e1, name_parts T t (fun x hx => h x (List.mem_cons_of_mem _ hx))]
      rfl
    · rw [if_neg hc]
      exact name_escQ T _ h
theorem esc_first {c : Int} {t : List Int} (T : List Int) (h : okC c) : pk (escQ (c :: t) ++ T) 0 = 92 ∨ (pk (escQ (c :: t) ++ T) 0 = c ∧ partB c = true ∧ digB c = false) := by
  by_cases hc : c = 45
  · subst hc
    cases t with
    | nil => exact .inl rfl
    | cons d u => exact .inr ⟨rfl, by decide, by decide⟩
  · rw [escQ_else hc, escE_cons, List.append_assoc]
    generalize t.flatMap (cq partB) ++ T = X
    unfold fq
    by_cases k : 48 ≤ c ∧ c ≤ 57
    · rw [if_pos k]; exact .inl (pk_hex (by omega) X).1
    · rw [if_neg k]
      rcases pk_cq h X with h' | ⟨h1, h2⟩
      · exact .inl h'.1
      · right
        rw [h2]
        refine ⟨rfl, h1, ?_⟩
        unfold digB btw
        simp only [Bool.and_eq_false_iff, decide_eq_false_iff_not]
        omega
theorem unit_stop {T : List Int} (hT : pk T 0 ≠ 62) {xs : List Int} (hne : xs ≠ []) (h : ∀ c ∈ xs, okC c) : StopL (unitQ xs ++ T) ∧ begB (unitQ xs ++ T) 0 = true := by
  cases xs with
  | nil => exact absurd rfl hne
  | cons c t =>
    have hk := h c List.mem_cons_self
    rw [unitQ_cons]
    by_cases hc : c = 69 ∨ c = 101
    · rw [if_pos hc, List.append_assoc]
      obtain ⟨e1, d, u, e2, e3, e4⟩ := hex_e hc (t.flatMap (cq partB) ++ T)
      rw [e2]
      refine ⟨?_, Beg0.beg (.inl ⟨rfl, e3⟩)⟩
      unfold StopL
      rw [show pk (92 :: d :: u) 0 = 92 from rfl]
      decide
    · rw [if_neg hc]
      refine ⟨?_, (escQ_way hT hne h).2⟩
      obtain ⟨h0, h1, h2, h3⟩ := hk
      unfold StopL
      rcases esc_first (t := t) T (h c List.mem_cons_self) with e | ⟨e, e1, e2⟩
      · rw [e]; decide
      · rw [e]
        refine ⟨e2, ?_, fun e3 => hc (.inl e3), fun e3 => hc (.inr e3), by omega, h1⟩
        rintro rfl
        revert e1; decide
end Go.Proofs.YtpnlbmeeihbjaabDoor.P
end
section
set_option linter.unusedVariables false
set_option linter.unusedSimpArgs false
namespace Go.Proofs.YtpnlbmeeihbjaabDoor.P
open Go.RowKit Go.Proofs.YtpnlbmeeihbjaabDoorW.PrintWords Go.Proofs.YtpnlbmeeihbjaabDoorW.PrintLast Go.Proofs.YtpnlbmeeihbjaabDoorW.PrintMore
open Go.Lib
attribute [local go_sem] max2_int min2_int max_two min_two max_three min_three max_four min_four
set_option linter.unusedVariables false
set_option linter.unusedSimpArgs false
theorem decN_len : ∀ (k : Nat) (l : List UInt8), (decB k l).length ≤ k
  | 0, _ => Nat.le_refl _
  | k + 1, [] => Nat.zero_le _
  | k + 1, a :: t => by
    unfold decB
    rw [List.length_cons]
    exact Nat.succ_le_succ (decN_len k _)
theorem decS_len (S : ByteArray) : (decS S).length ≤ S.size := by
  rw [decS_N]
  exact decN_len _ _
theorem parts_len (sb : Int → Bool) : ∀ xs : List Int, (partsB sb xs).length ≤ 10 * xs.length
  | [] => Nat.le_refl _
  | c :: t => by
    have h1 := charB_len sb c
    have h2 := parts_len sb t
    rw [partsB_cons, List.length_append, List.length_cons]
    omega
theorem ext_size (R : ByteArray) : (R.extract 1 R.size).size ≤ R.size := by
  show (R.extract 1 R.size).data.toList.length ≤ R.data.toList.length
  rw [ext_tail, List.length_tail]
  omega
theorem escR_len (R : ByteArray) : (escR R).length ≤ 10 + 10 * R.size := by
  unfold escR
  split
  · have h1 := parts_len partB (decS (R.extract 1 R.size))
    have h2 := decS_len (R.extract 1 R.size)
    have h3 := ext_size R
    have h4 := hexC_len (hd0 R)
    rw [List.length_append]
    omega
  · have h1 := parts_len partB (decS R)
    have h2 := decS_len R
    omega
theorem escS_len (S : ByteArray) : (escS S).length ≤ 20 + 10 * S.size := by
  unfold escS
  split
  · have h1 := escR_len (S.extract 1 S.size)
    have h2 := ext_size S
    rw [List.length_cons]
    omega
  · split
    · show 2 ≤ _
      omega
    · have h1 := escR_len S
      omega
theorem quoteS_len (S : ByteArray) : (quoteS S).length ≤ 2 + 10 * S.size := by
  have h1 := parts_len quoB (decS S)
  have h2 := decS_len S
  unfold quoteS
  rw [List.length_cons, List.length_append, List.length_cons, List.length_nil]
  omega
theorem arr_size (l : List UInt8) : (⟨l.toArray⟩ : ByteArray).size = l.length := rfl
theorem clean_of {S : ByteArray} (h : cleanB S = true) : Clean S := fun c hc => by
  have := List.all_eq_true.1 h c hc
  unfold goodC at this
  simpa using this
theorem rd_one (x : S26) : rd_T26 [x] 0 = x := rfl
theorem cat_size (x : UInt8) (E : ByteArray) : ((⟨#[x]⟩ : ByteArray) ++ E).size = 1 + E.size := by rw [ByteArray.size_append]; rfl
end Go.Proofs.YtpnlbmeeihbjaabDoor.P
end
