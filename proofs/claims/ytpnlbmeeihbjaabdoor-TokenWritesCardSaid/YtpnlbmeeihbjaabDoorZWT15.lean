/- The law TokenWrites (layer 2): the row and its tied card: for every input the law returns true, and the arguments read behind the call as they read before. No condition of ours. -/
import Derived.Test.YtpnlbmeeihbjaabDoorZWT7
import Derived.Test.YtpnlbmeeihbjaabDoorZWT8
import Derived.Test.YtpnlbmeeihbjaabDoorZWT12
import Derived.Test.YtpnlbmeeihbjaabDoorZWT13
import Derived.Test.YtpnlbmeeihbjaabDoorZWT14
import Derived.Lib.MapLaws
section
set_option linter.unusedVariables false
set_option linter.unusedSimpArgs false
namespace Go.Proofs.YtpnlbmeeihbjaabDoor.P
open Go.RowKit Go.Proofs.YtpnlbmeeihbjaabDoorW.PrintWords Go.Proofs.YtpnlbmeeihbjaabDoorW.PrintLast Go.Proofs.YtpnlbmeeihbjaabDoorW.PrintMore
open Go.Lib
attribute [local go_sem] max2_int min2_int max_two min_two max_three min_three max_four min_four
set_option linter.unusedVariables false
set_option linter.unusedSimpArgs false
def dcl (l : List UInt8) : Nat × Nat := Lib.decodeL l
theorem dec_drop (S : ByteArray) (i : Nat) : Utf8.decode S i = dcl (S.data.toList.drop i) := (Lib.decodeL_drop S i).symm
theorem dcl_N (l : List UInt8) : dcl l = Lib.decodeN l.length (l.getD 0 0).toNat (l.getD 1 0).toNat (l.getD 2 0).toNat (l.getD 3 0).toNat := Lib.decodeL_N l
theorem dcl_ascii {a : UInt8} {t : List UInt8} (h : a.toNat < 128) : dcl (a :: t) = (a.toNat, 1) := by
  rw [dcl_N]
  unfold Lib.decodeN
  rw [show (a :: t).getD 0 0 = a from rfl, if_pos h]
theorem dcl_head {a : UInt8} {t : List UInt8} (h : (dcl (a :: t)).1 < 128) : a.toNat = (dcl (a :: t)).1 := by
  rw [dcl_N] at h ⊢
  rw [show (a :: t).getD 0 0 = a from rfl] at h ⊢
  rcases Lib.decodeN_shape (a :: t).length a.toNat ((a :: t).getD 1 0).toNat ((a :: t).getD 2 0).toNat ((a :: t).getD 3 0).toNat with ⟨c, e⟩ | ⟨c1, c2, c3, cv, e⟩ | ⟨c1, c2, c3, c4, cv, cs, e⟩ | ⟨c1, c2, c3, c4, c5, cv, cw, e⟩ | e
  all_goals rw [e] at h ⊢
  all_goals simp only at h ⊢
  all_goals omega
theorem dcl_width {a : UInt8} {t : List UInt8} : 1 ≤ (dcl (a :: t)).2 ∧ (dcl (a :: t)).2 ≤ (a :: t).length := by
  rw [dcl_N]
  have hl : 1 ≤ (a :: t).length := by simp
  rcases Lib.decodeN_shape (a :: t).length ((a :: t).getD 0 0).toNat ((a :: t).getD 1 0).toNat ((a :: t).getD 2 0).toNat ((a :: t).getD 3 0).toNat with ⟨c, e⟩ | ⟨c1, c2, c3, cv, e⟩ | ⟨c1, c2, c3, c4, cv, cs, e⟩ | ⟨c1, c2, c3, c4, c5, cv, cw, e⟩ | e
  all_goals rw [e]
  all_goals simp only
  all_goals omega
end Go.Proofs.YtpnlbmeeihbjaabDoor.P
end
section
set_option linter.unusedVariables false
set_option linter.unusedSimpArgs false
namespace Go.Proofs.YtpnlbmeeihbjaabDoor.P
open Go.RowKit Go.Proofs.YtpnlbmeeihbjaabDoorW.PrintWords Go.Proofs.YtpnlbmeeihbjaabDoorW.PrintLast Go.Proofs.YtpnlbmeeihbjaabDoorW.PrintMore
open Go.Lib
attribute [local go_sem] max2_int min2_int max_two min_two max_three min_three max_four min_four
set_option linter.unusedVariables false
set_option linter.unusedSimpArgs false
def NoO (s : List Int) : Prop := ∀ c ∈ s, c ≠ 34 ∧ c ≠ 39 ∧ c ≠ 40 ∧ c ≠ 47 ∧ c ≠ 92
theorem NoO.suf {s t : List Int} (h : NoO s) (hs : t <:+ s) : NoO t := fun c hc => h c (hs.subset hc)
section
variable {s B : List Int}
end
section
variable {s B : List Int}
end
end Go.Proofs.YtpnlbmeeihbjaabDoor.P
end
section
set_option linter.unusedVariables false
set_option linter.unusedSimpArgs false
namespace Go.Proofs.YtpnlbmeeihbjaabDoor.P
open Go.RowKit Go.Proofs.YtpnlbmeeihbjaabDoorW.PrintWords Go.Proofs.YtpnlbmeeihbjaabDoorW.PrintLast Go.Proofs.YtpnlbmeeihbjaabDoorW.PrintMore
open Go.Lib
attribute [local go_sem] max2_int min2_int max_two min_two max_three min_three max_four min_four
set_option linter.unusedVariables false
set_option linter.unusedSimpArgs false
theorem enc_ne (c : Int) : ∃ a t, Lib.encodeRune c = a :: t := by
  have h := (Lib.encodeRuneZ_length c).1
  have h2 : (Lib.encodeRune c).length = (Lib.encodeRuneZ c).length := by simp [Lib.encodeRune]
  cases e : Lib.encodeRune c with
  | nil => rw [e] at h2; simp at h2; omega
  | cons a t => exact ⟨a, t, rfl⟩
def decB : Nat → List UInt8 → List Int
  | 0, _ => []
  | _ + 1, [] => []
  | k + 1, a :: t => ((dcl (a :: t)).1 : Int) :: decB k ((a :: t).drop (dcl (a :: t)).2)
theorem decL_B (S : ByteArray) : ∀ (k pos : Nat), decL S k pos = decB k (S.data.toList.drop pos)
  | 0, _ => rfl
  | k + 1, pos => by
    have hl : S.size = S.data.toList.length := rfl
    by_cases hp : pos < S.size
    · have hd := dec_drop S pos
      obtain ⟨a, t, hat⟩ : ∃ a t, S.data.toList.drop pos = a :: t := ⟨_, _, List.drop_eq_getElem_cons (by omega)⟩
      unfold decL
      rw [if_pos hp, hd, decL_B S k, ← List.drop_drop, hat]
      rfl
    · unfold decL
      rw [if_neg hp, List.drop_eq_nil_of_le (by omega)]
      rfl
theorem dcl_ok (l : List UInt8) : ((dcl l).1 : Int) ≤ 1114111 ∧ (((dcl l).1 : Int) < 55296 ∨ 57343 < ((dcl l).1 : Int)) := by
  rw [dcl_N]
  have k0 := (l.getD 0 0).toNat_lt
  rcases Lib.decodeN_shape l.length (l.getD 0 0).toNat (l.getD 1 0).toNat (l.getD 2 0).toNat (l.getD 3 0).toNat with ⟨c, e⟩ | ⟨c1, c2, c3, cv, e⟩ | ⟨c1, c2, c3, c4, cv, cs, e⟩ | ⟨c1, c2, c3, c4, c5, cv, cw, e⟩ | e
  all_goals rw [e]
  all_goals simp only
  all_goals omega
def Clean (S : ByteArray) : Prop := ∀ c ∈ decS S, c ≠ 0 ∧ c ≠ 65533
theorem decS_B (S : ByteArray) : decS S = decB (S.size + 1) S.data.toList := by
  unfold decS
  rw [decL_B, List.drop_zero]
end Go.Proofs.YtpnlbmeeihbjaabDoor.P
end
section
set_option linter.unusedVariables false
set_option linter.unusedSimpArgs false
namespace Go.Proofs.YtpnlbmeeihbjaabDoor.P
open Go.RowKit Go.Proofs.YtpnlbmeeihbjaabDoorW.PrintWords Go.Proofs.YtpnlbmeeihbjaabDoorW.PrintLast Go.Proofs.YtpnlbmeeihbjaabDoorW.PrintMore
open Go.Lib
attribute [local go_sem] max2_int min2_int max_two min_two max_three min_three max_four min_four
set_option linter.unusedVariables false
set_option linter.unusedSimpArgs false
theorem decB_fuel : ∀ (k m : Nat) (l : List UInt8), l.length ≤ k → l.length ≤ m → decB k l = decB m l
  | 0, 0, _, _, _ => rfl
  | 0, m + 1, l, h, _ => by
    obtain rfl := List.eq_nil_of_length_eq_zero (by omega : l.length = 0)
    rfl
  | k + 1, 0, l, _, h => by
    obtain rfl := List.eq_nil_of_length_eq_zero (by omega : l.length = 0)
    rfl
  | k + 1, m + 1, [], _, _ => rfl
  | k + 1, m + 1, a :: t, h1, h2 => by
    have hw := dcl_width (a := a) (t := t)
    have hd : ((a :: t).drop (dcl (a :: t)).2).length = (a :: t).length - (dcl (a :: t)).2 := List.length_drop
    unfold decB
    rw [decB_fuel k m _ (by omega) (by omega)]
def decN (l : List UInt8) : List Int := decB l.length l
theorem decS_N (S : ByteArray) : decS S = decN S.data.toList := by
  have hl : S.size = S.data.toList.length := rfl
  rw [decS_B]
  exact decB_fuel _ _ _ (by omega) (Nat.le_refl _)
theorem decN_nil : decN [] = [] := rfl
theorem decN_cons (a : UInt8) (t : List UInt8) : decN (a :: t) = ((dcl (a :: t)).1 : Int) :: decN ((a :: t).drop (dcl (a :: t)).2) := by
  have hw := dcl_width (a := a) (t := t)
  have hd : ((a :: t).drop (dcl (a :: t)).2).length = (a :: t).length - (dcl (a :: t)).2 := List.length_drop
  unfold decN
  rw [List.length_cons, decB, decB_fuel t.length _ _ (by rw [List.length_cons] at hd; omega) (Nat.le_refl _)]
theorem decN_ascii {a : UInt8} (h : a.toNat < 128) (t : List UInt8) : decN (a :: t) = (a.toNat : Int) :: decN t := by
  rw [decN_cons, dcl_ascii h]
  rfl
theorem ext_tail (R : ByteArray) : (R.extract 1 R.size).data.toList = R.data.toList.tail := by
  have hl : R.size = R.data.toList.length := rfl
  rw [ByteArray.data_extract, Array.toList_extract, List.extract_eq_take_drop, List.drop_one, List.take_of_length_le (by rw [List.length_tail]; omega)]
theorem pref_45 (S : ByteArray) : hpB S ⟨#[45]⟩ = true ↔ ∃ t, S.data.toList = 45 :: t := by
  have hl : S.size = S.data.toList.length := rfl
  unfold hpB
  rw [Bool.and_eq_true, decide_eq_true_eq, beq_iff_eq, ByteArray.toList_eq, ByteArray.toList_eq, ByteArray.data_extract, Array.toList_extract, List.extract_eq_take_drop, List.drop_zero]
  show 1 ≤ S.size ∧ List.take 1 S.data.toList = [45] ↔ _
  rw [hl]
  constructor
  · rintro ⟨h1, h2⟩
    cases e : S.data.toList with
    | nil => rw [e] at h1; cases h1
    | cons a t =>
      rw [e] at h2
      simp at h2
      exact ⟨t, by rw [h2]⟩
  · rintro ⟨t, e⟩
    rw [e]
    exact ⟨by simp, rfl⟩
def Beg0 (s : List Int) : Prop := (pk s 0 = 92 ∧ pk s 1 ≠ 10) ∨ startB (pk s 0) = true
theorem start_fact {c : Int} (h : startB c = true) : 65 ≤ c ∧ c ≠ 92 := by
  unfold startB btw at h
  simp only [Bool.or_eq_true, Bool.and_eq_true, decide_eq_true_eq, beq_iff_eq] at h
  omega
theorem Beg0.hi {s : List Int} (h : Beg0 s) : 65 ≤ pk s 0 := by
  rcases h with h | h
  · omega
  · exact (start_fact h).1
section
variable {S : ByteArray} (h : Clean S) (hne : S.data.toList ≠ [])
include h hne
end
end Go.Proofs.YtpnlbmeeihbjaabDoor.P
end
section
set_option linter.unusedVariables false
set_option linter.unusedSimpArgs false
namespace Go.Proofs.YtpnlbmeeihbjaabDoor.P
open Go.RowKit Go.Proofs.YtpnlbmeeihbjaabDoorW.PrintWords Go.Proofs.YtpnlbmeeihbjaabDoorW.PrintLast Go.Proofs.YtpnlbmeeihbjaabDoorW.PrintMore
open Go.Lib
attribute [local go_sem] max2_int min2_int max_two min_two max_three min_three max_four min_four
set_option linter.unusedVariables false
set_option linter.unusedSimpArgs false
def Digs (a : List Int) : Prop := ∀ x ∈ a, digB x = true
def SgnL (sg : List Int) : Prop := sg = [] ∨ sg = [43] ∨ sg = [45]
def FraL (f : List Int) : Prop := f = [] ∨ ∃ c t, f = 46 :: c :: t ∧ digB c = true ∧ Digs t
def ExpL (e : List Int) : Prop := e = [] ∨ ∃ c sg d t, e = c :: (sg ++ d :: t) ∧ (c = 69 ∨ c = 101) ∧ SgnL sg ∧ digB d = true ∧ Digs t
structure NumL (sg a f e : List Int) : Prop where
  hs : SgnL sg
  hd : Digs a
  hf : FraL f
  he : ExpL e
  hn : a = [] → f ≠ []
def StopL (r : List Int) : Prop := digB (pk r 0) = false ∧ pk r 0 ≠ 46 ∧ pk r 0 ≠ 69 ∧ pk r 0 ≠ 101 ∧ -1 ≤ pk r 0 ∧ pk r 0 ≤ 1114111
theorem dig_pk {c : Int} (h : digB c = true) : 48 ≤ c ∧ c ≤ 57 := by
  unfold digB btw at h
  simpa using h
section
variable {sg a f e r : List Int} (h : NumL sg a f e) (hr : StopL r)
include h hr
end
end Go.Proofs.YtpnlbmeeihbjaabDoor.P
end
section
set_option linter.unusedVariables false
set_option linter.unusedSimpArgs false
namespace Go.Proofs.YtpnlbmeeihbjaabDoor.P
open Go.RowKit Go.Proofs.YtpnlbmeeihbjaabDoorW.PrintWords Go.Proofs.YtpnlbmeeihbjaabDoorW.PrintLast Go.Proofs.YtpnlbmeeihbjaabDoorW.PrintMore
open Go.Lib
attribute [local go_sem] max2_int min2_int max_two min_two max_three min_three max_four min_four
set_option linter.unusedVariables false
set_option linter.unusedSimpArgs false
theorem lives_true : gouachelaw02_lives.f = some true := by decide +kernel
theorem bt_data (S : ByteArray) (i : Nat) (h : i < S.size) : bt S (i : Int) = ((S.data.toList[i]'h).toNat : Int) := by
  rw [← bt_at S (i : Int) h, Array.getElem_toList]
  rfl
end Go.Proofs.YtpnlbmeeihbjaabDoor.P
end
section
set_option linter.unusedVariables false
set_option linter.unusedSimpArgs false
namespace Go.Proofs.YtpnlbmeeihbjaabDoor.P
open Go.RowKit Go.Proofs.YtpnlbmeeihbjaabDoorW.PrintWords Go.Proofs.YtpnlbmeeihbjaabDoorW.PrintLast Go.Proofs.YtpnlbmeeihbjaabDoorW.PrintMore
open Go.Lib
attribute [local go_sem] max2_int min2_int max_two min_two max_three min_three max_four min_four
set_option linter.unusedVariables false
set_option linter.unusedSimpArgs false
theorem decN_len : ∀ (k : Nat) (l : List UInt8), (decB k l).length ≤ k
  | 0, _ => Nat.le_refl _
  | k + 1, [] => Nat.zero_le _
  | k + 1, a :: t => by
    unfold decB
    rw [List.length_cons]
    exact Nat.succ_le_succ (decN_len k _)
theorem decS_len (S : ByteArray) : (decS S).length ≤ S.size := by
  rw [decS_N]
  exact decN_len _ _
theorem parts_len (sb : Int → Bool) : ∀ xs : List Int, (partsB sb xs).length ≤ 10 * xs.length
  | [] => Nat.le_refl _
  | c :: t => by
    have h1 := charB_len sb c
    have h2 := parts_len sb t
    rw [partsB_cons, List.length_append, List.length_cons]
    omega
theorem ext_size (R : ByteArray) : (R.extract 1 R.size).size ≤ R.size := by
  show (R.extract 1 R.size).data.toList.length ≤ R.data.toList.length
  rw [ext_tail, List.length_tail]
  omega
theorem escR_len (R : ByteArray) : (escR R).length ≤ 10 + 10 * R.size := by
  unfold escR
  split
  · have h1 := parts_len partB (decS (R.extract 1 R.size))
    have h2 := decS_len (R.extract 1 R.size)
    have h3 := ext_size R
    have h4 := hexC_len (hd0 R)
    rw [List.length_append]
    omega
  · have h1 := parts_len partB (decS R)
    have h2 := decS_len R
    omega
theorem escS_len (S : ByteArray) : (escS S).length ≤ 20 + 10 * S.size := by
  unfold escS
  split
  · have h1 := escR_len (S.extract 1 S.size)
    have h2 := ext_size S
    rw [List.length_cons]
    omega
  · split
    · show 2 ≤ _
      omega
    · have h1 := escR_len S
      omega
theorem quoteS_len (S : ByteArray) : (quoteS S).length ≤ 2 + 10 * S.size := by
  have h1 := parts_len quoB (decS S)
  have h2 := decS_len S
  unfold quoteS
  rw [List.length_cons, List.length_append, List.length_cons, List.length_nil]
  omega
theorem arr_size (l : List UInt8) : (⟨l.toArray⟩ : ByteArray).size = l.length := rfl
end Go.Proofs.YtpnlbmeeihbjaabDoor.P
end
section
set_option linter.unusedVariables false
set_option linter.unusedSimpArgs false
namespace Go.Proofs.YtpnlbmeeihbjaabDoor.P
open Go.RowKit Go.Proofs.YtpnlbmeeihbjaabDoorW.PrintWords Go.Proofs.YtpnlbmeeihbjaabDoorW.PrintLast Go.Proofs.YtpnlbmeeihbjaabDoorW.PrintMore
open Go.Lib
attribute [local go_sem] max2_int min2_int max_two min_two max_three min_three max_four min_four
set_option linter.unusedVariables false
set_option linter.unusedSimpArgs false
def ints (l : List UInt8) : List Int := l.map (fun x => (x.toNat : Int))
theorem rd_ints (l : List UInt8) (i : Nat) (h : i < l.length) : rd (ints l) (i : Int) = ((l[i]).toNat : Int) := by
  unfold rd ints
  simp [h]
theorem w32b {x : Int} (h : 0 ≤ x) (h1 : x ≤ 2147483647) : wrap32 x = x := by unfold wrap32; omega
theorem char_step (k : Nat) (x4 x5 x6 : Int) (L : List UInt8) (i : Nat) (h : i < L.length) (hL : L.length ≤ 10) (h0 : 0 ≤ x4) (h1 : x4 ≤ 4000000) :
    gouacheref01_char.l0 (k + 1) x4 x5 x6 (ints L) ((ints L).length : Int) (i : Int) = if (L[i]).toNat < 128 ∨ 192 ≤ (L[i]).toNat then some (0, 0) else gouacheref01_char.l0 k (x4 * 64 + (((L[i]).toNat : Int) - 128)) x5 x6 (ints L) ((ints L).length : Int) ((i + 1 : Nat) : Int) := by
  have hl : (ints L).length = L.length := by unfold ints; simp
  have hb := (L[i]).toNat_lt
  rw [gouacheref01_char.l0, if_pos (by omega), if_pos (by omega), if_pos (by omega), rd_ints L i h]
  by_cases a : (L[i]).toNat < 128
  · rw [if_pos (by omega), if_pos (.inl a)]
  · rw [if_neg (by omega)]
    by_cases b : 192 ≤ (L[i]).toNat
    · rw [if_pos (by omega), if_pos (.inr b)]
    · rw [if_neg (by omega), if_neg (by omega), w32b (x := x4 * 64) (by omega) (by omega), w32b (by omega) (by omega), show (((L[i]).toNat : Int) - 128) % 256 = ((L[i]).toNat : Int) - 128 by omega]
      rw [show wrap64 ((i : Int) + 1) = ((i + 1 : Nat) : Int) by unfold wrap64; omega]
theorem char_end (k : Nat) (x4 x5 x6 : Int) (L : List UInt8) (n : Nat) (hn : x5 = (n : Int)) (hn2 : n ≤ 10) :
    gouacheref01_char.l0 (k + 1) x4 x5 x6 (ints L) ((ints L).length : Int) ((L.length : Nat) : Int) = if x4 < x6 ∨ 1114111 < x4 ∨ (55296 ≤ x4 ∧ x4 < 57344) then some (0, 0) else some (x4, ((n + 1 : Nat) : Int)) := by
  have hl : (ints L).length = L.length := by unfold ints; simp
  have hw : wrap64 (x5 + 1) = ((n + 1 : Nat) : Int) := by unfold wrap64; omega
  rw [gouacheref01_char.l0, if_neg (by omega), hw]
  by_cases a : x4 < x6
  · rw [if_pos a, if_pos (.inl a)]
  · rw [if_neg a]
    by_cases b : x4 > 1114111
    · rw [if_pos b, if_pos (.inr (.inl b))]
    · rw [if_neg b]
      by_cases c : x4 ≥ 55296
      · rw [if_pos c]
        by_cases d : x4 < 57344
        · rw [if_pos d, if_pos (.inr (.inr ⟨c, d⟩))]
        · rw [if_neg d, if_neg (by omega)]
      · rw [if_neg c, if_neg (by omega)]
theorem char_j2 (k : Nat) (l : List UInt8) (x4 x6 : Int) (n : Nat) (hn : 1 ≤ n) (hn2 : n ≤ 10) (h : n < l.length) (hl : l.length ≤ 1099511627776) :
    gouacheref01_char.j2 (k + 1) (ints l) x4 (n : Int) x6 = gouacheref01_char.l0 k x4 (n : Int) x6 (ints ((l.take (n + 1)).tail)) ((ints ((l.take (n + 1)).tail)).length : Int) ((0 : Nat) : Int) := by
  have he : (ints l).length = l.length := by unfold ints; simp
  have hw : wrap64 ((n : Int) + 1) = ((n + 1 : Nat) : Int) := by unfold wrap64; omega
  have ht : ((ints l).take (((n + 1 : Nat) : Int)).toNat).tail = ints ((l.take (n + 1)).tail) := by
    rw [Int.toNat_natCast]
    unfold ints
    rw [← List.map_take, ← List.map_tail]
  rw [gouacheref01_char.j2, hw, if_neg (by omega), if_pos (by omega), if_pos (by omega), ht]
  rfl
theorem char_short (k : Nat) (l : List UInt8) (x4 x6 : Int) (n : Nat) (hn2 : n ≤ 10) (h : l.length ≤ n) : gouacheref01_char.j2 (k + 1) (ints l) x4 (n : Int) x6 = some (0, 0) := by
  have he : (ints l).length = l.length := by unfold ints; simp
  have hw : wrap64 ((n : Int) + 1) = ((n + 1 : Nat) : Int) := by unfold wrap64; omega
  rw [gouacheref01_char.j2, hw, if_pos (by omega)]
def chrR (l : List UInt8) : Int × Int := if (dcl l).1 = 65533 ∧ (dcl l).2 = 1 then (0, 0) else (((dcl l).1 : Int), ((dcl l).2 : Int))
theorem chrR_bad {l : List UInt8} (h : dcl l = (65533, 1)) : chrR l = (0, 0) := by unfold chrR; rw [h]; rfl
theorem chrR_ok {l : List UInt8} {c n : Nat} (h : dcl l = (c, n)) (hn : n ≠ 1 ∨ c ≠ 65533) : chrR l = ((c : Int), (n : Int)) := by
  unfold chrR
  rw [h]
  simp only
  rw [if_neg (by omega)]
theorem char_law (l : List UInt8) (hl : l ≠ []) (hlen : l.length ≤ 1099511627776) (k : Nat) (hk : 10 ≤ k) : gouacheref01_char.f k (ints l) = some (chrR l) := by
  obtain ⟨k, rfl⟩ : ∃ j, k = j + 10 := ⟨k - 10, by omega⟩
  obtain ⟨b0, t, rfl⟩ : ∃ a t, l = a :: t := ⟨_, _, (List.cons_head_tail hl).symm⟩
  have k0 := b0.toNat_lt
  have he : (ints (b0 :: t)).length = (b0 :: t).length := by unfold ints; simp
  have hp : 0 < (b0 :: t).length := by simp
  have hr : rd (ints (b0 :: t)) 0 = (b0.toNat : Int) := rd_ints (b0 :: t) 0 hp
  unfold gouacheref01_char.f
  rw [if_pos (by omega), hr, w32b (by omega) (by omega)]
  by_cases c1 : b0.toNat < 128
  · rw [if_pos (by omega), chrR_ok (dcl_ascii c1) (by omega)]
    rfl
  rw [if_neg (by omega)]
  have hD := dcl_N (b0 :: t)
  rw [show (b0 :: t).getD 0 0 = b0 from rfl] at hD
  by_cases c2 : 192 ≤ b0.toNat
  · rw [if_pos (by omega), gouacheref01_char.j0]
    by_cases c3 : b0.toNat < 224
    · rw [if_pos (decide_eq_true (by omega)), show wrap32 ((b0.toNat : Int) - 192) = (b0.toNat : Int) - 192 by unfold wrap32; omega]
      match t, hD, hlen with
      | [], hD, _ =>
        rw [show (1 : Int) = ((1 : Nat) : Int) from rfl, char_short _ _ _ _ 1 (by decide) (by simp)]
        rw [chrR_bad]
        rw [hD]
        unfold Lib.decodeN
        rw [if_neg c1, if_neg (by simp), if_neg (by simp), if_neg (by simp)]
      | b1 :: t, hD, hlen =>
        have k1 := b1.toNat_lt
        rw [show (1 : Int) = ((1 : Nat) : Int) from rfl, char_j2 _ _ _ _ 1 (by decide) (by decide) (by simp) hlen]
        rw [show ((b0 :: b1 :: t).take (1 + 1)).tail = [b1] from rfl]
        rw [char_step _ _ _ _ [b1] 0 (by simp) (by simp) (by omega) (by omega)]
        simp only [List.getElem_cons_zero]
        rw [show (b0 :: b1 :: t).getD 1 0 = b1 from rfl] at hD
        have hn : 1 < (b0 :: b1 :: t).length := by simp
        by_cases d1 : b1.toNat < 128 ∨ 192 ≤ b1.toNat
        · rw [if_pos d1, chrR_bad]
          rw [hD]
          unfold Lib.decodeN
          rw [if_neg c1, if_neg (by omega), if_neg (by omega), if_neg (by omega)]
        · rw [if_neg d1]
          refine (char_end _ _ _ _ [b1] 1 rfl (by decide)).trans ?_
          unfold Lib.decodeN at hD
          rw [if_neg c1, if_pos (by omega)] at hD
          by_cases e1 : (b0.toNat : Int) - 192 = 0 ∨ (b0.toNat : Int) - 192 = 1
          · rw [if_neg (by omega)] at hD
            rw [if_pos (by omega), chrR_bad hD]
          · rw [if_pos (by omega)] at hD
            rw [if_neg (by omega), chrR_ok hD (by omega)]
            congr 2
            omega
    · rw [if_neg (by simp; omega), if_pos (by omega), gouacheref01_char.j1]
      by_cases c4 : b0.toNat < 240
      · rw [if_pos (decide_eq_true (by omega)), show wrap32 ((b0.toNat : Int) - 224) = (b0.toNat : Int) - 224 by unfold wrap32; omega]
        rw [show (2 : Int) = ((2 : Nat) : Int) from rfl]
        by_cases hs : t.length < 2
        · rw [char_short _ _ _ _ 2 (by decide) (by rw [List.length_cons]; omega), chrR_bad]
          rw [hD]
          unfold Lib.decodeN
          rw [if_neg c1, if_neg (by omega), if_neg (by rw [List.length_cons]; omega), if_neg (by omega)]
        · obtain ⟨b1, b2, t, rfl⟩ : ∃ b1 b2 u, t = b1 :: b2 :: u := by
            match t, hs with
            | b1 :: b2 :: u, _ => exact ⟨b1, b2, u, rfl⟩
            | [], hs => exact absurd (by simp) hs
            | [_], hs => exact absurd (by simp) hs
          have k1 := b1.toNat_lt
          have k2 := b2.toNat_lt
          rw [char_j2 _ _ _ _ 2 (by decide) (by decide) (by simp) hlen]
          rw [show ((b0 :: b1 :: b2 :: t).take (2 + 1)).tail = [b1, b2] from rfl]
          rw [char_step _ _ _ _ [b1, b2] 0 (by simp) (by simp) (by omega) (by omega)]
          simp only [List.getElem_cons_zero]
          rw [show (b0 :: b1 :: b2 :: t).getD 1 0 = b1 from rfl, show (b0 :: b1 :: b2 :: t).getD 2 0 = b2 from rfl] at hD
          have hn : 2 < (b0 :: b1 :: b2 :: t).length := by simp
          by_cases d1 : b1.toNat < 128 ∨ 192 ≤ b1.toNat
          · rw [if_pos d1, chrR_bad]
            rw [hD]
            unfold Lib.decodeN
            rw [if_neg c1, if_neg (by omega), if_neg (by omega), if_neg (by omega)]
          · rw [if_neg d1, char_step _ _ _ _ [b1, b2] (0 + 1) (by simp) (by simp) (by omega) (by omega)]
            simp only [List.getElem_cons_succ, List.getElem_cons_zero]
            by_cases d2 : b2.toNat < 128 ∨ 192 ≤ b2.toNat
            · rw [if_pos d2, chrR_bad]
              rw [hD]
              unfold Lib.decodeN
              rw [if_neg c1, if_neg (by omega), if_neg (by omega), if_neg (by omega)]
            · rw [if_neg d2]
              refine (char_end _ _ _ _ [b1, b2] 2 rfl (by decide)).trans ?_
              unfold Lib.decodeN at hD
              rw [if_neg c1, if_neg (by omega), if_pos (by omega)] at hD
              by_cases e1 : (((b0.toNat : Int) - 224) * 64 + ((b1.toNat : Int) - 128)) * 64 + ((b2.toNat : Int) - 128) < 2048 ∨ (55296 ≤ (((b0.toNat : Int) - 224) * 64 + ((b1.toNat : Int) - 128)) * 64 + ((b2.toNat : Int) - 128) ∧ (((b0.toNat : Int) - 224) * 64 + ((b1.toNat : Int) - 128)) * 64 + ((b2.toNat : Int) - 128) < 57344)
              · rw [if_neg (by omega)] at hD
                rw [if_pos (by omega), chrR_bad hD]
              · rw [if_pos (by omega)] at hD
                rw [if_neg (by omega), chrR_ok hD (by omega)]
                congr 2
                omega
      · rw [if_neg (by simp; omega), if_pos (by omega)]
        by_cases c5 : b0.toNat < 248
        · rw [if_pos (by omega), show wrap32 ((b0.toNat : Int) - 240) = (b0.toNat : Int) - 240 by unfold wrap32; omega]
          rw [show (3 : Int) = ((3 : Nat) : Int) from rfl]
          by_cases hs : t.length < 3
          · rw [char_short _ _ _ _ 3 (by decide) (by rw [List.length_cons]; omega), chrR_bad]
            rw [hD]
            unfold Lib.decodeN
            rw [if_neg c1, if_neg (by omega), if_neg (by omega), if_neg (by rw [List.length_cons]; omega)]
          · obtain ⟨b1, b2, b3, t, rfl⟩ : ∃ b1 b2 b3 u, t = b1 :: b2 :: b3 :: u := by
              match t, hs with
              | b1 :: b2 :: b3 :: u, _ => exact ⟨b1, b2, b3, u, rfl⟩
              | [], hs => exact absurd (by simp) hs
              | [_], hs => exact absurd (by simp) hs
              | [_, _], hs => exact absurd (by simp) hs
            have k1 := b1.toNat_lt
            have k2 := b2.toNat_lt
            have k3 := b3.toNat_lt
            rw [char_j2 _ _ _ _ 3 (by decide) (by decide) (by simp) hlen]
            rw [show ((b0 :: b1 :: b2 :: b3 :: t).take (3 + 1)).tail = [b1, b2, b3] from rfl]
            rw [char_step _ _ _ _ [b1, b2, b3] 0 (by simp) (by simp) (by omega) (by omega)]
            simp only [List.getElem_cons_zero]
            rw [show (b0 :: b1 :: b2 :: b3 :: t).getD 1 0 = b1 from rfl, show (b0 :: b1 :: b2 :: b3 :: t).getD 2 0 = b2 from rfl, show (b0 :: b1 :: b2 :: b3 :: t).getD 3 0 = b3 from rfl] at hD
            have hn : 3 < (b0 :: b1 :: b2 :: b3 :: t).length := by simp
            by_cases d1 : b1.toNat < 128 ∨ 192 ≤ b1.toNat
            · rw [if_pos d1, chrR_bad]
              rw [hD]
              unfold Lib.decodeN
              rw [if_neg c1, if_neg (by omega), if_neg (by omega), if_neg (by omega)]
            · rw [if_neg d1, char_step _ _ _ _ [b1, b2, b3] (0 + 1) (by simp) (by simp) (by omega) (by omega)]
              simp only [List.getElem_cons_succ, List.getElem_cons_zero]
              by_cases d2 : b2.toNat < 128 ∨ 192 ≤ b2.toNat
              · rw [if_pos d2, chrR_bad]
                rw [hD]
                unfold Lib.decodeN
                rw [if_neg c1, if_neg (by omega), if_neg (by omega), if_neg (by omega)]
              · rw [if_neg d2, char_step _ _ _ _ [b1, b2, b3] (0 + 1 + 1) (by simp) (by simp) (by omega) (by omega)]
                simp only [List.getElem_cons_succ, List.getElem_cons_zero]
                by_cases d3 : b3.toNat < 128 ∨ 192 ≤ b3.toNat
                · rw [if_pos d3, chrR_bad]
                  rw [hD]
                  unfold Lib.decodeN
                  rw [if_neg c1, if_neg (by omega), if_neg (by omega), if_neg (by omega)]
                · rw [if_neg d3]
                  refine (char_end _ _ _ _ [b1, b2, b3] 3 rfl (by decide)).trans ?_
                  unfold Lib.decodeN at hD
                  rw [if_neg c1, if_neg (by omega), if_neg (by omega), if_pos (by omega)] at hD
                  generalize hv : ((((b0.toNat : Int) - 240) * 64 + ((b1.toNat : Int) - 128)) * 64 + ((b2.toNat : Int) - 128)) * 64 + ((b3.toNat : Int) - 128) = v
                  by_cases e1 : v < 65536 ∨ 1114111 < v ∨ (55296 ≤ v ∧ v < 57344)
                  · rw [if_neg (by omega)] at hD
                    rw [if_pos e1, chrR_bad hD]
                  · rw [if_pos (by omega)] at hD
                    rw [if_neg e1, chrR_ok hD (by omega)]
                    congr 2
                    omega
        · rw [if_neg (by omega), chrR_bad]
          rw [hD]
          unfold Lib.decodeN
          rw [if_neg c1, if_neg (by omega), if_neg (by omega), if_neg (by omega)]
  · rw [if_neg (by omega), gouacheref01_char.j0, if_neg (by simp), if_neg (by omega), gouacheref01_char.j1, if_neg (by simp), if_neg (by omega), chrR_bad]
    rw [hD]
    unfold Lib.decodeN
    rw [if_neg c1, if_neg (by omega), if_neg (by omega), if_neg (by omega)]
theorem chars_loop : ∀ (n : Nat) (l : List UInt8) (k : Nat) (out : List Int), l.length ≤ n → n + 11 ≤ k → out.length + l.length ≤ 1099511627776 → gouacheref01_Chars.l0 k (ints l) out = some (out ++ decN l)
  | n, [], 0, out, _, hk, _ => by omega
  | n, [], k + 1, out, _, _, _ => by
    rw [gouacheref01_Chars.l0, if_neg (by simp [ints]), decN_nil, List.append_nil]
  | 0, a :: t, k, out, h, _, _ => by cases h
  | n + 1, a :: t, 0, out, _, hk, _ => by omega
  | n + 1, a :: t, k + 1, out, h, hk, ho => by
    have hw := dcl_width (a := a) (t := t)
    have hi : (ints (a :: t)).length = (a :: t).length := by unfold ints; simp
    have hp : 0 < (a :: t).length := by simp
    rw [gouacheref01_Chars.l0, if_pos (by omega), char_law (a :: t) (by simp) (by omega) k (by omega), Option.bind_some, decN_cons]
    by_cases hb : (dcl (a :: t)).1 = 65533 ∧ (dcl (a :: t)).2 = 1
    · have hc : chrR (a :: t) = (0, 0) := by unfold chrR; rw [if_pos hb]
      rw [hc]
      simp only
      rw [if_pos trivial, if_pos (by omega), if_pos (by omega), hb.1, hb.2]
      rw [show (ints (a :: t)).drop 1 = ints ((a :: t).drop 1) by unfold ints; rw [← List.map_drop]]
      rw [chars_loop n ((a :: t).drop 1) k _ (by rw [List.length_drop]; omega) (by omega) (by rw [List.length_append, List.length_drop, List.length_singleton]; omega), List.append_assoc]
      rfl
    · have hc : chrR (a :: t) = (((dcl (a :: t)).1 : Int), ((dcl (a :: t)).2 : Int)) := by unfold chrR; rw [if_neg hb]
      rw [hc]
      simp only
      rw [if_neg (by omega), if_pos (by omega), if_pos (by omega), if_pos (by omega), Int.toNat_natCast]
      rw [show (ints (a :: t)).drop (dcl (a :: t)).2 = ints ((a :: t).drop (dcl (a :: t)).2) by unfold ints; rw [← List.map_drop]]
      rw [chars_loop n ((a :: t).drop (dcl (a :: t)).2) k _ (by rw [List.length_drop]; omega) (by omega) (by rw [List.length_append, List.length_drop, List.length_singleton]; omega), List.append_assoc]
      rfl
theorem chars_law (S : ByteArray) (h : S.size ≤ 1099511627776) : gouacheref01_Chars.f (S.size + 20) (bytesOfS S) = some (decS S) := by
  have he : bytesOfS S = ints S.data.toList := by unfold bytesOfS ints; rfl
  unfold gouacheref01_Chars.f
  rw [he, chars_loop S.size S.data.toList _ [] (Nat.le_refl _) (by omega) (by show 0 + S.size ≤ _; omega), decS_N]
  rfl
end Go.Proofs.YtpnlbmeeihbjaabDoor.P
end
section
set_option linter.unusedVariables false
set_option linter.unusedSimpArgs false
namespace Go.Proofs.YtpnlbmeeihbjaabDoor.P
open Go.RowKit Go.Proofs.YtpnlbmeeihbjaabDoorW.PrintWords Go.Proofs.YtpnlbmeeihbjaabDoorW.PrintLast Go.Proofs.YtpnlbmeeihbjaabDoorW.PrintMore
open Go.Lib
attribute [local go_sem] max2_int min2_int max_two min_two max_three min_three max_four min_four
set_option linter.unusedVariables false
set_option linter.unusedSimpArgs false
theorem start_f (c : Int) : gouacheref01_Start.f c = some (startB c) := by
  unfold gouacheref01_Start.f startB btw
  by_cases h1 : c ≥ 97
  · rw [if_pos h1]
    by_cases h2 : c ≤ 122
    · rw [if_pos h2]; congr 1; symm; rw [Bool.eq_iff_iff]; simp only [iff_true, decide_eq_true_eq, Bool.or_eq_true, Bool.and_eq_true, beq_iff_eq]; omega
    · rw [if_neg h2, if_pos (by omega), if_neg (by omega), if_neg (by omega)]; congr 1; rw [Bool.eq_iff_iff]; simp only [Bool.false_eq_true, false_iff, decide_eq_true_eq, Bool.or_eq_true, Bool.and_eq_true, beq_iff_eq]; omega
  · rw [if_neg h1]
    by_cases h2 : c ≥ 65
    · rw [if_pos h2]
      by_cases h3 : c ≤ 90
      · rw [if_pos h3]; congr 1; symm; rw [Bool.eq_iff_iff]; simp only [iff_true, decide_eq_true_eq, Bool.or_eq_true, Bool.and_eq_true, beq_iff_eq]; omega
      · rw [if_neg h3]
        by_cases h4 : c = 95
        · rw [if_pos h4]; congr 1; symm; rw [Bool.eq_iff_iff]; simp only [iff_true, decide_eq_true_eq, Bool.or_eq_true, Bool.and_eq_true, beq_iff_eq]; omega
        · rw [if_neg h4]; congr 1; rw [Bool.eq_iff_iff]; simp only [Bool.false_eq_true, false_iff, decide_eq_true_eq, Bool.or_eq_true, Bool.and_eq_true, beq_iff_eq]; omega
    · rw [if_neg h2, if_neg (by omega)]; congr 1; rw [Bool.eq_iff_iff]; simp only [Bool.false_eq_true, false_iff, decide_eq_true_eq, Bool.or_eq_true, Bool.and_eq_true, beq_iff_eq]; omega
theorem digit_f1 (c : Int) : gouacheref01_Digit.f c = some (digB c) := by
  unfold gouacheref01_Digit.f digB btw
  by_cases h : c ≥ 48
  · rw [if_pos h]; congr 1; rw [Bool.eq_iff_iff]; simp only [Bool.false_eq_true, false_iff, decide_eq_true_eq, Bool.or_eq_true, Bool.and_eq_true, beq_iff_eq]; omega
  · rw [if_neg h]; congr 1; rw [Bool.eq_iff_iff]; simp only [Bool.false_eq_true, false_iff, decide_eq_true_eq, Bool.or_eq_true, Bool.and_eq_true, beq_iff_eq]; omega
theorem part_f (c : Int) : gouacheref01_Part.f c = some (partB c) := by
  unfold gouacheref01_Part.f
  rw [start_f, Option.bind_some, digit_f1, Option.bind_some]
  unfold partB digB
  cases startB c <;> cases btw 48 57 c <;> simp
theorem numb_at : ∀ c : Fin 128, gouacheref02_numbered.f 11 (c.val : Int) = some ⟨(hexC c.val).toArray⟩ := by decide +kernel
def plainT (c : Int) : ByteArray := if c = 0 then runesBytes [65533] else if c < 32 ∨ c = 127 then ⟨(hexC c.toNat).toArray⟩ else if partB c = true then runesBytes [c] else ⟨#[]⟩
theorem plain_f {c : Int} (h0 : 0 ≤ c) : gouacheref02_plain.f 12 c = some (plainT c) := by
  have hn : c < 32 ∨ c = 127 → gouacheref02_numbered.f 11 c = some ⟨(hexC c.toNat).toArray⟩ := fun h => by
    have := numb_at ⟨c.toNat, by omega⟩
    rwa [show ((c.toNat : Nat) : Int) = c by omega] at this
  unfold gouacheref02_plain.f plainT
  by_cases c0 : c = 0
  · rw [if_pos c0, if_pos c0]
  · rw [if_neg c0, if_neg c0]
    by_cases c1 : c < 32
    · rw [if_pos c1, if_pos (.inl c1), gouacheref02_plain.j0, if_pos rfl, hn (.inl c1), Option.bind_some]
    · rw [if_neg c1, gouacheref02_plain.j0]
      by_cases c2 : c = 127
      · rw [if_pos (by simp [c2]), if_pos (.inr c2), hn (.inr c2), Option.bind_some]
      · rw [if_neg (by simp [c2]), if_neg (by omega), part_f, Option.bind_some]
        split <;> rfl
theorem enc_of {c : Int} (h0 : 0 ≤ c) : runesBytes [c] = ⟨(Lib.encodeRune c).toArray⟩ := by
  obtain ⟨r, rfl⟩ : ∃ r : Nat, c = (r : Int) := ⟨c.toNat, by omega⟩
  have e1 : runesBytes [(r : Int)] = ByteArray.empty ++ Utf8.encode (r : Int) := rfl
  apply Go.WideShapes.bytes_inj
  rw [e1]
  have e2 : (ByteArray.empty ++ Utf8.encode (r : Int)).data.toList = (Utf8.encode (r : Int)).data.toList := by simp
  rw [e2]
  show _ = Lib.encodeRune (r : Int)
  unfold Lib.encodeRune
  by_cases c1 : r < 128
  · have v : Utf8.valid (r : Int) = true := by simp [Utf8.valid]; omega
    rw [Lib.encodeRuneZ_one (by omega) (by omega)]
    simp [Utf8.encode, v, c1]
  by_cases c2 : r < 2048
  · have v : Utf8.valid (r : Int) = true := by simp [Utf8.valid]; omega
    rw [Lib.encodeRuneZ_two (by omega) (by omega)]
    simp only [List.map_cons, List.map_nil]
    rw [show (192 + (r : Int) / 64).toNat = 192 + r / 64 by omega, show (128 + (r : Int) % 64).toNat = 128 + r % 64 by omega]
    simp [Utf8.encode, v, c1, c2]
  by_cases hb : (55296 ≤ r ∧ r ≤ 57343) ∨ 1114111 < r
  · have v : Utf8.valid (r : Int) = false := by simp [Utf8.valid]; omega
    rw [Lib.encodeRuneZ_bad (by omega)]
    simp [Utf8.encode, v, Utf8.runeError]
  have v : Utf8.valid (r : Int) = true := by simp [Utf8.valid]; omega
  by_cases c3 : r < 65536
  · rw [Lib.encodeRuneZ_three (by omega)]
    simp only [List.map_cons, List.map_nil]
    rw [show (224 + (r : Int) / 4096).toNat = 224 + r / 4096 by omega, show (128 + (r : Int) / 64 % 64).toNat = 128 + r / 64 % 64 by omega, show (128 + (r : Int) % 64).toNat = 128 + r % 64 by omega]
    simp [Utf8.encode, v, c1, c2, c3]
  · rw [Lib.encodeRuneZ_four (by omega) (by omega)]
    simp only [List.map_cons, List.map_nil]
    rw [show (240 + (r : Int) / 262144).toNat = 240 + r / 262144 by omega, show (128 + (r : Int) / 4096 % 64).toNat = 128 + r / 4096 % 64 by omega, show (128 + (r : Int) / 64 % 64).toNat = 128 + r / 64 % 64 by omega, show (128 + (r : Int) % 64).toNat = 128 + r % 64 by omega]
    simp [Utf8.encode, v, c1, c2, c3]
theorem chars_at (S : ByteArray) (w : World) (hS : S.size ≤ 1099511627776) :
    Calls Tryd.prog 40 #[.slice (some ⟨w.heap.size, 0, none⟩) S.size (grownCap w S.size 0 5)] (Lib.bytesWorld w 5 S) fun e w' => ∃ A c, e = .returned (.slice A (decS S).length c) ∧ Kd.C (Kd.int .i32) w' A (decS S).length (decS S) ∧ Below w.heap.size w w' := by
  have hge := grownCap_ge w S.size 0 5
  have hr : Kd.C (Kd.int .u8) (Lib.bytesWorld w 5 S) (some ⟨w.heap.size, 0, none⟩) (bytesOfS S).length (bytesOfS S) :=
    Kd.C_of_reads (d := (0 : Int)) (h1 := fun _ => rfl) ⟨rfl, by rw [bytesOfS_len]; omega, fun _ => ⟨_, rfl, fun j hj => by rw [Go.Proofs.YtpnlbmeeihbjaabDoorW.PrintWords.add_plain]; exact (BRow.made w 5 S).cell j hj⟩⟩
  have hV := Kd.V_mk (d := Kd.int .u8) (e := 5) (base := (Lib.bytesWorld w 5 S).heap.size) (c := grownCap w S.size 0 5) (by rw [bytesOfS_len]; exact hge) (Kd.C_F (Kd.heap_int _) hr)
  have c1 := gouacheref01_Chars.calls (S.size + 20) _ _ _ (bytesOfS S) (decS S) _ hV (chars_law S hS)
  rw [bytesOfS_len] at c1
  have HB := Aside0.mk (bytesWorld_below w 5 S)
  refine c1.mono ?_
  rintro e W ⟨v, rfl, hR, hb⟩
  obtain ⟨A, c, rfl, hl, hC⟩ := Kd.R_reads hR
  exact ⟨A, c, rfl, hC, HB.out.trans (below_less hb HB.out.size)⟩
end Go.Proofs.YtpnlbmeeihbjaabDoor.P
end
section
set_option linter.unusedVariables false
set_option linter.unusedSimpArgs false
namespace Go.Proofs.YtpnlbmeeihbjaabDoor.P
open Go.RowKit Go.Proofs.YtpnlbmeeihbjaabDoorW.PrintWords Go.Proofs.YtpnlbmeeihbjaabDoorW.PrintLast Go.Proofs.YtpnlbmeeihbjaabDoorW.PrintMore
open Go.Lib
attribute [local go_sem] max2_int min2_int max_two min_two max_three min_three max_four min_four
set_option linter.unusedVariables false
set_option linter.unusedSimpArgs false
theorem decB_most : ∀ (k : Nat) (l : List UInt8), (decB k l).length ≤ k
  | 0, _ => Nat.le_refl _
  | k + 1, [] => Nat.zero_le _
  | k + 1, a :: t => by
    unfold decB
    rw [List.length_cons]
    exact Nat.succ_le_succ (decB_most k _)
theorem decS_most (S : ByteArray) : (decS S).length ≤ S.size := by
  rw [decS_N]
  exact decB_most _ _
theorem dec_range (S : ByteArray) : ∀ c ∈ decS S, 0 ≤ c ∧ c ≤ 1114111 := by
  rw [decS_B]
  generalize S.size + 1 = k
  generalize S.data.toList = l
  induction k generalizing l with
  | zero => intro c hc; cases hc
  | succ k ih =>
    cases l with
    | nil => intro c hc; cases hc
    | cons a t =>
      intro c hc
      unfold decB at hc
      rcases List.mem_cons.1 hc with rfl | hc
      · have := dcl_ok (a :: t); omega
      · exact ih _ c hc
def foldB (f : Int → ByteArray) (o : ByteArray) (xs : List Int) : ByteArray := xs.foldl (fun a c => a ++ f c) o
theorem foldB_nil (f : Int → ByteArray) (o : ByteArray) : foldB f o [] = o := rfl
theorem foldB_cons (f : Int → ByteArray) (o : ByteArray) (c : Int) (t : List Int) : foldB f o (c :: t) = foldB f (o ++ f c) t := rfl
def parT (sb : Int → Bool) (c : Int) : ByteArray := ⟨(charB sb c).toArray⟩
theorem foldB_parts (sb : Int → Bool) : ∀ (xs : List Int) (a : List UInt8), foldB (parT sb) ⟨a.toArray⟩ xs = ⟨(a ++ partsB sb xs).toArray⟩
  | [], a => by rw [foldB_nil]; unfold partsB; simp
  | c :: t, a => by
    rw [foldB_cons, show (⟨a.toArray⟩ : ByteArray) ++ parT sb c = ⟨(a ++ charB sb c).toArray⟩ by unfold parT; apply Go.WideShapes.bytes_inj; simp, foldB_parts sb t, partsB_cons, List.append_assoc]
theorem drop_rd {xs : List Int} {i : Nat} (h : i < xs.length) : xs.drop i = rd xs (i : Int) :: xs.drop (i + 1) := by
  rw [List.drop_eq_getElem_cons h]
  congr 1
  unfold rd
  simp [h]
theorem rd_mem {xs : List Int} {i : Nat} (h : i < xs.length) : rd xs (i : Int) ∈ xs := by
  have : rd xs (i : Int) = xs[i] := by unfold rd; simp [h]
  rw [this]
  exact List.getElem_mem h
theorem plainT_some {c : Int} (h0 : 0 ≤ c) {o : List UInt8} (h : plainB partB c = some o) : plainT c = ⟨o.toArray⟩ := by
  unfold plainB at h
  unfold plainT
  by_cases c0 : c = 0
  · rw [if_pos c0] at h ⊢
    rw [← Option.some.inj h]
    exact enc_of (by decide)
  · rw [if_neg c0] at h ⊢
    by_cases c1 : c < 32 ∨ c = 127
    · rw [if_pos c1] at h ⊢
      rw [← Option.some.inj h]
    · rw [if_neg c1] at h ⊢
      by_cases c2 : partB c = true
      · rw [if_pos c2] at h ⊢
        rw [← Option.some.inj h]
        exact enc_of h0
      · rw [if_neg c2] at h
        cases h
theorem plainT_none {c : Int} (h : plainB partB c = none) : plainT c = ⟨#[]⟩ := by
  unfold plainB at h
  unfold plainT
  by_cases c0 : c = 0
  · rw [if_pos c0] at h; cases h
  · rw [if_neg c0] at h ⊢
    by_cases c1 : c < 32 ∨ c = 127
    · rw [if_pos c1] at h; cases h
    · rw [if_neg c1] at h ⊢
      by_cases c2 : partB c = true
      · rw [if_pos c2] at h; cases h
      · rw [if_neg c2]
theorem plainB_ne {c : Int} {o : List UInt8} (h : plainB partB c = some o) : o ≠ [] := by
  unfold plainB at h
  repeat' split at h
  · cases h; obtain ⟨a, t, e⟩ := enc_ne 65533; rw [e]; simp
  · cases h; unfold hexC; simp
  · cases h; obtain ⟨a, t, e⟩ := enc_ne c; rw [e]; simp
  · cases h
theorem bar_eq {c : Int} (h0 : 0 ≤ c) (h : plainB partB c = none) : (⟨#[92]⟩ : ByteArray) ++ runesBytes [c] = parT partB c := by
  unfold parT charB
  rw [h, enc_of h0]
  apply Go.WideShapes.bytes_inj
  simp
theorem rb_size {c : Int} (h0 : 0 ≤ c) : (runesBytes [c]).size ≤ 4 := by
  rw [enc_of h0]
  exact enc_len c
set_option maxHeartbeats 16000000 in
set_option maxRecDepth 100000 in
theorem rhash_w (S : ByteArray) (w : World) (hS : S.size ≤ 1099511627776) :
    Calls Tryd.prog 44 #[.string S] w fun e w' => e = .returned (.string ⟨(35 :: partsB partB (decS S)).toArray⟩) ∧ Below w.heap.size w w' := by
  have hu9 := Tryd.underlying9
  have hu40 := Tryd.underlying40
  have hu38 := Tryd.underlying38
  have hu21 := Tryd.underlying21
  have hcv := Lib.run_convert_string_bytes (P := Tryd.prog) w 9 40 5 S Tryd.underlying9 Tryd.underlying40 Tryd.underlying5
  have C40 := Aside0.mk (chars_at S w hS)
  have HR := Aside0.mk (dec_range S)
  have HL := Aside0.mk (decS_most S)
  have HS := Aside0.mk hS
  have HF : Aside0 (foldB (parT partB) ⟨#[35]⟩ (decS S) = ⟨(35 :: partsB partB (decS S)).toArray⟩) := ⟨foldB_parts partB (decS S) [35]⟩
  clear hS
  go_enter Tryd.func44, Tryd.ntmps44
  go_wp2_with (first | (go_at_call 40; refine C40.out.mono ?_; rintro e W ⟨A, cc, rfl, hC, hb⟩; have HCR := Aside0.mk hC; have HB := Aside0.mk hb; clear hC hb) | fail)
  clear hcv C40
  generalize hxs : decS S = xs at HR HL HF HCR ⊢
  have HXS := Aside0.mk hxs
  clear hxs
  go_loopg [3, 11] xs.length (fun kq v3 v11 w' => ∃ (i : Nat) (out : ByteArray), v3 = .string out ∧ v11 = .int .i64 i ∧ Aside0 (i + kq = xs.length) ∧ Aside0 (out.size ≤ 1 + 10 * i) ∧ Aside0 (foldB (parT partB) out (xs.drop i) = foldB (parT partB) ⟨#[35]⟩ xs) ∧ Aside0 (Kd.C (Kd.int .i32) w' A xs.length xs) ∧ Aside0 (Below w.heap.size w w'))
  case atStart => exact ⟨0, ⟨#[35]⟩, rfl, rfl, ⟨by simp⟩, ⟨by decide⟩, ⟨by rw [List.drop_zero]⟩, HCR, HB⟩
  case round =>
    clear HCR HB
    obtain ⟨i, out, rfl, rfl, HN, HZ, HE, HCR, HB⟩ := hrel
    cases gk with
    | zero =>
      have c0 : decide ((i : Int) < (xs.length : Int)) = false := decide_eq_false (by have := HN.out; omega)
      have c0n : decide (i < xs.length) = false := decide_eq_false (by have := HN.out; omega)
      have HO : Aside0 (out = foldB (parT partB) ⟨#[35]⟩ xs) := ⟨by rw [← HE.out, List.drop_of_length_le (by have := HN.out; omega)]; rfl⟩
      go_wp2_with fail
      go_ret
      exact ⟨by rw [HO.out, HF.out, ← HXS.out]; rfl, HB.out⟩
    | succ m =>
      have hlt : i < xs.length := by have := HN.out; omega
      have c0 : decide ((i : Int) < (xs.length : Int)) = true := decide_eq_true (by omega)
      have p1 : 0 ≤ (i : Int) := by omega
      have q1 : (i : Int) < (xs.length : Int) := by omega
      obtain ⟨ad, rfl, hx⟩ := Kd.at_int HCR.out (i : Int) p1 q1
      have HV := Aside0.mk (HR.out _ (rd_mem hlt))
      have HE2 : Aside0 (foldB (parT partB) (out ++ parT partB (rd xs (i : Int))) (xs.drop (i + 1)) = foldB (parT partB) ⟨#[35]⟩ xs) := ⟨by rw [← HE.out, drop_rd hlt, foldB_cons]⟩
      have c0n : decide (i < xs.length) = true := decide_eq_true hlt
      have e1 : wrap64 ((i : Int) + 1) = ((i + 1 : Nat) : Int) := by have := HL.out; have := HS.out; unfold wrap64; omega
      rw [Int.toNat_natCast] at hx
      generalize rd xs (i : Int) = c at hx HV HE2
      cases hp : plainB partB c with
      | some o =>
        have HP : Aside0 (plainT c = ⟨o.toArray⟩ ∧ parT partB c = ⟨o.toArray⟩ ∧ o.length ≤ 10) := ⟨plainT_some HV.out.1 hp, by unfold parT charB; rw [hp], plainB_len hp⟩
        have hne := plainB_ne hp
        clear hp
        have hem : (⟨o.toArray⟩ : ByteArray).toList.isEmpty = false := by rw [ByteArray.toList_eq]; simpa using hne
        have hsz : (⟨o.toArray⟩ : ByteArray).size ≤ 10 := HP.out.2.2
        generalize hu : (⟨o.toArray⟩ : ByteArray) = u at HP hem hsz
        have hs1 : (9223372036854775807 < out.size + u.size) = False := eq_false (by have := HZ.out; have := HL.out; have := HS.out; omega)
        have HZ2 : Aside0 ((out ++ u).size ≤ 1 + 10 * (i + 1)) := ⟨by rw [ByteArray.size_append]; have := HZ.out; omega⟩
        clear hsz hu hne
        go_wp2_with (first | (go_at_call 41; refine (gouacheref02_plain.calls 12 c (plainT c) _ (plain_f HV.out.1)).mono ?_; rintro e W ⟨rfl, hb⟩; rw [HP.out.1]; have HB := Aside0.mk (HB.out.trans (below_less hb HB.out.size)); have HCR := Aside0.mk (Kd.C_below HCR.out hb); clear hb) | fail)
        go_roundg m
        case measure => omega
        case rel => exact ⟨i + 1, out ++ u, rfl, by rw [e1], ⟨by have := HN.out; omega⟩, HZ2, ⟨by rw [← HP.out.2.1]; exact HE2.out⟩, HCR, HB⟩
      | none =>
        have HP : Aside0 (plainT c = ⟨#[]⟩ ∧ (⟨#[92]⟩ : ByteArray) ++ runesBytes [c] = parT partB c) := ⟨plainT_none hp, bar_eq HV.out.1 hp⟩
        clear hp
        have hsz := rb_size HV.out.1
        have hs0 : (9223372036854775807 < 1 + (runesBytes [c]).size) = False := eq_false (by omega)
        have hs1 : (9223372036854775807 < out.size + (1 + (runesBytes [c]).size)) = False := eq_false (by have := HZ.out; have := HL.out; have := HS.out; omega)
        have HZ2 : Aside0 ((out ++ ((⟨#[92]⟩ : ByteArray) ++ runesBytes [c])).size ≤ 1 + 10 * (i + 1)) := ⟨by rw [ByteArray.size_append, ByteArray.size_append, show (⟨#[92]⟩ : ByteArray).size = 1 from rfl]; have := HZ.out; omega⟩
        clear hsz
        go_wp2_with (first | (go_at_call 41; refine (gouacheref02_plain.calls 12 c (plainT c) _ (plain_f HV.out.1)).mono ?_; rintro e W ⟨rfl, hb⟩; rw [HP.out.1]; have HB := Aside0.mk (HB.out.trans (below_less hb HB.out.size)); have HCR := Aside0.mk (Kd.C_below HCR.out hb); clear hb) | ((with_reducible refine gate_dst (N := 20) rfl ?_); refine Kd.R_lit (Kd.int .i32) _ 21 ?hg (N := 20) ?hd (xs := ([c] : List Int)) (inner := [.int .i32 c]) (ok := fun _ => True) (okp := fun _ => True) ?hr ?hp (fun _ hk => hk) trivial (Below.refl _ _) (Nat.le_refl _) (by simp) ?_; (case hd => rfl); (case hg => rfl); (case hr => first | (go_simp; done) | (go_simp; rfl)); (case hp => exact (Reps.one (show Kd.M (Kd.int .i32) _ _ _ c [.int .i32 c] from rfl) (Reps.none _ _))); intro vl wl hol hbl hgl hnl; clear hgl hnl; have HB := Aside0.mk (HB.out.trans (below_less hbl HB.out.size)); have HCR := Aside0.mk (Kd.C_below HCR.out hbl); have hcv5 := own_runes (P := Tryd.prog) Tryd.underlying38 Tryd.underlying21 Tryd.underlying9 (Kd.own_of_R hol); clear hol hbl) | fail)
        go_roundg m
        case measure => omega
        case rel => exact ⟨i + 1, out ++ ((⟨#[92]⟩ : ByteArray) ++ runesBytes [c]), rfl, by rw [e1], ⟨by have := HN.out; omega⟩, HZ2, ⟨by rw [HP.out.2]; exact HE2.out⟩, HCR, HB⟩
end Go.Proofs.YtpnlbmeeihbjaabDoor.P
end
section
set_option linter.unusedVariables false
set_option linter.unusedSimpArgs false
namespace Go.Proofs.YtpnlbmeeihbjaabDoor.P
open Go.RowKit Go.Proofs.YtpnlbmeeihbjaabDoorW.PrintWords Go.Proofs.YtpnlbmeeihbjaabDoorW.PrintLast Go.Proofs.YtpnlbmeeihbjaabDoorW.PrintMore
open Go.Lib
attribute [local go_sem] max2_int min2_int max_two min_two max_three min_three max_four min_four
set_option linter.unusedVariables false
set_option linter.unusedSimpArgs false
def hexT (c : Int) : ByteArray := ⟨(hexC c.toNat).toArray⟩
theorem numb_T {c : Int} (h0 : 0 ≤ c) (h1 : c < 128) : gouacheref02_numbered.f 11 c = some (hexT c) := by
  have := numb_at ⟨c.toNat, by omega⟩
  rwa [show ((c.toNat : Nat) : Int) = c by omega] at this
def escF (x0 : Int) (n i : Nat) (c : Int) : ByteArray := if digB c = true ∧ (i = 0 ∨ (i = 1 ∧ x0 = 45)) then hexT c else if c = 45 ∧ n = 1 then ⟨#[92, 45]⟩ else parT partB c
theorem escF_size (x0 : Int) (n i : Nat) (c : Int) : (escF x0 n i c).size ≤ 10 := by
  unfold escF
  split
  · exact hexC_len _
  · split
    · decide
    · exact charB_len _ c
theorem escF_hex {x0 : Int} {n i : Nat} {c : Int} (hd : digB c = true) (h : i = 0 ∨ (i = 1 ∧ x0 = 45)) : escF x0 n i c = hexT c := by unfold escF; rw [if_pos ⟨hd, h⟩]
theorem escF_par {x0 : Int} {n i : Nat} {c : Int} (hd : digB c = false ∨ (¬ i = 0 ∧ ¬ (i = 1 ∧ x0 = 45))) (h : ¬ (c = 45 ∧ n = 1)) : escF x0 n i c = parT partB c := by
  unfold escF
  rw [if_neg, if_neg h]
  rintro ⟨h1, h2⟩
  rcases hd with hd | hd
  · rw [hd] at h1; cases h1
  · rcases h2 with h2 | h2
    · exact hd.1 h2
    · exact hd.2 h2
theorem dig_part {c : Int} (h : digB c = true) : partB c = true := by
  unfold digB at h
  unfold partB
  rw [h]
  simp
theorem cq_part_ne {c : Int} (h : partB c = true) : 45 ≤ c ∧ c ≠ 127 := by
  unfold partB startB btw at h
  simp only [Bool.or_eq_true, Bool.and_eq_true, decide_eq_true_eq, beq_iff_eq] at h
  omega
theorem part_plain {c : Int} (h0 : 0 ≤ c) (h : partB c = true) : plainB partB c = some (Lib.encodeRune c) := by
  have := cq_part_ne h
  unfold plainB
  rw [if_neg (by omega), if_neg (by omega), if_pos h]
theorem some_ne_T {c : Int} (h0 : 0 ≤ c) {o : List UInt8} (h : plainB partB c = some o) : (plainT c).toList.isEmpty = false := by
  rw [plainT_some h0 h, ByteArray.toList_eq]
  simpa using plainB_ne h
theorem part_ne_T {c : Int} (h0 : 0 ≤ c) (h : partB c = true) : (plainT c).toList.isEmpty = false := some_ne_T h0 (part_plain h0 h)
theorem none_ne_T {c : Int} (h : plainB partB c = none) : (plainT c).toList.isEmpty = true := by
  rw [plainT_none h, ByteArray.toList_eq]
  rfl
theorem escF_some {x0 : Int} {n i : Nat} {c : Int} (h0 : 0 ≤ c) (hd : digB c = false ∨ (¬ i = 0 ∧ ¬ (i = 1 ∧ x0 = 45))) (h : ¬ (c = 45 ∧ n = 1)) {o : List UInt8} (hp : plainB partB c = some o) : plainT c = escF x0 n i c := by
  rw [escF_par hd h, plainT_some h0 hp]
  unfold parT charB
  rw [hp]
theorem escF_else {x0 : Int} {n i : Nat} {c : Int} (h0 : 0 ≤ c) (hd : digB c = false ∨ (¬ i = 0 ∧ ¬ (i = 1 ∧ x0 = 45))) (h : ¬ (c = 45 ∧ n = 1)) (hp : partB c = true) : plainT c = escF x0 n i c := escF_some h0 hd h (part_plain h0 hp)
theorem escF_none {x0 : Int} {n i : Nat} {c : Int} (h0 : 0 ≤ c) (hd : digB c = false ∨ (¬ i = 0 ∧ ¬ (i = 1 ∧ x0 = 45))) (h : ¬ (c = 45 ∧ n = 1)) (hp : plainB partB c = none) : (⟨#[92]⟩ : ByteArray) ++ runesBytes [c] = escF x0 n i c := by
  rw [escF_par hd h, bar_eq h0 hp]
theorem bar_one {x0 : Int} {n i : Nat} {c : Int} (h : c = 45) (hn : n = 1) : (⟨#[92]⟩ : ByteArray) ++ runesBytes [c] = escF x0 n i c := by
  subst h
  unfold escF
  rw [if_neg (fun h => absurd h.1 (by decide)), if_pos ⟨rfl, hn⟩]
  decide +kernel
def foldI (F : Nat → Int → ByteArray) : Nat → ByteArray → List Int → ByteArray
  | _, o, [] => o
  | i, o, c :: t => foldI F (i + 1) (o ++ F i c) t
set_option maxHeartbeats 16000000 in
set_option maxRecDepth 100000 in
theorem resc_w (S : ByteArray) (w : World) (hS : S.size ≤ 1099511627776) :
    Calls Tryd.prog 19 #[.string S] w fun e w' => e = .returned (.string (foldI (escF (rd (decS S) 0) (decS S).length) 0 ⟨#[]⟩ (decS S))) ∧ Below w.heap.size w w' := by
  have hu9 := Tryd.underlying9
  have hu40 := Tryd.underlying40
  have hu38 := Tryd.underlying38
  have hu21 := Tryd.underlying21
  have hcv := Lib.run_convert_string_bytes (P := Tryd.prog) w 9 40 5 S Tryd.underlying9 Tryd.underlying40 Tryd.underlying5
  have C40 := Aside0.mk (chars_at S w hS)
  have HR := Aside0.mk (dec_range S)
  have HL := Aside0.mk (decS_most S)
  have HS := Aside0.mk hS
  clear hS
  go_enter Tryd.func19, Tryd.ntmps19
  go_wp2_with (first | (go_at_call 40; refine C40.out.mono ?_; rintro e W ⟨A, cc, rfl, hC, hb⟩; have HCR := Aside0.mk hC; have HB := Aside0.mk hb; clear hC hb) | fail)
  clear hcv C40
  generalize hxs : decS S = xs at HR HL HCR ⊢
  have HXS := Aside0.mk hxs
  clear hxs
  go_loopg [4, 13] xs.length (fun kq v3 v11 w' => ∃ (i : Nat) (out : ByteArray), v3 = .string out ∧ v11 = .int .i64 i ∧ Aside0 (i + kq = xs.length) ∧ Aside0 (out.size ≤ 1 + 10 * i) ∧ Aside0 (foldI (escF (rd xs 0) xs.length) i out (xs.drop i) = foldI (escF (rd xs 0) xs.length) 0 ⟨#[]⟩ xs) ∧ Aside0 (Kd.C (Kd.int .i32) w' A xs.length xs) ∧ Aside0 (Below w.heap.size w w'))
  case atStart => exact ⟨0, ⟨#[]⟩, rfl, rfl, ⟨by simp⟩, ⟨by decide⟩, ⟨by rw [List.drop_zero]⟩, HCR, HB⟩
  case round =>
    clear HCR HB
    obtain ⟨i, out, rfl, rfl, HN, HZ, HE, HCR, HB⟩ := hrel
    cases gk with
    | zero =>
      have c0 : decide ((i : Int) < (xs.length : Int)) = false := decide_eq_false (by have := HN.out; omega)
      have c0n : decide (i < xs.length) = false := decide_eq_false (by have := HN.out; omega)
      have HO : Aside0 (out = foldI (escF (rd xs 0) xs.length) 0 ⟨#[]⟩ xs) := ⟨by rw [← HE.out, List.drop_of_length_le (by have := HN.out; omega)]; rfl⟩
      go_wp2_with fail
      go_ret
      exact ⟨by rw [HO.out, ← HXS.out]; rfl, HB.out⟩
    | succ m =>
      have hlt : i < xs.length := by have := HN.out; omega
      have c0 : decide ((i : Int) < (xs.length : Int)) = true := decide_eq_true (by omega)
      have c0n : decide (i < xs.length) = true := decide_eq_true hlt
      have p1 : 0 ≤ (i : Int) := by omega
      have q1 : (i : Int) < (xs.length : Int) := by omega
      have q0 : (0 : Int) < (xs.length : Int) := by omega
      have q0n : (0 < xs.length) = True := eq_true (by omega)
      obtain ⟨ad, rfl, hx⟩ := Kd.at_int HCR.out (i : Int) p1 q1
      have HV := Aside0.mk (HR.out _ (rd_mem hlt))
      have HE2 : Aside0 (foldI (escF (rd xs 0) xs.length) (i + 1) (out ++ escF (rd xs 0) xs.length i (rd xs (i : Int))) (xs.drop (i + 1)) = foldI (escF (rd xs 0) xs.length) 0 ⟨#[]⟩ xs) := ⟨by rw [← HE.out, drop_rd hlt]; rfl⟩
      have e1 : wrap64 ((i : Int) + 1) = ((i + 1 : Nat) : Int) := by have := HL.out; have := HS.out; unfold wrap64; omega
      rw [Int.toNat_natCast] at hx
      generalize hcc : rd xs (i : Int) = c at hx HV HE2
      clear hcc
      cases hd : digB c with
      | true =>
        have HDG : Aside0 (digB c = true) := ⟨hd⟩
        by_cases i0 : i = 0
        · have f0 : ((i : Int) == 0) = true := by rw [i0]; rfl
          have f0n : (i == 0) = true := by rw [i0]; rfl
          have f0d : decide (i = 0) = true := decide_eq_true i0
          have HNB : Aside0 (c < 128) := ⟨by have := dig_range hd; omega⟩
          have HP : Aside0 (hexT c = escF (rd xs 0) xs.length i c) := ⟨(escF_hex hd (.inl i0)).symm⟩
          have hsz : (hexT c).size ≤ 10 := by rw [HP.out]; exact escF_size _ _ _ _
          have hs1 : (9223372036854775807 < out.size + (hexT c).size) = False := eq_false (by have := HZ.out; have := HL.out; have := HS.out; have := rb_size HV.out.1; omega)
          have HZ2 : Aside0 ((out ++ hexT c).size ≤ 1 + 10 * (i + 1)) := ⟨by rw [ByteArray.size_append]; have := HZ.out; omega⟩
          clear hsz hd i0
          go_wp2_with (first | (go_at_call 41; refine (gouacheref02_plain.calls 12 c (plainT c) _ (plain_f HV.out.1)).mono ?_; rintro e W ⟨rfl, hb⟩; have HB := Aside0.mk (HB.out.trans (below_less hb HB.out.size)); have HCR := Aside0.mk (Kd.C_below HCR.out hb); clear hb; (try clear hx0); obtain ⟨ad2, e2, hx0⟩ := Kd.at_int HCR.out 0 (by decide) q0; cases e2; (try rw [show ((0 : Int)).toNat = 0 from rfl] at hx0); (try rw [Addr.add_zero'] at hx0)) | (go_at_call 42; refine (gouacheref01_Digit.calls c (digB c) _ (digit_f1 c)).mono ?_; rintro e W ⟨rfl, hb⟩; rw [HDG.out]; have HB := Aside0.mk (HB.out.trans (below_less hb.below HB.out.size)); have HCR := Aside0.mk (Kd.C_below HCR.out hb.below); clear hb; (try clear hx0); obtain ⟨ad2, e2, hx0⟩ := Kd.at_int HCR.out 0 (by decide) q0; cases e2; (try rw [show ((0 : Int)).toNat = 0 from rfl] at hx0); (try rw [Addr.add_zero'] at hx0)) | (go_at_call 43; refine (gouacheref02_numbered.calls 11 c (hexT c) _ (numb_T HV.out.1 HNB.out)).mono ?_; rintro e W ⟨rfl, hb⟩; have HB := Aside0.mk (HB.out.trans (below_less hb.below HB.out.size)); have HCR := Aside0.mk (Kd.C_below HCR.out hb.below); clear hb) | fail)
          go_roundg m
          case measure => omega
          case rel => exact ⟨i + 1, out ++ hexT c, rfl, by rw [e1], ⟨by have := HN.out; omega⟩, HZ2, ⟨by rw [HP.out]; exact HE2.out⟩, HCR, HB⟩
        · have f0 : ((i : Int) == 0) = false := beq_eq_false_iff_ne.mpr (by omega)
          have f0n : (i == 0) = false := beq_eq_false_iff_ne.mpr i0
          have f0d : decide (i = 0) = false := decide_eq_false i0
          by_cases i1 : i = 1
          · have f1 : ((i : Int) == 1) = true := by rw [i1]; rfl
            have f1n : (i == 1) = true := by rw [i1]; rfl
            have f1d : decide (i = 1) = true := decide_eq_true i1
            by_cases hz : rd xs 0 = 45
            · have fz : (rd xs 0 == 45) = true := beq_iff_eq.mpr hz
              have HNB : Aside0 (c < 128) := ⟨by have := dig_range hd; omega⟩
              have HP : Aside0 (hexT c = escF (rd xs 0) xs.length i c) := ⟨(escF_hex hd (.inr ⟨i1, hz⟩)).symm⟩
              have hsz : (hexT c).size ≤ 10 := by rw [HP.out]; exact escF_size _ _ _ _
              have hs1 : (9223372036854775807 < out.size + (hexT c).size) = False := eq_false (by have := HZ.out; have := HL.out; have := HS.out; have := rb_size HV.out.1; omega)
              have HZ2 : Aside0 ((out ++ hexT c).size ≤ 1 + 10 * (i + 1)) := ⟨by rw [ByteArray.size_append]; have := HZ.out; omega⟩
              clear hsz hd i0 i1 hz
              go_wp2_with (first | (go_at_call 41; refine (gouacheref02_plain.calls 12 c (plainT c) _ (plain_f HV.out.1)).mono ?_; rintro e W ⟨rfl, hb⟩; have HB := Aside0.mk (HB.out.trans (below_less hb HB.out.size)); have HCR := Aside0.mk (Kd.C_below HCR.out hb); clear hb; (try clear hx0); obtain ⟨ad2, e2, hx0⟩ := Kd.at_int HCR.out 0 (by decide) q0; cases e2; (try rw [show ((0 : Int)).toNat = 0 from rfl] at hx0); (try rw [Addr.add_zero'] at hx0)) | (go_at_call 42; refine (gouacheref01_Digit.calls c (digB c) _ (digit_f1 c)).mono ?_; rintro e W ⟨rfl, hb⟩; rw [HDG.out]; have HB := Aside0.mk (HB.out.trans (below_less hb.below HB.out.size)); have HCR := Aside0.mk (Kd.C_below HCR.out hb.below); clear hb; (try clear hx0); obtain ⟨ad2, e2, hx0⟩ := Kd.at_int HCR.out 0 (by decide) q0; cases e2; (try rw [show ((0 : Int)).toNat = 0 from rfl] at hx0); (try rw [Addr.add_zero'] at hx0)) | (go_at_call 43; refine (gouacheref02_numbered.calls 11 c (hexT c) _ (numb_T HV.out.1 HNB.out)).mono ?_; rintro e W ⟨rfl, hb⟩; have HB := Aside0.mk (HB.out.trans (below_less hb.below HB.out.size)); have HCR := Aside0.mk (Kd.C_below HCR.out hb.below); clear hb) | fail)
              go_roundg m
              case measure => omega
              case rel => exact ⟨i + 1, out ++ hexT c, rfl, by rw [e1], ⟨by have := HN.out; omega⟩, HZ2, ⟨by rw [HP.out]; exact HE2.out⟩, HCR, HB⟩
            · have fz : (rd xs 0 == 45) = false := beq_eq_false_iff_ne.mpr hz
              have hem : (plainT c).toList.isEmpty = false := part_ne_T HV.out.1 (dig_part hd)
              have c45 : (c == 45) = false := beq_eq_false_iff_ne.mpr (by have := dig_range hd; omega)
              have HP : Aside0 (plainT c = escF (rd xs 0) xs.length i c) := ⟨escF_else HV.out.1 (.inr ⟨i0, fun h => hz h.2⟩) (fun h => absurd h.1 (by have := dig_range hd; omega)) (dig_part hd)⟩
              have hsz : (plainT c).size ≤ 10 := by rw [HP.out]; exact escF_size _ _ _ _
              have hs1 : (9223372036854775807 < out.size + (plainT c).size) = False := eq_false (by have := HZ.out; have := HL.out; have := HS.out; have := rb_size HV.out.1; omega)
              have HZ2 : Aside0 ((out ++ plainT c).size ≤ 1 + 10 * (i + 1)) := ⟨by rw [ByteArray.size_append]; have := HZ.out; omega⟩
              clear hsz hd i0 i1 hz
              go_wp2_with (first | (go_at_call 41; refine (gouacheref02_plain.calls 12 c (plainT c) _ (plain_f HV.out.1)).mono ?_; rintro e W ⟨rfl, hb⟩; have HB := Aside0.mk (HB.out.trans (below_less hb HB.out.size)); have HCR := Aside0.mk (Kd.C_below HCR.out hb); clear hb; (try clear hx0); obtain ⟨ad2, e2, hx0⟩ := Kd.at_int HCR.out 0 (by decide) q0; cases e2; (try rw [show ((0 : Int)).toNat = 0 from rfl] at hx0); (try rw [Addr.add_zero'] at hx0)) | (go_at_call 42; refine (gouacheref01_Digit.calls c (digB c) _ (digit_f1 c)).mono ?_; rintro e W ⟨rfl, hb⟩; rw [HDG.out]; have HB := Aside0.mk (HB.out.trans (below_less hb.below HB.out.size)); have HCR := Aside0.mk (Kd.C_below HCR.out hb.below); clear hb; (try clear hx0); obtain ⟨ad2, e2, hx0⟩ := Kd.at_int HCR.out 0 (by decide) q0; cases e2; (try rw [show ((0 : Int)).toNat = 0 from rfl] at hx0); (try rw [Addr.add_zero'] at hx0)) | fail)
              go_roundg m
              case measure => omega
              case rel => exact ⟨i + 1, out ++ plainT c, rfl, by rw [e1], ⟨by have := HN.out; omega⟩, HZ2, ⟨by rw [HP.out]; exact HE2.out⟩, HCR, HB⟩
          · have f1 : ((i : Int) == 1) = false := beq_eq_false_iff_ne.mpr (by omega)
            have f1n : (i == 1) = false := beq_eq_false_iff_ne.mpr i1
            have f1d : decide (i = 1) = false := decide_eq_false i1
            have hem : (plainT c).toList.isEmpty = false := part_ne_T HV.out.1 (dig_part hd)
            have c45 : (c == 45) = false := beq_eq_false_iff_ne.mpr (by have := dig_range hd; omega)
            have HP : Aside0 (plainT c = escF (rd xs 0) xs.length i c) := ⟨escF_else HV.out.1 (.inr ⟨i0, fun h => i1 h.1⟩) (fun h => absurd h.1 (by have := dig_range hd; omega)) (dig_part hd)⟩
            have hsz : (plainT c).size ≤ 10 := by rw [HP.out]; exact escF_size _ _ _ _
            have hs1 : (9223372036854775807 < out.size + (plainT c).size) = False := eq_false (by have := HZ.out; have := HL.out; have := HS.out; have := rb_size HV.out.1; omega)
            have HZ2 : Aside0 ((out ++ plainT c).size ≤ 1 + 10 * (i + 1)) := ⟨by rw [ByteArray.size_append]; have := HZ.out; omega⟩
            clear hsz hd i0 i1
            go_wp2_with (first | (go_at_call 41; refine (gouacheref02_plain.calls 12 c (plainT c) _ (plain_f HV.out.1)).mono ?_; rintro e W ⟨rfl, hb⟩; have HB := Aside0.mk (HB.out.trans (below_less hb HB.out.size)); have HCR := Aside0.mk (Kd.C_below HCR.out hb); clear hb; (try clear hx0); obtain ⟨ad2, e2, hx0⟩ := Kd.at_int HCR.out 0 (by decide) q0; cases e2; (try rw [show ((0 : Int)).toNat = 0 from rfl] at hx0); (try rw [Addr.add_zero'] at hx0)) | (go_at_call 42; refine (gouacheref01_Digit.calls c (digB c) _ (digit_f1 c)).mono ?_; rintro e W ⟨rfl, hb⟩; rw [HDG.out]; have HB := Aside0.mk (HB.out.trans (below_less hb.below HB.out.size)); have HCR := Aside0.mk (Kd.C_below HCR.out hb.below); clear hb; (try clear hx0); obtain ⟨ad2, e2, hx0⟩ := Kd.at_int HCR.out 0 (by decide) q0; cases e2; (try rw [show ((0 : Int)).toNat = 0 from rfl] at hx0); (try rw [Addr.add_zero'] at hx0)) | fail)
            go_roundg m
            case measure => omega
            case rel => exact ⟨i + 1, out ++ plainT c, rfl, by rw [e1], ⟨by have := HN.out; omega⟩, HZ2, ⟨by rw [HP.out]; exact HE2.out⟩, HCR, HB⟩
      | false =>
        have HDG : Aside0 (digB c = false) := ⟨hd⟩
        by_cases k45 : c = 45
        · have f45 : (c == 45) = true := beq_iff_eq.mpr k45
          by_cases k1 : xs.length = 1
          · have fl : ((xs.length : Int) == 1) = true := by rw [k1]; rfl
            have fln : (xs.length == 1) = true := by rw [k1]; rfl
            have fld : decide (xs.length = 1) = true := decide_eq_true k1
            have hs0 : (9223372036854775807 < 1 + (runesBytes [c]).size) = False := eq_false (by have := rb_size HV.out.1; omega)
            have HP : Aside0 (((⟨#[92]⟩ : ByteArray) ++ runesBytes [c]) = escF (rd xs 0) xs.length i c) := ⟨bar_one k45 k1⟩
            have hsz : (((⟨#[92]⟩ : ByteArray) ++ runesBytes [c])).size ≤ 10 := by rw [HP.out]; exact escF_size _ _ _ _
            have hs1 : (9223372036854775807 < out.size + (1 + (runesBytes [c]).size)) = False := eq_false (by have := HZ.out; have := HL.out; have := HS.out; have := rb_size HV.out.1; omega)
            have HZ2 : Aside0 ((out ++ ((⟨#[92]⟩ : ByteArray) ++ runesBytes [c])).size ≤ 1 + 10 * (i + 1)) := ⟨by rw [ByteArray.size_append]; have := HZ.out; omega⟩
            clear hsz hd k45 k1
            go_wp2_with (first | (go_at_call 41; refine (gouacheref02_plain.calls 12 c (plainT c) _ (plain_f HV.out.1)).mono ?_; rintro e W ⟨rfl, hb⟩; have HB := Aside0.mk (HB.out.trans (below_less hb HB.out.size)); have HCR := Aside0.mk (Kd.C_below HCR.out hb); clear hb; (try clear hx0); obtain ⟨ad2, e2, hx0⟩ := Kd.at_int HCR.out 0 (by decide) q0; cases e2; (try rw [show ((0 : Int)).toNat = 0 from rfl] at hx0); (try rw [Addr.add_zero'] at hx0)) | (go_at_call 42; refine (gouacheref01_Digit.calls c (digB c) _ (digit_f1 c)).mono ?_; rintro e W ⟨rfl, hb⟩; rw [HDG.out]; have HB := Aside0.mk (HB.out.trans (below_less hb.below HB.out.size)); have HCR := Aside0.mk (Kd.C_below HCR.out hb.below); clear hb; (try clear hx0); obtain ⟨ad2, e2, hx0⟩ := Kd.at_int HCR.out 0 (by decide) q0; cases e2; (try rw [show ((0 : Int)).toNat = 0 from rfl] at hx0); (try rw [Addr.add_zero'] at hx0)) | ((with_reducible refine gate_dst (N := 58) rfl ?_); refine Kd.R_lit (Kd.int .i32) _ 21 ?hg (N := 58) ?hd (xs := ([c] : List Int)) (inner := [.int .i32 c]) (ok := fun _ => True) (okp := fun _ => True) ?hr ?hp (fun _ hk => hk) trivial (Below.refl _ _) (Nat.le_refl _) (by simp) ?_; (case hd => rfl); (case hg => rfl); (case hr => first | (go_simp; done) | (go_simp; rfl)); (case hp => exact (Reps.one (show Kd.M (Kd.int .i32) _ _ _ c [.int .i32 c] from rfl) (Reps.none _ _))); intro vl wl hol hbl hgl hnl; clear hgl hnl; have HB := Aside0.mk (HB.out.trans (below_less hbl HB.out.size)); have HCR := Aside0.mk (Kd.C_below HCR.out hbl); have hcv5 := own_runes (P := Tryd.prog) Tryd.underlying38 Tryd.underlying21 Tryd.underlying9 (Kd.own_of_R hol); clear hol hbl) | fail)
            go_roundg m
            case measure => omega
            case rel => exact ⟨i + 1, out ++ ((⟨#[92]⟩ : ByteArray) ++ runesBytes [c]), rfl, by rw [e1], ⟨by have := HN.out; omega⟩, HZ2, ⟨by rw [HP.out]; exact HE2.out⟩, HCR, HB⟩
          · have fl : ((xs.length : Int) == 1) = false := beq_eq_false_iff_ne.mpr (by omega)
            have fln : (xs.length == 1) = false := beq_eq_false_iff_ne.mpr k1
            have fld : decide (xs.length = 1) = false := decide_eq_false k1
            have hem : (plainT c).toList.isEmpty = false := part_ne_T HV.out.1 (by rw [k45]; decide)
            have HP : Aside0 (plainT c = escF (rd xs 0) xs.length i c) := ⟨escF_else HV.out.1 (.inl hd) (fun h => k1 h.2) (by rw [k45]; decide)⟩
            have hsz : (plainT c).size ≤ 10 := by rw [HP.out]; exact escF_size _ _ _ _
            have hs1 : (9223372036854775807 < out.size + (plainT c).size) = False := eq_false (by have := HZ.out; have := HL.out; have := HS.out; have := rb_size HV.out.1; omega)
            have HZ2 : Aside0 ((out ++ plainT c).size ≤ 1 + 10 * (i + 1)) := ⟨by rw [ByteArray.size_append]; have := HZ.out; omega⟩
            clear hsz hd k45 k1
            go_wp2_with (first | (go_at_call 41; refine (gouacheref02_plain.calls 12 c (plainT c) _ (plain_f HV.out.1)).mono ?_; rintro e W ⟨rfl, hb⟩; have HB := Aside0.mk (HB.out.trans (below_less hb HB.out.size)); have HCR := Aside0.mk (Kd.C_below HCR.out hb); clear hb; (try clear hx0); obtain ⟨ad2, e2, hx0⟩ := Kd.at_int HCR.out 0 (by decide) q0; cases e2; (try rw [show ((0 : Int)).toNat = 0 from rfl] at hx0); (try rw [Addr.add_zero'] at hx0)) | (go_at_call 42; refine (gouacheref01_Digit.calls c (digB c) _ (digit_f1 c)).mono ?_; rintro e W ⟨rfl, hb⟩; rw [HDG.out]; have HB := Aside0.mk (HB.out.trans (below_less hb.below HB.out.size)); have HCR := Aside0.mk (Kd.C_below HCR.out hb.below); clear hb; (try clear hx0); obtain ⟨ad2, e2, hx0⟩ := Kd.at_int HCR.out 0 (by decide) q0; cases e2; (try rw [show ((0 : Int)).toNat = 0 from rfl] at hx0); (try rw [Addr.add_zero'] at hx0)) | fail)
            go_roundg m
            case measure => omega
            case rel => exact ⟨i + 1, out ++ plainT c, rfl, by rw [e1], ⟨by have := HN.out; omega⟩, HZ2, ⟨by rw [HP.out]; exact HE2.out⟩, HCR, HB⟩
        · have f45 : (c == 45) = false := beq_eq_false_iff_ne.mpr k45
          cases hp : plainB partB c with
          | some o =>
            have hem : (plainT c).toList.isEmpty = false := some_ne_T HV.out.1 hp
            have HP : Aside0 (plainT c = escF (rd xs 0) xs.length i c) := ⟨escF_some HV.out.1 (.inl hd) (fun h => k45 h.1) hp⟩
            have hsz : (plainT c).size ≤ 10 := by rw [HP.out]; exact escF_size _ _ _ _
            have hs1 : (9223372036854775807 < out.size + (plainT c).size) = False := eq_false (by have := HZ.out; have := HL.out; have := HS.out; have := rb_size HV.out.1; omega)
            have HZ2 : Aside0 ((out ++ plainT c).size ≤ 1 + 10 * (i + 1)) := ⟨by rw [ByteArray.size_append]; have := HZ.out; omega⟩
            clear hsz hd k45 hp
            go_wp2_with (first | (go_at_call 41; refine (gouacheref02_plain.calls 12 c (plainT c) _ (plain_f HV.out.1)).mono ?_; rintro e W ⟨rfl, hb⟩; have HB := Aside0.mk (HB.out.trans (below_less hb HB.out.size)); have HCR := Aside0.mk (Kd.C_below HCR.out hb); clear hb; (try clear hx0); obtain ⟨ad2, e2, hx0⟩ := Kd.at_int HCR.out 0 (by decide) q0; cases e2; (try rw [show ((0 : Int)).toNat = 0 from rfl] at hx0); (try rw [Addr.add_zero'] at hx0)) | (go_at_call 42; refine (gouacheref01_Digit.calls c (digB c) _ (digit_f1 c)).mono ?_; rintro e W ⟨rfl, hb⟩; rw [HDG.out]; have HB := Aside0.mk (HB.out.trans (below_less hb.below HB.out.size)); have HCR := Aside0.mk (Kd.C_below HCR.out hb.below); clear hb; (try clear hx0); obtain ⟨ad2, e2, hx0⟩ := Kd.at_int HCR.out 0 (by decide) q0; cases e2; (try rw [show ((0 : Int)).toNat = 0 from rfl] at hx0); (try rw [Addr.add_zero'] at hx0)) | fail)
            go_roundg m
            case measure => omega
            case rel => exact ⟨i + 1, out ++ plainT c, rfl, by rw [e1], ⟨by have := HN.out; omega⟩, HZ2, ⟨by rw [HP.out]; exact HE2.out⟩, HCR, HB⟩
          | none =>
            have hs0 : (9223372036854775807 < 1 + (runesBytes [c]).size) = False := eq_false (by have := rb_size HV.out.1; omega)
            have hem : (plainT c).toList.isEmpty = true := none_ne_T hp
            have HP : Aside0 (((⟨#[92]⟩ : ByteArray) ++ runesBytes [c]) = escF (rd xs 0) xs.length i c) := ⟨escF_none HV.out.1 (.inl hd) (fun h => k45 h.1) hp⟩
            have hsz : (((⟨#[92]⟩ : ByteArray) ++ runesBytes [c])).size ≤ 10 := by rw [HP.out]; exact escF_size _ _ _ _
            have hs1 : (9223372036854775807 < out.size + (1 + (runesBytes [c]).size)) = False := eq_false (by have := HZ.out; have := HL.out; have := HS.out; have := rb_size HV.out.1; omega)
            have HZ2 : Aside0 ((out ++ ((⟨#[92]⟩ : ByteArray) ++ runesBytes [c])).size ≤ 1 + 10 * (i + 1)) := ⟨by rw [ByteArray.size_append]; have := HZ.out; omega⟩
            clear hsz hd k45 hp
            go_wp2_with (first | (go_at_call 41; refine (gouacheref02_plain.calls 12 c (plainT c) _ (plain_f HV.out.1)).mono ?_; rintro e W ⟨rfl, hb⟩; have HB := Aside0.mk (HB.out.trans (below_less hb HB.out.size)); have HCR := Aside0.mk (Kd.C_below HCR.out hb); clear hb; (try clear hx0); obtain ⟨ad2, e2, hx0⟩ := Kd.at_int HCR.out 0 (by decide) q0; cases e2; (try rw [show ((0 : Int)).toNat = 0 from rfl] at hx0); (try rw [Addr.add_zero'] at hx0)) | (go_at_call 42; refine (gouacheref01_Digit.calls c (digB c) _ (digit_f1 c)).mono ?_; rintro e W ⟨rfl, hb⟩; rw [HDG.out]; have HB := Aside0.mk (HB.out.trans (below_less hb.below HB.out.size)); have HCR := Aside0.mk (Kd.C_below HCR.out hb.below); clear hb; (try clear hx0); obtain ⟨ad2, e2, hx0⟩ := Kd.at_int HCR.out 0 (by decide) q0; cases e2; (try rw [show ((0 : Int)).toNat = 0 from rfl] at hx0); (try rw [Addr.add_zero'] at hx0)) | ((with_reducible refine gate_dst (N := 58) rfl ?_); refine Kd.R_lit (Kd.int .i32) _ 21 ?hg (N := 58) ?hd (xs := ([c] : List Int)) (inner := [.int .i32 c]) (ok := fun _ => True) (okp := fun _ => True) ?hr ?hp (fun _ hk => hk) trivial (Below.refl _ _) (Nat.le_refl _) (by simp) ?_; (case hd => rfl); (case hg => rfl); (case hr => first | (go_simp; done) | (go_simp; rfl)); (case hp => exact (Reps.one (show Kd.M (Kd.int .i32) _ _ _ c [.int .i32 c] from rfl) (Reps.none _ _))); intro vl wl hol hbl hgl hnl; clear hgl hnl; have HB := Aside0.mk (HB.out.trans (below_less hbl HB.out.size)); have HCR := Aside0.mk (Kd.C_below HCR.out hbl); have hcv5 := own_runes (P := Tryd.prog) Tryd.underlying38 Tryd.underlying21 Tryd.underlying9 (Kd.own_of_R hol); clear hol hbl) | fail)
            go_roundg m
            case measure => omega
            case rel => exact ⟨i + 1, out ++ ((⟨#[92]⟩ : ByteArray) ++ runesBytes [c]), rfl, by rw [e1], ⟨by have := HN.out; omega⟩, HZ2, ⟨by rw [HP.out]; exact HE2.out⟩, HCR, HB⟩
end Go.Proofs.YtpnlbmeeihbjaabDoor.P
end
section
set_option linter.unusedVariables false
set_option linter.unusedSimpArgs false
namespace Go.Proofs.YtpnlbmeeihbjaabDoor.P
open Go.RowKit Go.Proofs.YtpnlbmeeihbjaabDoorW.PrintWords Go.Proofs.YtpnlbmeeihbjaabDoorW.PrintLast Go.Proofs.YtpnlbmeeihbjaabDoorW.PrintMore
open Go.Lib
attribute [local go_sem] max2_int min2_int max_two min_two max_three min_three max_four min_four
set_option linter.unusedVariables false
set_option linter.unusedSimpArgs false
def escRB : List Int → List UInt8
  | [] => []
  | c :: t => (if 48 ≤ c ∧ c ≤ 57 then hexC c.toNat else charB partB c) ++ partsB partB t
theorem escRB_cons (c : Int) (t : List Int) : escRB (c :: t) = (if 48 ≤ c ∧ c ≤ 57 then hexC c.toNat else charB partB c) ++ partsB partB t := rfl
theorem first_byte (R : ByteArray) (h0 : 0 < R.size) : ∃ t, R.data.toList = (R[0]'h0) :: t := by
  have hg : R.data.toList[0]'h0 = R[0]'h0 := by rw [Array.getElem_toList]; rfl
  obtain ⟨a, t, e⟩ : ∃ a t, R.data.toList = a :: t := ⟨_, _, (List.cons_head_tail (List.length_pos_iff.1 h0)).symm⟩
  simp only [e, List.getElem_cons_zero] at hg
  exact ⟨t, by rw [e, hg]⟩
theorem escR_dec (R : ByteArray) : escR R = escRB (decS R) := by
  unfold escR
  by_cases hd : 0 < R.size ∧ btw 48 57 (hd0 R) = true
  · rw [if_pos hd]
    obtain ⟨h0, h1⟩ := hd
    rw [hd0_at R h0] at h1 ⊢
    obtain ⟨t, e⟩ := first_byte R h0
    have hb : 48 ≤ (R[0]'h0).toNat ∧ (R[0]'h0).toNat ≤ 57 := by
      unfold btw at h1
      simp only [Bool.and_eq_true, decide_eq_true_eq] at h1
      omega
    generalize R[0]'h0 = a at e hb
    rw [decS_N, decS_N, ext_tail, e, List.tail_cons, decN_ascii (by omega), escRB_cons, if_pos (by omega)]
    rfl
  · rw [if_neg hd]
    cases hx : decS R with
    | nil => rfl
    | cons c t =>
      rw [escRB_cons, if_neg, partsB_cons]
      intro hc
      apply hd
      have h0 : 0 < R.size := by
        apply Decidable.byContradiction
        intro hn
        have h1 := decS_most R
        rw [hx, List.length_cons] at h1
        omega
      refine ⟨h0, ?_⟩
      rw [hd0_at R h0]
      obtain ⟨u, e⟩ := first_byte R h0
      generalize R[0]'h0 = a at e
      rw [decS_N, e, decN_cons] at hx
      injection hx with hx1 hx2
      have := dcl_head (a := a) (t := u) (by omega)
      unfold btw
      simp only [Bool.and_eq_true, decide_eq_true_eq]
      omega
def escSB : List Int → List UInt8
  | 45 :: c :: t => 45 :: escRB (c :: t)
  | [45] => [92, 45]
  | xs => escRB xs
theorem escSB_else {c : Int} {t : List Int} (h : c ≠ 45) : escSB (c :: t) = escRB (c :: t) := by
  unfold escSB
  split
  · rename_i e; injection e with e1 _; exact absurd e1 h
  · rename_i e; injection e with e1 _; exact absurd e1 h
  · rfl
theorem escS_dec (S : ByteArray) : escS S = escSB (decS S) := by
  have hl : S.size = S.data.toList.length := rfl
  have hp := pref_45 S
  unfold escS
  by_cases h1 : hpB S ⟨#[45]⟩ = true ∧ 1 < S.size
  · rw [if_pos h1]
    obtain ⟨t, e⟩ := hp.1 h1.1
    have hd : decS S = 45 :: decS (S.extract 1 S.size) := by
      rw [decS_N, decS_N, ext_tail, e, decN_ascii (by decide)]
      rfl
    rw [hd, escR_dec]
    obtain ⟨c, u, e2⟩ : ∃ c u, decS (S.extract 1 S.size) = c :: u := by
      rw [decS_N, ext_tail, e, List.tail_cons]
      cases t with
      | nil => rw [hl, e] at h1; exact absurd h1.2 (by decide)
      | cons a t => exact ⟨_, _, decN_cons a t⟩
    rw [e2]
    rfl
  · rw [if_neg h1]
    by_cases h2 : S.toList = [45]
    · rw [if_pos h2]
      rw [ByteArray.toList_eq] at h2
      rw [decS_N, h2]
      rfl
    · rw [if_neg h2, escR_dec]
      cases e : decS S with
      | nil => rfl
      | cons c u =>
        rw [escSB_else]
        rintro rfl
        rw [decS_N] at e
        cases e3 : S.data.toList with
        | nil => rw [e3, decN_nil] at e; cases e
        | cons a t =>
          rw [e3, decN_cons] at e
          injection e with e4 e5
          have := dcl_head (a := a) (t := t) (by omega)
          have ha : a = 45 := by
            apply UInt8.toNat.inj
            show a.toNat = 45
            omega
          subst ha
          have hpt := hp.2 ⟨t, e3⟩
          apply h2
          rw [ByteArray.toList_eq, e3]
          cases t with
          | nil => rfl
          | cons b t => exact absurd ⟨hpt, by rw [hl, e3]; simp⟩ h1
theorem foldI_tail (x0 : Int) (n : Nat) (hn : n ≠ 1) : ∀ (xs : List Int) (i : Nat) (o : ByteArray), 2 ≤ i → foldI (escF x0 n) i o xs = foldB (parT partB) o xs
  | [], _, _, _ => rfl
  | c :: t, i, o, h => by
    rw [foldB_cons]
    show foldI (escF x0 n) (i + 1) (o ++ escF x0 n i c) t = _
    rw [escF_par (.inr ⟨by omega, fun h => by omega⟩) (fun h => hn h.2), foldI_tail x0 n hn t (i + 1) _ (by omega)]
theorem app_parts (a b : List UInt8) : (⟨a.toArray⟩ : ByteArray) ++ ⟨b.toArray⟩ = ⟨(a ++ b).toArray⟩ := by
  apply Go.WideShapes.bytes_inj
  simp
theorem dig_iff {c : Int} : digB c = true ↔ 48 ≤ c ∧ c ≤ 57 := by
  unfold digB btw
  simp
theorem esc_law (S : ByteArray) : foldI (escF (rd (decS S) 0) (decS S).length) 0 ⟨#[]⟩ (decS S) = ⟨(escS S).toArray⟩ := by
  rw [escS_dec]
  have e0 : ∀ x : ByteArray, (⟨#[]⟩ : ByteArray) ++ x = x := fun x => by apply Go.WideShapes.bytes_inj; simp
  match decS S with
  | [] => rfl
  | [c] =>
    show (⟨#[]⟩ : ByteArray) ++ escF c 1 0 c = _
    rw [e0]
    by_cases h45 : c = 45
    · subst h45
      unfold escF
      rw [if_neg (fun h => absurd h.1 (by decide)), if_pos ⟨rfl, rfl⟩]
      rfl
    · rw [escSB_else h45, escRB_cons]
      by_cases hd : 48 ≤ c ∧ c ≤ 57
      · rw [escF_hex (dig_iff.2 hd) (.inl rfl), if_pos hd]
        unfold hexT partsB
        simp
      · rw [escF_par (.inl (by rw [← Bool.not_eq_true]; exact fun h => hd (dig_iff.1 h))) (fun h => h45 h.1), if_neg hd]
        unfold parT partsB
        simp
  | c :: d :: t =>
    show foldI (escF c (t.length + 2)) 2 (((⟨#[]⟩ : ByteArray) ++ escF c (t.length + 2) 0 c) ++ escF c (t.length + 2) 1 d) t = _
    rw [e0, foldI_tail _ _ (by omega) _ _ _ (by omega)]
    have hF0 : escF c (t.length + 2) 0 c = ⟨(if 48 ≤ c ∧ c ≤ 57 then hexC c.toNat else charB partB c).toArray⟩ := by
      by_cases hd : 48 ≤ c ∧ c ≤ 57
      · rw [escF_hex (dig_iff.2 hd) (.inl rfl), if_pos hd]; rfl
      · rw [escF_par (.inl (by rw [← Bool.not_eq_true]; exact fun h => hd (dig_iff.1 h))) (fun h => by omega), if_neg hd]; rfl
    by_cases h45 : c = 45
    · subst h45
      have hF1 : escF 45 (t.length + 2) 1 d = ⟨(if 48 ≤ d ∧ d ≤ 57 then hexC d.toNat else charB partB d).toArray⟩ := by
        by_cases hd : 48 ≤ d ∧ d ≤ 57
        · rw [escF_hex (dig_iff.2 hd) (.inr ⟨rfl, rfl⟩), if_pos hd]; rfl
        · rw [escF_par (.inl (by rw [← Bool.not_eq_true]; exact fun h => hd (dig_iff.1 h))) (fun h => by omega), if_neg hd]; rfl
      rw [hF0, hF1, app_parts, foldB_parts]
      show _ = (⟨(45 :: escRB (d :: t)).toArray⟩ : ByteArray)
      rw [escRB_cons, if_neg (by decide), show charB partB 45 = [45] by decide +kernel]
      simp
    · have hF1 : escF c (t.length + 2) 1 d = ⟨(charB partB d).toArray⟩ := by
        rw [escF_par (.inr ⟨by decide, fun h => h45 h.2⟩) (fun h => by omega)]; rfl
      rw [hF0, hF1, app_parts, foldB_parts, escSB_else h45, escRB_cons, partsB_cons, List.append_assoc]
theorem resc_calls (S : ByteArray) (w : World) (hS : S.size ≤ 1099511627776) :
    Calls Tryd.prog 19 #[.string S] w fun e w' => e = .returned (.string ⟨(escS S).toArray⟩) ∧ Below w.heap.size w w' := by
  have := resc_w S w hS
  rw [esc_law] at this
  exact this
theorem unit_end (a : Int) (b : List UInt8) : hexT a ++ (⟨([] ++ b).toArray⟩ : ByteArray) = ⟨(hexC a.toNat ++ b).toArray⟩ := by
  unfold hexT
  rw [app_parts]
  rfl
set_option maxHeartbeats 16000000 in
set_option maxRecDepth 100000 in
theorem runit_else (S : ByteArray) (w : World) (hS : S.size ≤ 1099511627776) (h : ¬ (0 < S.size ∧ bigE (hd0 S) = true)) :
    Calls Tryd.prog 45 #[.string S] w fun e w' => e = .returned (.string ⟨(unitT S).toArray⟩) ∧ Below w.heap.size w w' := by
  have HU : Aside0 (unitT S = escS S) := ⟨by unfold unitT; rw [if_neg h]⟩
  have HS := Aside0.mk hS
  by_cases hz : 0 < S.size
  · have e0 : hd0 S = (S[0]'hz).toNat := hd0_at S hz
    have hb : bigE (S[0]'hz).toNat = false := by
      cases hb : bigE (S[0]'hz).toNat with
      | false => rfl
      | true => exact absurd ⟨hz, by rw [e0]; exact hb⟩ h
    unfold bigE at hb
    simp only [Bool.or_eq_false_iff, beq_eq_false_iff_ne] at hb
    have g1 : decide ((0 : Int) < (S.size : Int)) = true := decide_eq_true (by omega)
    have g1n : decide (0 < S.size) = true := decide_eq_true hz
    have g2 : ((((S[0]'hz).toNat : Nat) : Int) == 101) = false := beq_eq_false_iff_ne.mpr (by omega)
    have g3 : ((((S[0]'hz).toNat : Nat) : Int) == 69) = false := beq_eq_false_iff_ne.mpr (by omega)
    clear hS h hb e0
    go_enter Tryd.func45, Tryd.ntmps45
    go_wp2_with (first | (go_at_call 19; refine (resc_calls S _ HS.out).mono ?_; rintro e W ⟨rfl, hb⟩; have HB := Aside0.mk hb; clear hb) | fail)
    go_ret
    exact ⟨by rw [HU.out]; rfl, HB.out⟩
  · have g1 : decide ((0 : Int) < (S.size : Int)) = false := decide_eq_false (by omega)
    have g1n : decide (0 < S.size) = false := decide_eq_false hz
    clear hS h hz
    go_enter Tryd.func45, Tryd.ntmps45
    go_wp2_with (first | (go_at_call 19; refine (resc_calls S _ HS.out).mono ?_; rintro e W ⟨rfl, hb⟩; have HB := Aside0.mk hb; clear hb) | fail)
    go_ret
    exact ⟨by rw [HU.out]; rfl, HB.out⟩
set_option maxHeartbeats 16000000 in
set_option maxRecDepth 100000 in
theorem runit_e (S : ByteArray) (w : World) (hS : S.size ≤ 1099511627776) (h : 0 < S.size ∧ bigE (hd0 S) = true) :
    Calls Tryd.prog 45 #[.string S] w fun e w' => e = .returned (.string ⟨(unitT S).toArray⟩) ∧ Below w.heap.size w w' := by
  have hu9 := Tryd.underlying9
  have hu40 := Tryd.underlying40
  have hu38 := Tryd.underlying38
  have hu21 := Tryd.underlying21
  obtain ⟨hz, hb⟩ := h
  have HZ0 := Aside0.mk hz
  have e0 : hd0 S = (S[0]'hz).toNat := hd0_at S hz
  have HU : Aside0 (unitT S = hexC (S[0]'hz).toNat ++ partsB partB (decS (S.extract 1 S.size))) := ⟨by unfold unitT; rw [if_pos ⟨hz, hb⟩, e0]⟩
  rw [e0] at hb
  have HNB : Aside0 ((((S[0]'HZ0.out).toNat : Nat) : Int) < 128) := ⟨by unfold bigE at hb; simp only [Bool.or_eq_true, beq_iff_eq] at hb; omega⟩
  have hw : wrap32 (((S[0]'hz).toNat : Nat) : Int) = (((S[0]'hz).toNat : Nat) : Int) := by have := UInt8.toNat_lt (S[0]'hz); unfold wrap32; omega
  have g1 : decide ((0 : Int) < (S.size : Int)) = true := decide_eq_true (by omega)
  have g1n : decide (0 < S.size) = true := decide_eq_true hz
  have hRs : (S.extract 1 S.size).size ≤ S.size := by
    show (S.extract 1 S.size).data.toList.length ≤ S.data.toList.length
    rw [ext_tail, List.length_tail]
    omega
  generalize hR : S.extract 1 S.size = R at HU hRs
  have hcv := Lib.run_convert_string_bytes (P := Tryd.prog) w 9 40 5 R Tryd.underlying9 Tryd.underlying40 Tryd.underlying5
  have C40 := Aside0.mk (chars_at R w (by omega))
  have HR := Aside0.mk (dec_range R)
  have HL : Aside0 ((decS R).length ≤ S.size) := ⟨Nat.le_trans (decS_most R) hRs⟩
  have HS := Aside0.mk hS
  have HF : Aside0 (foldB (parT partB) ⟨#[]⟩ (decS R) = ⟨([] ++ partsB partB (decS R)).toArray⟩) := ⟨foldB_parts partB (decS R) []⟩
  by_cases h101 : (S[0]'hz).toNat = 101
  · have g2 : ((((S[0]'hz).toNat : Nat) : Int) == 101) = true := beq_iff_eq.mpr (by omega)
    clear hS hb e0 hRs h101
    go_enter Tryd.func45, Tryd.ntmps45
    go_wp2_with (first | (go_at_call 40; refine C40.out.mono ?_; rintro e W ⟨A, cc, rfl, hC, hb⟩; have HCR := Aside0.mk hC; have HB := Aside0.mk hb; clear hC hb) | fail)
    clear hcv C40
    generalize hxs : decS R = xs at HR HL HF HCR ⊢
    have HXS := Aside0.mk hxs
    clear hxs
    go_loopg [3, 25] xs.length (fun kq v3 v11 w' => ∃ (i : Nat) (out : ByteArray), v3 = .string out ∧ v11 = .int .i64 i ∧ Aside0 (i + kq = xs.length) ∧ Aside0 (out.size ≤ 1 + 10 * i) ∧ Aside0 (foldB (parT partB) out (xs.drop i) = foldB (parT partB) ⟨#[]⟩ xs) ∧ Aside0 (Kd.C (Kd.int .i32) w' A xs.length xs) ∧ Aside0 (Below w.heap.size w w'))
    case atStart => exact ⟨0, ⟨#[]⟩, rfl, rfl, ⟨by simp⟩, ⟨by decide⟩, ⟨by rw [List.drop_zero]⟩, HCR, HB⟩
    case round =>
      clear HCR HB
      obtain ⟨i, out, rfl, rfl, HN, HZ, HE, HCR, HB⟩ := hrel
      cases gk with
      | zero =>
        have c0 : decide ((i : Int) < (xs.length : Int)) = false := decide_eq_false (by have := HN.out; omega)
        have c0n : decide (i < xs.length) = false := decide_eq_false (by have := HN.out; omega)
        have HO : Aside0 (out = foldB (parT partB) ⟨#[]⟩ xs) := ⟨by rw [← HE.out, List.drop_of_length_le (by have := HN.out; omega)]; rfl⟩
        have HZo := Aside0.mk (show out.size ≤ 1 + 10 * xs.length by have := HZ.out; have := HN.out; omega)
        have hs3 : (9223372036854775807 < (hexT (((S[0]'HZ0.out).toNat : Nat) : Int)).size + out.size) = False := eq_false (by have := HZo.out; have := HL.out; have := HS.out; have : (hexT (((S[0]'HZ0.out).toNat : Nat) : Int)).size ≤ 10 := hexC_len _; omega)
        go_wp2_with (first | (go_at_call 43; refine (gouacheref02_numbered.calls 11 _ (hexT (((S[0]'HZ0.out).toNat : Nat) : Int)) _ (numb_T (by omega) HNB.out)).mono ?_; rintro e W ⟨rfl, hb⟩; have HB := Aside0.mk (HB.out.trans (below_less hb.below HB.out.size)); clear hb) | fail)
        go_ret
        exact ⟨by rw [HU.out, HO.out, HF.out, ← HXS.out]; show Ending.returned (.string (hexT _ ++ _)) = _; rw [unit_end, Int.toNat_natCast], HB.out⟩
      | succ m =>
        have hlt : i < xs.length := by have := HN.out; omega
        have c0 : decide ((i : Int) < (xs.length : Int)) = true := decide_eq_true (by omega)
        have p1 : 0 ≤ (i : Int) := by omega
        have q1 : (i : Int) < (xs.length : Int) := by omega
        obtain ⟨ad, rfl, hx⟩ := Kd.at_int HCR.out (i : Int) p1 q1
        have HV := Aside0.mk (HR.out _ (rd_mem hlt))
        have HE2 : Aside0 (foldB (parT partB) (out ++ parT partB (rd xs (i : Int))) (xs.drop (i + 1)) = foldB (parT partB) ⟨#[]⟩ xs) := ⟨by rw [← HE.out, drop_rd hlt, foldB_cons]⟩
        have c0n : decide (i < xs.length) = true := decide_eq_true hlt
        have e1 : wrap64 ((i : Int) + 1) = ((i + 1 : Nat) : Int) := by have := HL.out; have := HS.out; unfold wrap64; omega
        rw [Int.toNat_natCast] at hx
        generalize rd xs (i : Int) = c at hx HV HE2
        cases hp : plainB partB c with
        | some o =>
          have HP : Aside0 (plainT c = ⟨o.toArray⟩ ∧ parT partB c = ⟨o.toArray⟩ ∧ o.length ≤ 10) := ⟨plainT_some HV.out.1 hp, by unfold parT charB; rw [hp], plainB_len hp⟩
          have hne := plainB_ne hp
          clear hp
          have hem : (⟨o.toArray⟩ : ByteArray).toList.isEmpty = false := by rw [ByteArray.toList_eq]; simpa using hne
          have hsz : (⟨o.toArray⟩ : ByteArray).size ≤ 10 := HP.out.2.2
          generalize hu : (⟨o.toArray⟩ : ByteArray) = u at HP hem hsz
          have hs1 : (9223372036854775807 < out.size + u.size) = False := eq_false (by have := HZ.out; have := HL.out; have := HS.out; omega)
          have HZ2 : Aside0 ((out ++ u).size ≤ 1 + 10 * (i + 1)) := ⟨by rw [ByteArray.size_append]; have := HZ.out; omega⟩
          clear hsz hu hne
          go_wp2_with (first | (go_at_call 41; refine (gouacheref02_plain.calls 12 c (plainT c) _ (plain_f HV.out.1)).mono ?_; rintro e W ⟨rfl, hb⟩; rw [HP.out.1]; have HB := Aside0.mk (HB.out.trans (below_less hb HB.out.size)); have HCR := Aside0.mk (Kd.C_below HCR.out hb); clear hb) | fail)
          go_roundg m
          case measure => omega
          case rel => exact ⟨i + 1, out ++ u, rfl, by rw [e1], ⟨by have := HN.out; omega⟩, HZ2, ⟨by rw [← HP.out.2.1]; exact HE2.out⟩, HCR, HB⟩
        | none =>
          have HP : Aside0 (plainT c = ⟨#[]⟩ ∧ (⟨#[92]⟩ : ByteArray) ++ runesBytes [c] = parT partB c) := ⟨plainT_none hp, bar_eq HV.out.1 hp⟩
          clear hp
          have hsz := rb_size HV.out.1
          have hs0 : (9223372036854775807 < 1 + (runesBytes [c]).size) = False := eq_false (by omega)
          have hs1 : (9223372036854775807 < out.size + (1 + (runesBytes [c]).size)) = False := eq_false (by have := HZ.out; have := HL.out; have := HS.out; omega)
          have HZ2 : Aside0 ((out ++ ((⟨#[92]⟩ : ByteArray) ++ runesBytes [c])).size ≤ 1 + 10 * (i + 1)) := ⟨by rw [ByteArray.size_append, ByteArray.size_append, show (⟨#[92]⟩ : ByteArray).size = 1 from rfl]; have := HZ.out; omega⟩
          clear hsz
          go_wp2_with (first | (go_at_call 41; refine (gouacheref02_plain.calls 12 c (plainT c) _ (plain_f HV.out.1)).mono ?_; rintro e W ⟨rfl, hb⟩; rw [HP.out.1]; have HB := Aside0.mk (HB.out.trans (below_less hb HB.out.size)); have HCR := Aside0.mk (Kd.C_below HCR.out hb); clear hb) | ((with_reducible refine gate_dst (N := 34) rfl ?_); refine Kd.R_lit (Kd.int .i32) _ 21 ?hg (N := 34) ?hd (xs := ([c] : List Int)) (inner := [.int .i32 c]) (ok := fun _ => True) (okp := fun _ => True) ?hr ?hp (fun _ hk => hk) trivial (Below.refl _ _) (Nat.le_refl _) (by simp) ?_; (case hd => rfl); (case hg => rfl); (case hr => first | (go_simp; done) | (go_simp; rfl)); (case hp => exact (Reps.one (show Kd.M (Kd.int .i32) _ _ _ c [.int .i32 c] from rfl) (Reps.none _ _))); intro vl wl hol hbl hgl hnl; clear hgl hnl; have HB := Aside0.mk (HB.out.trans (below_less hbl HB.out.size)); have HCR := Aside0.mk (Kd.C_below HCR.out hbl); have hcv5 := own_runes (P := Tryd.prog) Tryd.underlying38 Tryd.underlying21 Tryd.underlying9 (Kd.own_of_R hol); clear hol hbl) | fail)
          go_roundg m
          case measure => omega
          case rel => exact ⟨i + 1, out ++ ((⟨#[92]⟩ : ByteArray) ++ runesBytes [c]), rfl, by rw [e1], ⟨by have := HN.out; omega⟩, HZ2, ⟨by rw [HP.out.2]; exact HE2.out⟩, HCR, HB⟩
  · have g2 : ((((S[0]'hz).toNat : Nat) : Int) == 101) = false := beq_eq_false_iff_ne.mpr (by omega)
    have g3 : ((((S[0]'hz).toNat : Nat) : Int) == 69) = true := beq_iff_eq.mpr (by unfold bigE at hb; simp only [Bool.or_eq_true, beq_iff_eq] at hb; omega)
    clear hS hb e0 hRs h101
    go_enter Tryd.func45, Tryd.ntmps45
    go_wp2_with (first | (go_at_call 40; refine C40.out.mono ?_; rintro e W ⟨A, cc, rfl, hC, hb⟩; have HCR := Aside0.mk hC; have HB := Aside0.mk hb; clear hC hb) | fail)
    clear hcv C40
    generalize hxs : decS R = xs at HR HL HF HCR ⊢
    have HXS := Aside0.mk hxs
    clear hxs
    go_loopg [3, 25] xs.length (fun kq v3 v11 w' => ∃ (i : Nat) (out : ByteArray), v3 = .string out ∧ v11 = .int .i64 i ∧ Aside0 (i + kq = xs.length) ∧ Aside0 (out.size ≤ 1 + 10 * i) ∧ Aside0 (foldB (parT partB) out (xs.drop i) = foldB (parT partB) ⟨#[]⟩ xs) ∧ Aside0 (Kd.C (Kd.int .i32) w' A xs.length xs) ∧ Aside0 (Below w.heap.size w w'))
    case atStart => exact ⟨0, ⟨#[]⟩, rfl, rfl, ⟨by simp⟩, ⟨by decide⟩, ⟨by rw [List.drop_zero]⟩, HCR, HB⟩
    case round =>
      clear HCR HB
      obtain ⟨i, out, rfl, rfl, HN, HZ, HE, HCR, HB⟩ := hrel
      cases gk with
      | zero =>
        have c0 : decide ((i : Int) < (xs.length : Int)) = false := decide_eq_false (by have := HN.out; omega)
        have c0n : decide (i < xs.length) = false := decide_eq_false (by have := HN.out; omega)
        have HO : Aside0 (out = foldB (parT partB) ⟨#[]⟩ xs) := ⟨by rw [← HE.out, List.drop_of_length_le (by have := HN.out; omega)]; rfl⟩
        have HZo := Aside0.mk (show out.size ≤ 1 + 10 * xs.length by have := HZ.out; have := HN.out; omega)
        have hs3 : (9223372036854775807 < (hexT (((S[0]'HZ0.out).toNat : Nat) : Int)).size + out.size) = False := eq_false (by have := HZo.out; have := HL.out; have := HS.out; have : (hexT (((S[0]'HZ0.out).toNat : Nat) : Int)).size ≤ 10 := hexC_len _; omega)
        go_wp2_with (first | (go_at_call 43; refine (gouacheref02_numbered.calls 11 _ (hexT (((S[0]'HZ0.out).toNat : Nat) : Int)) _ (numb_T (by omega) HNB.out)).mono ?_; rintro e W ⟨rfl, hb⟩; have HB := Aside0.mk (HB.out.trans (below_less hb.below HB.out.size)); clear hb) | fail)
        go_ret
        exact ⟨by rw [HU.out, HO.out, HF.out, ← HXS.out]; show Ending.returned (.string (hexT _ ++ _)) = _; rw [unit_end, Int.toNat_natCast], HB.out⟩
      | succ m =>
        have hlt : i < xs.length := by have := HN.out; omega
        have c0 : decide ((i : Int) < (xs.length : Int)) = true := decide_eq_true (by omega)
        have p1 : 0 ≤ (i : Int) := by omega
        have q1 : (i : Int) < (xs.length : Int) := by omega
        obtain ⟨ad, rfl, hx⟩ := Kd.at_int HCR.out (i : Int) p1 q1
        have HV := Aside0.mk (HR.out _ (rd_mem hlt))
        have HE2 : Aside0 (foldB (parT partB) (out ++ parT partB (rd xs (i : Int))) (xs.drop (i + 1)) = foldB (parT partB) ⟨#[]⟩ xs) := ⟨by rw [← HE.out, drop_rd hlt, foldB_cons]⟩
        have c0n : decide (i < xs.length) = true := decide_eq_true hlt
        have e1 : wrap64 ((i : Int) + 1) = ((i + 1 : Nat) : Int) := by have := HL.out; have := HS.out; unfold wrap64; omega
        rw [Int.toNat_natCast] at hx
        generalize rd xs (i : Int) = c at hx HV HE2
        cases hp : plainB partB c with
        | some o =>
          have HP : Aside0 (plainT c = ⟨o.toArray⟩ ∧ parT partB c = ⟨o.toArray⟩ ∧ o.length ≤ 10) := ⟨plainT_some HV.out.1 hp, by unfold parT charB; rw [hp], plainB_len hp⟩
          have hne := plainB_ne hp
          clear hp
          have hem : (⟨o.toArray⟩ : ByteArray).toList.isEmpty = false := by rw [ByteArray.toList_eq]; simpa using hne
          have hsz : (⟨o.toArray⟩ : ByteArray).size ≤ 10 := HP.out.2.2
          generalize hu : (⟨o.toArray⟩ : ByteArray) = u at HP hem hsz
          have hs1 : (9223372036854775807 < out.size + u.size) = False := eq_false (by have := HZ.out; have := HL.out; have := HS.out; omega)
          have HZ2 : Aside0 ((out ++ u).size ≤ 1 + 10 * (i + 1)) := ⟨by rw [ByteArray.size_append]; have := HZ.out; omega⟩
          clear hsz hu hne
          go_wp2_with (first | (go_at_call 41; refine (gouacheref02_plain.calls 12 c (plainT c) _ (plain_f HV.out.1)).mono ?_; rintro e W ⟨rfl, hb⟩; rw [HP.out.1]; have HB := Aside0.mk (HB.out.trans (below_less hb HB.out.size)); have HCR := Aside0.mk (Kd.C_below HCR.out hb); clear hb) | fail)
          go_roundg m
          case measure => omega
          case rel => exact ⟨i + 1, out ++ u, rfl, by rw [e1], ⟨by have := HN.out; omega⟩, HZ2, ⟨by rw [← HP.out.2.1]; exact HE2.out⟩, HCR, HB⟩
        | none =>
          have HP : Aside0 (plainT c = ⟨#[]⟩ ∧ (⟨#[92]⟩ : ByteArray) ++ runesBytes [c] = parT partB c) := ⟨plainT_none hp, bar_eq HV.out.1 hp⟩
          clear hp
          have hsz := rb_size HV.out.1
          have hs0 : (9223372036854775807 < 1 + (runesBytes [c]).size) = False := eq_false (by omega)
          have hs1 : (9223372036854775807 < out.size + (1 + (runesBytes [c]).size)) = False := eq_false (by have := HZ.out; have := HL.out; have := HS.out; omega)
          have HZ2 : Aside0 ((out ++ ((⟨#[92]⟩ : ByteArray) ++ runesBytes [c])).size ≤ 1 + 10 * (i + 1)) := ⟨by rw [ByteArray.size_append, ByteArray.size_append, show (⟨#[92]⟩ : ByteArray).size = 1 from rfl]; have := HZ.out; omega⟩
          clear hsz
          go_wp2_with (first | (go_at_call 41; refine (gouacheref02_plain.calls 12 c (plainT c) _ (plain_f HV.out.1)).mono ?_; rintro e W ⟨rfl, hb⟩; rw [HP.out.1]; have HB := Aside0.mk (HB.out.trans (below_less hb HB.out.size)); have HCR := Aside0.mk (Kd.C_below HCR.out hb); clear hb) | ((with_reducible refine gate_dst (N := 34) rfl ?_); refine Kd.R_lit (Kd.int .i32) _ 21 ?hg (N := 34) ?hd (xs := ([c] : List Int)) (inner := [.int .i32 c]) (ok := fun _ => True) (okp := fun _ => True) ?hr ?hp (fun _ hk => hk) trivial (Below.refl _ _) (Nat.le_refl _) (by simp) ?_; (case hd => rfl); (case hg => rfl); (case hr => first | (go_simp; done) | (go_simp; rfl)); (case hp => exact (Reps.one (show Kd.M (Kd.int .i32) _ _ _ c [.int .i32 c] from rfl) (Reps.none _ _))); intro vl wl hol hbl hgl hnl; clear hgl hnl; have HB := Aside0.mk (HB.out.trans (below_less hbl HB.out.size)); have HCR := Aside0.mk (Kd.C_below HCR.out hbl); have hcv5 := own_runes (P := Tryd.prog) Tryd.underlying38 Tryd.underlying21 Tryd.underlying9 (Kd.own_of_R hol); clear hol hbl) | fail)
          go_roundg m
          case measure => omega
          case rel => exact ⟨i + 1, out ++ ((⟨#[92]⟩ : ByteArray) ++ runesBytes [c]), rfl, by rw [e1], ⟨by have := HN.out; omega⟩, HZ2, ⟨by rw [HP.out.2]; exact HE2.out⟩, HCR, HB⟩
end Go.Proofs.YtpnlbmeeihbjaabDoor.P
end
section
set_option linter.unusedVariables false
set_option linter.unusedSimpArgs false
namespace Go.Proofs.YtpnlbmeeihbjaabDoor.P
open Go.RowKit Go.Proofs.YtpnlbmeeihbjaabDoorW.PrintWords Go.Proofs.YtpnlbmeeihbjaabDoorW.PrintLast Go.Proofs.YtpnlbmeeihbjaabDoorW.PrintMore
open Go.Lib
attribute [local go_sem] max2_int min2_int max_two min_two max_three min_three max_four min_four
set_option linter.unusedVariables false
set_option linter.unusedSimpArgs false
theorem plain_quoT {c : Int} (h0 : 0 ≤ c) (h : c = 0 ∨ c < 32 ∨ c = 127) : plainT c = parT quoB c := by
  unfold plainT parT charB plainB
  by_cases c0 : c = 0
  · rw [if_pos c0, if_pos c0]; exact enc_of (by decide)
  · rw [if_neg c0, if_neg c0, if_pos (by omega), if_pos (by omega)]
theorem bar_quoT {c : Int} (h0 : 0 ≤ c) (k0 : ¬ c = 0) (k1 : ¬ c < 32) (k2 : ¬ c = 127) (h : c = 34 ∨ c = 92) : (⟨#[92]⟩ : ByteArray) ++ runesBytes [c] = parT quoB c := by
  unfold parT charB plainB
  rw [if_neg k0, if_neg (by omega), if_neg (by unfold quoB; rcases h with rfl | rfl <;> decide), enc_of h0]
  apply Go.WideShapes.bytes_inj
  simp
theorem one_quoT {c : Int} (h0 : 0 ≤ c) (k0 : ¬ c = 0) (k1 : ¬ c < 32) (k2 : ¬ c = 127) (k3 : ¬ c = 34) (k4 : ¬ c = 92) : runesBytes [c] = parT quoB c := by
  unfold parT charB plainB
  rw [if_neg k0, if_neg (by omega), if_pos (by unfold quoB; simp [k3, k4]), enc_of h0]
theorem quote_end (S : ByteArray) : (⟨(34 :: partsB quoB (decS S)).toArray⟩ : ByteArray) ++ (⟨#[34]⟩ : ByteArray) = ⟨(quoteS S).toArray⟩ := by
  apply Go.WideShapes.bytes_inj
  unfold quoteS
  simp
set_option maxHeartbeats 16000000 in
set_option maxRecDepth 100000 in
theorem rquote_w (S : ByteArray) (w : World) (hS : S.size ≤ 1099511627776) :
    Calls Tryd.prog 20 #[.string S] w fun e w' => e = .returned (.string ⟨(quoteS S).toArray⟩) ∧ Below w.heap.size w w' := by
  have hu9 := Tryd.underlying9
  have hu40 := Tryd.underlying40
  have hu38 := Tryd.underlying38
  have hu21 := Tryd.underlying21
  have hcv := Lib.run_convert_string_bytes (P := Tryd.prog) w 9 40 5 S Tryd.underlying9 Tryd.underlying40 Tryd.underlying5
  have C40 := Aside0.mk (chars_at S w hS)
  have HR := Aside0.mk (dec_range S)
  have HL := Aside0.mk (decS_most S)
  have HS := Aside0.mk hS
  have HF : Aside0 (foldB (parT quoB) ⟨#[34]⟩ (decS S) = ⟨(34 :: partsB quoB (decS S)).toArray⟩) := ⟨foldB_parts quoB (decS S) [34]⟩
  clear hS
  go_enter Tryd.func20, Tryd.ntmps20
  go_wp2_with (first | (go_at_call 40; refine C40.out.mono ?_; rintro e W ⟨A, cc, rfl, hC, hb⟩; have HCR := Aside0.mk hC; have HB := Aside0.mk hb; clear hC hb) | fail)
  clear hcv C40
  generalize hxs : decS S = xs at HR HL HF HCR ⊢
  have HXS := Aside0.mk hxs
  clear hxs
  go_loopg [3, 10] xs.length (fun kq v3 v11 w' => ∃ (i : Nat) (out : ByteArray), v3 = .string out ∧ v11 = .int .i64 i ∧ Aside0 (i + kq = xs.length) ∧ Aside0 (out.size ≤ 1 + 10 * i) ∧ Aside0 (foldB (parT quoB) out (xs.drop i) = foldB (parT quoB) ⟨#[34]⟩ xs) ∧ Aside0 (Kd.C (Kd.int .i32) w' A xs.length xs) ∧ Aside0 (Below w.heap.size w w'))
  case atStart => exact ⟨0, ⟨#[34]⟩, rfl, rfl, ⟨by simp⟩, ⟨by decide⟩, ⟨by rw [List.drop_zero]⟩, HCR, HB⟩
  case round =>
    clear HCR HB
    obtain ⟨i, out, rfl, rfl, HN, HZ, HE, HCR, HB⟩ := hrel
    cases gk with
    | zero =>
      have c0 : decide ((i : Int) < (xs.length : Int)) = false := decide_eq_false (by have := HN.out; omega)
      have c0n : decide (i < xs.length) = false := decide_eq_false (by have := HN.out; omega)
      have HO : Aside0 (out = foldB (parT quoB) ⟨#[34]⟩ xs) := ⟨by rw [← HE.out, List.drop_of_length_le (by have := HN.out; omega)]; rfl⟩
      have hso : (9223372036854775807 < out.size + 1) = False := eq_false (by have := HZ.out; have := HL.out; have := HS.out; have := HN.out; omega)
      go_wp2_with fail
      go_ret
      exact ⟨by rw [HO.out, HF.out, ← HXS.out]; show Ending.returned (.string (_ ++ (⟨#[34]⟩ : ByteArray))) = _; rw [quote_end], HB.out⟩
    | succ m =>
      have hlt : i < xs.length := by have := HN.out; omega
      have c0 : decide ((i : Int) < (xs.length : Int)) = true := decide_eq_true (by omega)
      have c0n : decide (i < xs.length) = true := decide_eq_true hlt
      have p1 : 0 ≤ (i : Int) := by omega
      have q1 : (i : Int) < (xs.length : Int) := by omega
      obtain ⟨ad, rfl, hx⟩ := Kd.at_int HCR.out (i : Int) p1 q1
      have HV := Aside0.mk (HR.out _ (rd_mem hlt))
      have HE2 : Aside0 (foldB (parT quoB) (out ++ parT quoB (rd xs (i : Int))) (xs.drop (i + 1)) = foldB (parT quoB) ⟨#[34]⟩ xs) := ⟨by rw [← HE.out, drop_rd hlt, foldB_cons]⟩
      have e1 : wrap64 ((i : Int) + 1) = ((i + 1 : Nat) : Int) := by have := HL.out; have := HS.out; unfold wrap64; omega
      rw [Int.toNat_natCast] at hx
      generalize rd xs (i : Int) = c at hx HV HE2
      by_cases k0 : c = 0
      · have d0 : (c == 0) = true := beq_iff_eq.mpr k0
        have HP : Aside0 (plainT c = parT quoB c) := ⟨plain_quoT HV.out.1 (.inl k0)⟩
        have hsz : (plainT c).size ≤ 10 := by rw [HP.out]; exact charB_len _ c
        have hs1 : (9223372036854775807 < out.size + (plainT c).size) = False := eq_false (by have := HZ.out; have := HL.out; have := HS.out; skip; omega)
        have HZ2 : Aside0 ((out ++ plainT c).size ≤ 1 + 10 * (i + 1)) := ⟨by rw [ByteArray.size_append]; have := HZ.out; omega⟩
        clear hsz
        clear k0
        go_wp2_with (first | (go_at_call 41; refine (gouacheref02_plain.calls 12 c (plainT c) _ (plain_f HV.out.1)).mono ?_; rintro e W ⟨rfl, hb⟩; have HB := Aside0.mk (HB.out.trans (below_less hb HB.out.size)); have HCR := Aside0.mk (Kd.C_below HCR.out hb); clear hb) | fail)
        go_roundg m
        case measure => omega
        case rel => exact ⟨i + 1, out ++ plainT c, rfl, by rw [e1], ⟨by have := HN.out; omega⟩, HZ2, ⟨by rw [HP.out]; exact HE2.out⟩, HCR, HB⟩
      · have d0 : (c == 0) = false := beq_eq_false_iff_ne.mpr k0
        by_cases k1 : c < 32
        · have d1 : decide (c < 32) = true := decide_eq_true k1
          have HP : Aside0 (plainT c = parT quoB c) := ⟨plain_quoT HV.out.1 (.inr (.inl k1))⟩
          have hsz : (plainT c).size ≤ 10 := by rw [HP.out]; exact charB_len _ c
          have hs1 : (9223372036854775807 < out.size + (plainT c).size) = False := eq_false (by have := HZ.out; have := HL.out; have := HS.out; skip; omega)
          have HZ2 : Aside0 ((out ++ plainT c).size ≤ 1 + 10 * (i + 1)) := ⟨by rw [ByteArray.size_append]; have := HZ.out; omega⟩
          clear hsz
          clear k0 k1
          go_wp2_with (first | (go_at_call 41; refine (gouacheref02_plain.calls 12 c (plainT c) _ (plain_f HV.out.1)).mono ?_; rintro e W ⟨rfl, hb⟩; have HB := Aside0.mk (HB.out.trans (below_less hb HB.out.size)); have HCR := Aside0.mk (Kd.C_below HCR.out hb); clear hb) | fail)
          go_roundg m
          case measure => omega
          case rel => exact ⟨i + 1, out ++ plainT c, rfl, by rw [e1], ⟨by have := HN.out; omega⟩, HZ2, ⟨by rw [HP.out]; exact HE2.out⟩, HCR, HB⟩
        · have d1 : decide (c < 32) = false := decide_eq_false k1
          by_cases k2 : c = 127
          · have d2 : (c == 127) = true := beq_iff_eq.mpr k2
            have HP : Aside0 (plainT c = parT quoB c) := ⟨plain_quoT HV.out.1 (.inr (.inr k2))⟩
            have hsz : (plainT c).size ≤ 10 := by rw [HP.out]; exact charB_len _ c
            have hs1 : (9223372036854775807 < out.size + (plainT c).size) = False := eq_false (by have := HZ.out; have := HL.out; have := HS.out; skip; omega)
            have HZ2 : Aside0 ((out ++ plainT c).size ≤ 1 + 10 * (i + 1)) := ⟨by rw [ByteArray.size_append]; have := HZ.out; omega⟩
            clear hsz
            clear k0 k1 k2
            go_wp2_with (first | (go_at_call 41; refine (gouacheref02_plain.calls 12 c (plainT c) _ (plain_f HV.out.1)).mono ?_; rintro e W ⟨rfl, hb⟩; have HB := Aside0.mk (HB.out.trans (below_less hb HB.out.size)); have HCR := Aside0.mk (Kd.C_below HCR.out hb); clear hb) | fail)
            go_roundg m
            case measure => omega
            case rel => exact ⟨i + 1, out ++ plainT c, rfl, by rw [e1], ⟨by have := HN.out; omega⟩, HZ2, ⟨by rw [HP.out]; exact HE2.out⟩, HCR, HB⟩
          · have d2 : (c == 127) = false := beq_eq_false_iff_ne.mpr k2
            by_cases k3 : c = 34
            · have d3 : (c == 34) = true := beq_iff_eq.mpr k3
              have HP : Aside0 ((⟨#[92]⟩ : ByteArray) ++ runesBytes [c] = parT quoB c) := ⟨bar_quoT HV.out.1 k0 k1 k2 (.inl k3)⟩
              have hsz : (((⟨#[92]⟩ : ByteArray) ++ runesBytes [c])).size ≤ 10 := by rw [HP.out]; exact charB_len _ c
              have hs0 : (9223372036854775807 < 1 + (runesBytes [c]).size) = False := eq_false (by have := rb_size HV.out.1; omega)
              have hs1 : (9223372036854775807 < out.size + (1 + (runesBytes [c]).size)) = False := eq_false (by have := HZ.out; have := HL.out; have := HS.out; have := rb_size HV.out.1; omega)
              have HZ2 : Aside0 ((out ++ ((⟨#[92]⟩ : ByteArray) ++ runesBytes [c])).size ≤ 1 + 10 * (i + 1)) := ⟨by rw [ByteArray.size_append]; have := HZ.out; omega⟩
              clear hsz
              clear k0 k1 k2 k3
              go_wp2_with (first | ((with_reducible refine gate_dst (N := 43) rfl ?_); refine Kd.R_lit (Kd.int .i32) _ 21 ?hg (N := 43) ?hd (xs := ([c] : List Int)) (inner := [.int .i32 c]) (ok := fun _ => True) (okp := fun _ => True) ?hr ?hp (fun _ hk => hk) trivial (Below.refl _ _) (Nat.le_refl _) (by simp) ?_; (case hd => rfl); (case hg => rfl); (case hr => first | (go_simp; done) | (go_simp; rfl)); (case hp => exact (Reps.one (show Kd.M (Kd.int .i32) _ _ _ c [.int .i32 c] from rfl) (Reps.none _ _))); intro vl wl hol hbl hgl hnl; clear hgl hnl; have HB := Aside0.mk (HB.out.trans (below_less hbl HB.out.size)); have HCR := Aside0.mk (Kd.C_below HCR.out hbl); have hcv5 := own_runes (P := Tryd.prog) Tryd.underlying38 Tryd.underlying21 Tryd.underlying9 (Kd.own_of_R hol); clear hol hbl) | fail)
              go_roundg m
              case measure => omega
              case rel => exact ⟨i + 1, out ++ ((⟨#[92]⟩ : ByteArray) ++ runesBytes [c]), rfl, by rw [e1], ⟨by have := HN.out; omega⟩, HZ2, ⟨by rw [HP.out]; exact HE2.out⟩, HCR, HB⟩
            · have d3 : (c == 34) = false := beq_eq_false_iff_ne.mpr k3
              by_cases k4 : c = 92
              · have d4 : (c == 92) = true := beq_iff_eq.mpr k4
                have HP : Aside0 ((⟨#[92]⟩ : ByteArray) ++ runesBytes [c] = parT quoB c) := ⟨bar_quoT HV.out.1 k0 k1 k2 (.inr k4)⟩
                have hsz : (((⟨#[92]⟩ : ByteArray) ++ runesBytes [c])).size ≤ 10 := by rw [HP.out]; exact charB_len _ c
                have hs0 : (9223372036854775807 < 1 + (runesBytes [c]).size) = False := eq_false (by have := rb_size HV.out.1; omega)
                have hs1 : (9223372036854775807 < out.size + (1 + (runesBytes [c]).size)) = False := eq_false (by have := HZ.out; have := HL.out; have := HS.out; have := rb_size HV.out.1; omega)
                have HZ2 : Aside0 ((out ++ ((⟨#[92]⟩ : ByteArray) ++ runesBytes [c])).size ≤ 1 + 10 * (i + 1)) := ⟨by rw [ByteArray.size_append]; have := HZ.out; omega⟩
                clear hsz
                clear k0 k1 k2 k3 k4
                go_wp2_with (first | ((with_reducible refine gate_dst (N := 43) rfl ?_); refine Kd.R_lit (Kd.int .i32) _ 21 ?hg (N := 43) ?hd (xs := ([c] : List Int)) (inner := [.int .i32 c]) (ok := fun _ => True) (okp := fun _ => True) ?hr ?hp (fun _ hk => hk) trivial (Below.refl _ _) (Nat.le_refl _) (by simp) ?_; (case hd => rfl); (case hg => rfl); (case hr => first | (go_simp; done) | (go_simp; rfl)); (case hp => exact (Reps.one (show Kd.M (Kd.int .i32) _ _ _ c [.int .i32 c] from rfl) (Reps.none _ _))); intro vl wl hol hbl hgl hnl; clear hgl hnl; have HB := Aside0.mk (HB.out.trans (below_less hbl HB.out.size)); have HCR := Aside0.mk (Kd.C_below HCR.out hbl); have hcv5 := own_runes (P := Tryd.prog) Tryd.underlying38 Tryd.underlying21 Tryd.underlying9 (Kd.own_of_R hol); clear hol hbl) | fail)
                go_roundg m
                case measure => omega
                case rel => exact ⟨i + 1, out ++ ((⟨#[92]⟩ : ByteArray) ++ runesBytes [c]), rfl, by rw [e1], ⟨by have := HN.out; omega⟩, HZ2, ⟨by rw [HP.out]; exact HE2.out⟩, HCR, HB⟩
              · have d4 : (c == 92) = false := beq_eq_false_iff_ne.mpr k4
                have HP : Aside0 (runesBytes [c] = parT quoB c) := ⟨one_quoT HV.out.1 k0 k1 k2 k3 k4⟩
                have hsz : (runesBytes [c]).size ≤ 10 := by rw [HP.out]; exact charB_len _ c
                have hs1 : (9223372036854775807 < out.size + (runesBytes [c]).size) = False := eq_false (by have := HZ.out; have := HL.out; have := HS.out; skip; omega)
                have HZ2 : Aside0 ((out ++ runesBytes [c]).size ≤ 1 + 10 * (i + 1)) := ⟨by rw [ByteArray.size_append]; have := HZ.out; omega⟩
                clear hsz
                clear k0 k1 k2 k3 k4
                go_wp2_with (first | ((with_reducible refine gate_dst (N := 16) rfl ?_); refine Kd.R_lit (Kd.int .i32) _ 21 ?hg (N := 16) ?hd (xs := ([c] : List Int)) (inner := [.int .i32 c]) (ok := fun _ => True) (okp := fun _ => True) ?hr ?hp (fun _ hk => hk) trivial (Below.refl _ _) (Nat.le_refl _) (by simp) ?_; (case hd => rfl); (case hg => rfl); (case hr => first | (go_simp; done) | (go_simp; rfl)); (case hp => exact (Reps.one (show Kd.M (Kd.int .i32) _ _ _ c [.int .i32 c] from rfl) (Reps.none _ _))); intro vl wl hol hbl hgl hnl; clear hgl hnl; have HB := Aside0.mk (HB.out.trans (below_less hbl HB.out.size)); have HCR := Aside0.mk (Kd.C_below HCR.out hbl); have hcv5 := own_runes (P := Tryd.prog) Tryd.underlying38 Tryd.underlying21 Tryd.underlying9 (Kd.own_of_R hol); clear hol hbl) | fail)
                go_roundg m
                case measure => omega
                case rel => exact ⟨i + 1, out ++ runesBytes [c], rfl, by rw [e1], ⟨by have := HN.out; omega⟩, HZ2, ⟨by rw [HP.out]; exact HE2.out⟩, HCR, HB⟩
end Go.Proofs.YtpnlbmeeihbjaabDoor.P
end
section
set_option linter.unusedVariables false
set_option linter.unusedSimpArgs false
namespace Go.Proofs.YtpnlbmeeihbjaabDoor.P
open Go.RowKit Go.Proofs.YtpnlbmeeihbjaabDoorW.PrintWords Go.Proofs.YtpnlbmeeihbjaabDoorW.PrintLast Go.Proofs.YtpnlbmeeihbjaabDoorW.PrintMore
open Go.Lib
attribute [local go_sem] max2_int min2_int max_two min_two max_three min_three max_four min_four
set_option linter.unusedVariables false
set_option linter.unusedSimpArgs false
def sgnB (i : Nat) : UInt8 := ([58, 59, 44, 91, 93, 40, 41, 123, 125] : List UInt8).getD i 0
def SG : ByteArray := ⟨#[58, 59, 44, 91, 93, 40, 41, 123, 125]⟩
theorem sg_dec : ∀ i : Fin 9, Utf8.decode SG i.val = ((sgnB i.val).toNat, 1) := by decide +kernel
theorem sg_sign : ∀ i : Fin 9, gouacheref02_sign.f ((sgnB i.val).toNat : Int) = some (16 + (i.val : Int)) := by decide +kernel
theorem sg_runes : ∀ i : Fin 9, runesBytes [((sgnB i.val).toNat : Int)] = ⟨#[sgnB i.val]⟩ := by decide +kernel
theorem sg_size : SG.size = 9 := rfl
def srcT (x0 : Int) (x1 x2 : ByteArray) (x4 : Bool) : ByteArray :=
  if x0 = 1 then ⟨(escS x1).toArray⟩ else if x0 = 2 then (⟨(escS x1).toArray⟩ : ByteArray) ++ (⟨#[40]⟩ : ByteArray) else if x0 = 3 then (⟨#[64]⟩ : ByteArray) ++ ⟨(escS x1).toArray⟩
  else if x0 = 4 then (⟨#[35]⟩ : ByteArray) ++ ⟨(hashT x1 x4).toArray⟩ else if x0 = 5 then ⟨(quoteS x1).toArray⟩ else if x0 = 9 then x1 else if x0 = 10 then x1
  else if x0 = 11 then x1 ++ (⟨#[37]⟩ : ByteArray) else if x0 = 12 then x1 ++ ⟨(unitT x2).toArray⟩ else if x0 = 13 then ⟨#[32]⟩ else if x0 = 14 then ⟨#[60, 33, 45, 45]⟩ else if x0 = 15 then ⟨#[45, 45, 62]⟩
  else if 16 ≤ x0 ∧ x0 ≤ 24 then ⟨#[sgnB (x0 - 16).toNat]⟩ else ⟨#[]⟩
theorem srcT_sign (x1 x2 : ByteArray) (x4 : Bool) (i : Nat) (h : i < 9) : srcT (16 + (i : Int)) x1 x2 x4 = ⟨#[sgnB i]⟩ := by
  unfold srcT
  rw [if_neg (by omega), if_neg (by omega), if_neg (by omega), if_neg (by omega), if_neg (by omega), if_neg (by omega), if_neg (by omega), if_neg (by omega), if_neg (by omega), if_neg (by omega), if_neg (by omega), if_neg (by omega), if_pos (by omega), show (16 + (i : Int) - 16).toNat = i by omega]
theorem unitT_len0 (S : ByteArray) : (unitT S).length ≤ 30 + 10 * S.size := by
  unfold unitT
  split
  · have h1 := parts_len partB (decS (S.extract 1 S.size))
    have h2 := decS_most (S.extract 1 S.size)
    have h3 := ext_size S
    have h4 := hexC_len (hd0 S)
    rw [List.length_append]
    omega
  · have := escS_len S
    omega
set_option maxHeartbeats 16000000 in
set_option maxRecDepth 100000 in
theorem rsrc_w (x0 : Int) (x1 x2 : ByteArray) (x3 x4 : Bool) (w : World) (h1 : x1.size ≤ 5000) (h2 : x2.size ≤ 5000) :
    Calls Tryd.prog 21 #[.agg #[.int .i64 x0, .string x1, .string x2, .bool x3, .bool x4]] w fun e w' => e = .returned (.string (srcT x0 x1 x2 x4)) ∧ Below w.heap.size w w' := by
  have hu26 := Tryd.underlying26
  have hu38 := Tryd.underlying38
  have hu21 := Tryd.underlying21
  have hu9 := Tryd.underlying9
  have HB : Aside0 (Below w.heap.size w (w.alloc (.cells #[.int .i64 x0, .string x1, .string x2, .bool x3, .bool x4] 26))) := ⟨below_alloc (Below.refl w.heap.size w) _⟩
  have hc0 : (w.alloc (.cells #[.int .i64 x0, .string x1, .string x2, .bool x3, .bool x4] 26)).cell? ⟨w.heap.size, 0, none⟩ = some (.int .i64 x0) := by rw [World.cell?_alloc_new]; rfl
  have hc1 : (w.alloc (.cells #[.int .i64 x0, .string x1, .string x2, .bool x3, .bool x4] 26)).cell? ⟨w.heap.size, 1, none⟩ = some (.string x1) := by rw [World.cell?_alloc_new]; rfl
  have hc2 : (w.alloc (.cells #[.int .i64 x0, .string x1, .string x2, .bool x3, .bool x4] 26)).cell? ⟨w.heap.size, 2, none⟩ = some (.string x2) := by rw [World.cell?_alloc_new]; rfl
  have hc4 : (w.alloc (.cells #[.int .i64 x0, .string x1, .string x2, .bool x3, .bool x4] 26)).cell? ⟨w.heap.size, 4, none⟩ = some (.bool x4) := by rw [World.cell?_alloc_new]; rfl
  have HZ : Aside0 ((w.alloc (.cells #[.int .i64 x0, .string x1, .string x2, .bool x3, .bool x4] 26)).heap.size = w.heap.size + 1) := ⟨by simp⟩
  go_enter Tryd.func21, Tryd.ntmps21
  go_upto_region 1 with fail
  generalize w.alloc (.cells #[.int .i64 x0, .string x1, .string x2, .bool x3, .bool x4] 26) = W1 at HB hc0 hc1 hc2 hc4 HZ ⊢
  have hle := escS_len x1
  have hlu := unitT_len0 x2
  have hlh := parts_len partB (decS x1)
  have hld := decS_most x1
  obtain ⟨E, hE⟩ : ∃ E : ByteArray, (⟨(escS x1).toArray⟩ : ByteArray) = E := ⟨_, rfl⟩
  have hEs : E.size ≤ 60000 := by rw [← hE]; show (escS x1).length ≤ _; omega
  obtain ⟨U, hU⟩ : ∃ U : ByteArray, (⟨(unitT x2).toArray⟩ : ByteArray) = U := ⟨_, rfl⟩
  have hUs : U.size ≤ 60000 := by rw [← hU]; show (unitT x2).length ≤ _; omega
  have c19 : ∀ W, Calls Tryd.prog 19 #[.string x1] W fun e w' => e = .returned (.string E) ∧ Below W.heap.size W w' := fun W => by have h_ := resc_calls x1 W (by omega); rw [hE] at h_; exact h_
  have c45 : ∀ W, Calls Tryd.prog 45 #[.string x2] W fun e w' => e = .returned (.string U) ∧ Below W.heap.size W w' := fun W => by
    rw [← hU]
    by_cases he : 0 < x2.size ∧ bigE (hd0 x2) = true
    · exact runit_e x2 W (by omega) he
    · exact runit_else x2 W (by omega) he
  have c44 := fun W => rhash_w x1 W (by omega)
  have c20 := fun W => rquote_w x1 W (by omega)
  have hs1 : (9223372036854775807 < E.size + 1) = False := eq_false (by omega)
  have hs2 : (9223372036854775807 < 1 + E.size) = False := eq_false (by omega)
  have hs3 : (9223372036854775807 < x1.size + 1) = False := eq_false (by omega)
  have hs4 : (9223372036854775807 < x1.size + U.size) = False := eq_false (by omega)
  have HE := Aside0.mk hE
  have HU := Aside0.mk hU
  have C19 := Aside0.mk c19
  have C45 := Aside0.mk c45
  have C44 := Aside0.mk c44
  have C20 := Aside0.mk c20
  clear hle hlu hlh hld hEs hUs c19 c45 c44 c20 hE hU h1 h2
  by_cases k1 : x0 = 1
  · subst k1
    go_wp2_with (first | (go_at_call 19; refine (C19.out _).mono ?_; rintro e W ⟨rfl, hb⟩; have HB := Aside0.mk (HB.out.trans (below_less hb HB.out.size)); clear hb) | fail)
    go_ret
    exact ⟨by rw [← HE.out]; rfl, HB.out⟩
  have n1 : (x0 == 1) = false := beq_eq_false_iff_ne.mpr k1
  by_cases k2 : x0 = 2
  · subst k2
    go_wp2_with (first | (go_at_call 19; refine (C19.out _).mono ?_; rintro e W ⟨rfl, hb⟩; have HB := Aside0.mk (HB.out.trans (below_less hb HB.out.size)); clear hb) | fail)
    go_ret
    exact ⟨by rw [← HE.out]; rfl, HB.out⟩
  have n2 : (x0 == 2) = false := beq_eq_false_iff_ne.mpr k2
  by_cases k3 : x0 = 3
  · subst k3
    go_wp2_with (first | (go_at_call 19; refine (C19.out _).mono ?_; rintro e W ⟨rfl, hb⟩; have HB := Aside0.mk (HB.out.trans (below_less hb HB.out.size)); clear hb) | fail)
    go_ret
    exact ⟨by rw [← HE.out]; rfl, HB.out⟩
  have n3 : (x0 == 3) = false := beq_eq_false_iff_ne.mpr k3
  by_cases k4 : x0 = 4
  · subst k4
    cases x4 with
    | true =>
      go_wp2_with (first | (go_at_call 19; refine (C19.out _).mono ?_; rintro e W ⟨rfl, hb⟩; have HB := Aside0.mk (HB.out.trans (below_less hb HB.out.size)); clear hb) | fail)
      go_ret
      exact ⟨by rw [← HE.out]; rfl, HB.out⟩
    | false =>
      go_wp2_with (first | (go_at_call 44; refine (C44.out _).mono ?_; rintro e W ⟨rfl, hb⟩; have HB := Aside0.mk (HB.out.trans (below_less hb HB.out.size)); clear hb) | fail)
      go_ret
      exact ⟨by show Ending.returned (.string _) = Ending.returned (.string ((⟨#[35]⟩ : ByteArray) ++ ⟨(partsB partB (decS x1)).toArray⟩)); rw [show (⟨#[35]⟩ : ByteArray) = ⟨([35] : List UInt8).toArray⟩ from rfl, app_parts]; rfl, HB.out⟩
  have n4 : (x0 == 4) = false := beq_eq_false_iff_ne.mpr k4
  by_cases k5 : x0 = 5
  · subst k5
    go_wp2_with (first | (go_at_call 20; refine (C20.out _).mono ?_; rintro e W ⟨rfl, hb⟩; have HB := Aside0.mk (HB.out.trans (below_less hb HB.out.size)); clear hb) | fail)
    go_ret
    exact ⟨by rfl, HB.out⟩
  have n5 : (x0 == 5) = false := beq_eq_false_iff_ne.mpr k5
  by_cases k10 : x0 = 10
  · subst k10
    go_wp2_with (first | fail)
    go_ret
    exact ⟨by rfl, HB.out⟩
  have n10 : (x0 == 10) = false := beq_eq_false_iff_ne.mpr k10
  by_cases k9 : x0 = 9
  · subst k9
    go_wp2_with (first | fail)
    go_ret
    exact ⟨by rfl, HB.out⟩
  have n9 : (x0 == 9) = false := beq_eq_false_iff_ne.mpr k9
  by_cases k11 : x0 = 11
  · subst k11
    go_wp2_with (first | fail)
    go_ret
    exact ⟨by rfl, HB.out⟩
  have n11 : (x0 == 11) = false := beq_eq_false_iff_ne.mpr k11
  by_cases k12 : x0 = 12
  · subst k12
    have HC1 := Aside0.mk hc1
    have HC2 := Aside0.mk hc2
    go_upto_region 20 with fail
    go_region_held3 (fun w' => w'.cell? ⟨w.heap.size, 1, none⟩ = some (.string x1) ∧ w'.cell? ⟨w.heap.size, 2, none⟩ = some (.string x2)) (first | go_keep | exact ⟨HC1.out, HC2.out⟩) (first | (go_at_call 45; refine (C45.out _).mono ?_; rintro e W ⟨rfl, hb⟩; have HB := Aside0.mk (below_step (by first | exact HB.out | exact below_drew1 HB.out) hb); have HC1 := Aside0.mk (pw_cell_below hb HC1.out); have HC2 := Aside0.mk (pw_cell_below hb HC2.out); clear hb) | fail)
    all_goals (go_wp2; go_ret; exact ⟨by rw [← HU.out]; rfl, by first | exact HB.out | exact Below.drew HB.out | (repeat (first | exact HB.out | apply below_drew1 | apply pw_below_drewN))⟩)
  have n12 : (x0 == 12) = false := beq_eq_false_iff_ne.mpr k12
  by_cases k13 : x0 = 13
  · subst k13
    go_wp2_with (first | fail)
    go_ret
    exact ⟨by rfl, HB.out⟩
  have n13 : (x0 == 13) = false := beq_eq_false_iff_ne.mpr k13
  by_cases k14 : x0 = 14
  · subst k14
    go_wp2_with (first | fail)
    go_ret
    exact ⟨by rfl, HB.out⟩
  have n14 : (x0 == 14) = false := beq_eq_false_iff_ne.mpr k14
  by_cases k15 : x0 = 15
  · subst k15
    go_wp2_with (first | fail)
    go_ret
    exact ⟨by rfl, HB.out⟩
  have n15 : (x0 == 15) = false := beq_eq_false_iff_ne.mpr k15
  have HK : Aside0 ((∀ i : Nat, i < 9 → x0 ≠ 16 + (i : Int)) → srcT x0 x1 x2 x4 = ⟨#[]⟩) := ⟨fun h => by
    unfold srcT
    rw [if_neg k1, if_neg k2, if_neg k3, if_neg k4, if_neg k5, if_neg k9, if_neg k10, if_neg k11, if_neg k12, if_neg k13, if_neg k14, if_neg k15, if_neg]
    intro hx
    exact h (x0 - 16).toNat (by omega) (by omega)⟩
  clear k1 k2 k3 k4 k5 k9 k10 k11 k12 k13 k14 k15
  have HC0 := Aside0.mk hc0
  clear hc0 hc1 hc2 hc4
  have hc0 := HC0.out
  have HI : Aside0 ((W1.iter SG 0).heap[W1.heap.size]? = some (.stringIter SG 0)) := ⟨World.iter_heap W1 SG 0⟩
  have HBB : Aside0 (Below w.heap.size w (W1.iter SG 0)) := ⟨HB.out.trans (below_less (below_alloc (Below.refl W1.heap.size W1) (.stringIter SG 0)) HB.out.size)⟩
  have HCI : Aside0 ((W1.iter SG 0).cell? ⟨w.heap.size, 0, none⟩ = some (.int .i64 x0)) := ⟨pw_cell_below (below_alloc (Below.refl W1.heap.size W1) (.stringIter SG 0)) HC0.out⟩
  have HGE : Aside0 (w.heap.size < W1.heap.size) := ⟨by have := HZ.out; omega⟩
  go_wp2_with fail
  rw [show (⟨#[58, 59, 44, 91, 93, 40, 41, 123, 125]⟩ : ByteArray) = SG from rfl]
  generalize W1.iter SG 0 = W2 at HI HBB HCI ⊢
  generalize W1.heap.size = gi at HI HGE ⊢
  clear HB HC0 hc0 HZ
  go_loopg [] 9 (fun kq w' => ∃ (i : Nat), Aside0 (i + kq = 9) ∧ Aside0 (∀ j : Nat, j < i → x0 ≠ 16 + (j : Int)) ∧ Aside0 (w'.heap[gi]? = some (.stringIter SG i)) ∧ Aside0 (w'.cell? ⟨w.heap.size, 0, none⟩ = some (.int .i64 x0)) ∧ Aside0 (Below w.heap.size w w'))
  case atStart => exact ⟨0, ⟨rfl⟩, ⟨fun j hj => absurd hj (Nat.not_lt_zero j)⟩, HI, HCI, HBB⟩
  case round =>
    clear HI HCI HBB
    obtain ⟨i, HN, HX, HI, HC, HB⟩ := hrel
    cases gk with
    | zero =>
      have hnx : ∀ ty, (Instr.next (.pointer (some ⟨gi, 0, none⟩)) true ty).run Tryd.prog wr = .ok (.tuple #[.bool false]) wr := fun ty => run_next_end_at wr gi SG i ty HI.out (by rw [sg_size]; have := HN.out; omega)
      go_wp2_with fail
      go_ret
      exact ⟨by rw [HK.out (fun j hj => HX.out j (by have := HN.out; omega))]; rfl, HB.out⟩
    | succ m =>
      have hlt : i < 9 := by have := HN.out; omega
      have hnx : ∀ ty, (Instr.next (.pointer (some ⟨gi, 0, none⟩)) true ty).run Tryd.prog wr = .ok (.tuple #[.bool true, .int .i64 i, .int .i32 ((sgnB i).toNat : Int)]) (wr.iterAt gi SG (i + 1)) := fun ty => by
        have h := run_next_any_at (P := Tryd.prog) wr gi SG i ty HI.out (by rw [sg_size]; exact hlt)
        rw [show Utf8.decode SG i = ((sgnB i).toNat, 1) from sg_dec ⟨i, hlt⟩] at h
        exact h
      have HI2 := Aside0.mk (iterAt_heap wr gi SG i (i + 1) HI.out)
      have HC2 : Aside0 ((wr.iterAt gi SG (i + 1)).cell? ⟨w.heap.size, 0, none⟩ = some (.int .i64 x0)) := ⟨by
        have hh := iterAt_other wr gi w.heap.size SG (i + 1) (by have := HGE.out; omega)
        have h0 := HC.out
        unfold World.cell? at h0 ⊢
        rw [hh]
        exact h0⟩
      have HB2 : Aside0 (Below w.heap.size w (wr.iterAt gi SG (i + 1))) := ⟨iter_below HB.out (by have := HGE.out; omega) SG _⟩
      generalize wr.iterAt gi SG (i + 1) = W3 at HI2 HC2 HB2 hnx
      have hsg := sg_sign ⟨i, hlt⟩
      have hrn := sg_runes ⟨i, hlt⟩
      simp only at hsg hrn
      have HST := Aside0.mk (fun (a : ByteArray) (b : ByteArray) (d : Bool) => srcT_sign a b d i hlt)
      generalize ((sgnB i).toNat : Int) = c at hsg hrn hnx
      have HSG := Aside0.mk hsg
      have HRN := Aside0.mk hrn
      have HIX := Aside0.mk HI2.out
      clear hsg hrn HI HC HB
      have HB := HB2
      have hc0 := HC2.out
      by_cases hq : 16 + (i : Int) = x0
      · have f1 : (16 + (i : Int) == x0) = true := beq_iff_eq.mpr hq
        have HQ := Aside0.mk hq
        clear hq
        go_upto_region 30 with fail
        go_region_held3 (fun w' => w'.cell? ⟨w.heap.size, 0, none⟩ = some (.int .i64 x0)) (first | go_keep | exact HC2.out) (first | (go_at_call 46; refine (gouacheref02_sign.calls c _ _ HSG.out).mono ?_; rintro e W ⟨rfl, hb⟩; have HB := Aside0.mk (below_step (by first | exact HB.out | exact below_drew1 HB.out) hb.below); have HC2 := Aside0.mk (pw_cell_below hb.below HC2.out); clear hb) | fail)
        all_goals (go_wp2_with (first | ((with_reducible refine gate_dst (N := 74) rfl ?_); refine Kd.R_lit (Kd.int .i32) _ 21 ?hg (N := 74) ?hd (xs := ([c] : List Int)) (inner := [.int .i32 c]) (ok := fun _ => True) (okp := fun _ => True) ?hr ?hp (fun _ hk => hk) trivial (Below.refl _ _) (Nat.le_refl _) (by simp) ?_; (case hd => rfl); (case hg => rfl); (case hr => first | (go_simp; done) | (go_simp; rfl)); (case hp => exact (Reps.one (show Kd.M (Kd.int .i32) _ _ _ c [.int .i32 c] from rfl) (Reps.none _ _))); intro vl wl hol hbl hgl hnl; clear hgl hnl; have HB := Aside0.mk (below_step (by first | exact HB.out | exact below_drew1 HB.out) hbl); have hcv5 := own_runes (P := Tryd.prog) Tryd.underlying38 Tryd.underlying21 Tryd.underlying9 (Kd.own_of_R hol); clear hol hbl) | fail); go_ret; exact ⟨by rw [← HQ.out, HST.out, ← HRN.out]; rfl, by first | exact HB.out | exact below_drew1 HB.out⟩)
      · have f1 : (16 + (i : Int) == x0) = false := beq_eq_false_iff_ne.mpr hq
        have HXN : Aside0 (∀ j : Nat, j < i + 1 → x0 ≠ 16 + (j : Int)) := ⟨fun j hj e => by
          rcases Nat.lt_or_ge j i with h' | h'
          · exact HX.out j h' e
          · obtain rfl : j = i := by omega
            exact hq e.symm⟩
        clear hq
        go_upto_region 30 with fail
        go_region_held3 (fun w' => w'.cell? ⟨w.heap.size, 0, none⟩ = some (.int .i64 x0)) (first | go_keep | exact HC2.out) (first | (go_at_call 46; refine (gouacheref02_sign.calls c _ _ HSG.out).mono ?_; rintro e W ⟨rfl, hb⟩; have HB := Aside0.mk (below_step (by first | exact HB.out | exact below_drew1 HB.out) hb.below); have HC2 := Aside0.mk (pw_cell_below hb.below HC2.out); have HIX : Aside0 (W.heap[gi]? = some (.stringIter SG (i + 1))) := ⟨(hb.below.block gi (blk_lt HIX.out)).trans HIX.out⟩; clear hb) | fail)
        all_goals (go_wp2_with fail; go_roundg m; (case measure => omega); (case rel => exact ⟨i + 1, ⟨by have := HN.out; omega⟩, HXN, ⟨HIX.out⟩, ⟨HC2.out⟩, by first | exact HB | exact ⟨below_drew1 HB.out⟩⟩))
end Go.Proofs.YtpnlbmeeihbjaabDoor.P
end
