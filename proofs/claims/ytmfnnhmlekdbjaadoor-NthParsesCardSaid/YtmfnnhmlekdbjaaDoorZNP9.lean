/- The law NthParses (layer 4): the row and its tied card: for every input the law returns true, and the argument reads behind the call as it read before. No condition of ours. -/
import Derived.Test.YtmfnnhmlekdbjaaDoorZNP8
import Derived.Lib.ItoaLen
section
set_option linter.unusedVariables false
set_option linter.unusedSimpArgs false
namespace Go.Proofs.YtmfnnhmlekdbjaaDoor.P
open Go.RowKit
theorem ba_app (l m : List UInt8) : ((⟨l.toArray⟩ : ByteArray) ++ (⟨m.toArray⟩ : ByteArray)) = ⟨(l ++ m).toArray⟩ := by
  apply ByteArray.ext
  simp [ByteArray.data_append]
theorem ba_size (l : List UInt8) : (⟨l.toArray⟩ : ByteArray).size = l.length := by simp [ByteArray.size]
def tailS (b : Int) (s : List UInt8) : List UInt8 := if b > 0 then s ++ 43 :: Lib.itoa b else if b < 0 then s ++ Lib.itoa b else s
def printS (a b : Int) : List UInt8 :=
  if a = 2 ∧ b = 0 then [101, 118, 101, 110] else if a = 2 ∧ b = 1 then [111, 100, 100] else if a = 0 then Lib.itoa b
  else tailS b (if a = -1 then [45, 110] else if a = 1 then [110] else Lib.itoa a ++ [110])
theorem lib_len {n : Int} (hn : -9223372036854775808 ≤ n ∧ n ≤ 9223372036854775807) : (Lib.itoa n).length ≤ 21 := Lib.itoa_length_le n hn.1 hn.2
theorem itoa_some {n : Int} (hn : -9223372036854775808 ≤ n ∧ n ≤ 9223372036854775807) : strconv_Itoa_17.f n = some ⟨(Lib.itoa n).toArray⟩ := by
  unfold strconv_Itoa_17.f; rw [if_pos hn]
theorem print_j2 {b : Int} (hb : -9223372036854775808 ≤ b ∧ b ≤ 9223372036854775807) (k : Nat) (hk : 1 ≤ k) (s : List UInt8) (hs : s.length ≤ 30) :
    nth_Print.j2 k b ⟨s.toArray⟩ = some ⟨(tailS b s).toArray⟩ := by
  obtain ⟨k, rfl⟩ : ∃ m, k = m + 1 := ⟨k - 1, by omega⟩
  have hl := lib_len hb
  have e43 : (⟨#[43]⟩ : ByteArray) = ⟨[43].toArray⟩ := rfl
  simp only [nth_Print.j2, itoa_some hb, Option.bind_some, tailS]
  by_cases h : b > 0
  · rw [if_pos h, if_pos h, e43, ba_app, ba_size, ba_size, ba_size, if_pos (by omega), if_pos (by simp; omega), ba_app]
    rfl
  · rw [if_neg h, if_neg h]
    by_cases h2 : b < 0
    · rw [if_pos h2, if_pos h2, ba_size, ba_size, if_pos (by omega), ba_app]
    · rw [if_neg h2, if_neg h2]
theorem print_p {a b : Int} (ha : -9223372036854775808 ≤ a ∧ a ≤ 9223372036854775807) (hb : -9223372036854775808 ≤ b ∧ b ≤ 9223372036854775807) (k : Nat) (hk : 3 ≤ k) :
    nth_Print.f k a b = some ⟨(printS a b).toArray⟩ := by
  obtain ⟨k, rfl⟩ : ∃ m, k = m + 2 := ⟨k - 2, by omega⟩
  have hl := lib_len ha
  have j1 : ∀ t : Bool, nth_Print.j1 (k + 1) a b t = if t = true then some ⟨[111, 100, 100].toArray⟩ else if a = 0 then some ⟨(Lib.itoa b).toArray⟩ else some ⟨(tailS b (if a = -1 then [45, 110] else if a = 1 then [110] else Lib.itoa a ++ [110])).toArray⟩ := by
    intro t
    simp only [nth_Print.j1, itoa_some ha, itoa_some hb, Option.bind_some]
    by_cases ht : t = true
    · rw [if_pos ht, if_pos ht]
    rw [if_neg ht, if_neg ht]
    by_cases h0 : a = 0
    · rw [if_pos h0, if_pos h0]
    rw [if_neg h0, if_neg h0]
    by_cases h1 : a = -1
    · rw [if_pos h1, if_pos h1]; exact print_j2 hb k (by omega) [45, 110] (by simp)
    rw [if_neg h1, if_neg h1]
    by_cases h2 : a = 1
    · rw [if_pos h2, if_pos h2]; exact print_j2 hb k (by omega) [110] (by simp)
    rw [if_neg h2, if_neg h2, ba_size, if_pos (by omega)]
    rw [show (⟨#[110]⟩ : ByteArray) = ⟨[110].toArray⟩ from rfl, ba_app]
    exact print_j2 hb k (by omega) _ (by simp; omega)
  unfold nth_Print.f
  unfold printS
  by_cases h : a = 2
  · subst h
    simp only [nth_Print.j0, j1, if_true, true_and]
    by_cases h0 : b = 0
    · subst h0; rfl
    by_cases h1 : b = 1
    · subst h1; rfl
    simp [h0, h1]
  · simp only [nth_Print.j0, j1]
    simp [h]
    split <;> rfl
end Go.Proofs.YtmfnnhmlekdbjaaDoor.P
end
section
set_option linter.unusedVariables false
set_option linter.unusedSimpArgs false
namespace Go.Proofs.YtmfnnhmlekdbjaaDoor.P
open Go.RowKit
def rawS (a b : Int) : Int :=
  if 1 ≤ b ∧ 0 ≤ a then b else if 0 < a then (if 0 < (1 - b) % a then 1 + a - (1 - b) % a else 1) else if a < 0 ∧ 1 ≤ b then (b - 1) % (-a) + 1 else 0
def firstS (a b : Int) : Int := if rawS a b > 1000000 then 0 else rawS a b
theorem w64 {x : Int} (h : -9223372036854775808 ≤ x ∧ x ≤ 9223372036854775807) : wrap64 x = x := by unfold wrap64; omega
theorem first_p {a b : Int} (ha : -9223372036854775808 ≤ a ∧ a ≤ 9223372036854775807) (hb : -9223372036854775808 ≤ b ∧ b ≤ 9223372036854775807) (k : Nat) (hk : 2 ≤ k) :
    nth_First.f k a b = some (firstS a b) := by
  obtain ⟨k, rfl⟩ : ∃ m, k = m + 2 := ⟨k - 2, by omega⟩
  have fin : ∀ n : Int, rawS a b = n → (if n > 1000000 then some 0 else some n) = some (firstS a b) := by
    intro n hn
    unfold firstS
    rw [hn]
    split <;> rfl
  unfold nth_First.f
  by_cases h1 : b ≥ 1
  · rw [if_pos h1]
    simp only [nth_First.j0]
    by_cases h2 : a ≥ 0
    · simp only [h2, decide_true, if_true]
      exact fin b (by unfold rawS; rw [if_pos ⟨h1, h2⟩])
    · simp only [h2, decide_false, Bool.false_eq_true, if_false]
      rw [if_neg (by omega), if_pos (by omega : a < 0)]
      simp only [nth_First.j1, h1, decide_true, if_true]
      have e1 : IntKind.u64.wrap (-(IntKind.u64.wrap a)) = -a := by rw [u64w, u64w]; omega
      have e2 : IntKind.u64.wrap (IntKind.u64.wrap b - 1) = b - 1 := by rw [u64w, u64w]; omega
      have hm1 := Int.emod_nonneg (b - 1) (show (-a) ≠ 0 by omega)
      have hm2 := Int.emod_lt_of_pos (b - 1) (show 0 < -a by omega)
      have hm3 : (b - 1) % (-a) ≤ b - 1 := by
        by_cases hlt : b - 1 < -a
        · rw [Int.emod_eq_of_lt (by omega) hlt]; omega
        · omega
      rw [e1, if_neg (by omega : ¬ -a = 0), e2, tm _ _ (by omega)]
      rw [w64 (x := (b - 1) % (-a)) (by omega), w64 (by omega)]
      exact fin _ (by unfold rawS; rw [if_neg (by omega), if_neg (by omega), if_pos (by omega)])
  · rw [if_neg h1]
    simp only [nth_First.j0, Bool.false_eq_true, if_false]
    by_cases h2 : a > 0
    · rw [if_pos h2]
      have e1 : IntKind.u64.wrap a = a := by rw [u64w]; omega
      have e2 : IntKind.u64.wrap (1 - IntKind.u64.wrap b) = 1 - b := by rw [u64w, u64w]; omega
      have hm1 := Int.emod_nonneg (1 - b) (show a ≠ 0 by omega)
      have hm2 := Int.emod_lt_of_pos (1 - b) h2
      have e3 : IntKind.u64.wrap (1 + a) = 1 + a := by rw [u64w]; omega
      rw [e1, if_neg (by omega : ¬ a = 0), e2, tm _ _ (by omega), e3]
      have e4 : IntKind.u64.wrap (1 + a - (1 - b) % a) = 1 + a - (1 - b) % a := by rw [u64w]; omega
      rw [e4]
      by_cases h3 : (1 - b) % a > 0
      · rw [if_pos h3, w64 (by omega)]
        exact fin _ (by unfold rawS; rw [if_neg (by omega), if_pos h2, if_pos h3])
      · rw [if_neg h3]
        have := fin 1 (by unfold rawS; rw [if_neg (by omega), if_pos h2, if_neg h3])
        simpa using this
    · rw [if_neg h2]
      by_cases h3 : a < 0
      · rw [if_pos h3]
        have : decide (b ≥ 1) = false := decide_eq_false h1
        simp only [nth_First.j1, this, Bool.false_eq_true, if_false]
        exact fin 0 (by unfold rawS; rw [if_neg (by omega), if_neg (by omega), if_neg (by omega)])
      · rw [if_neg h3]
        simp only [nth_First.j1, Bool.false_eq_true, if_false]
        exact fin 0 (by unfold rawS; rw [if_neg (by omega), if_neg (by omega), if_neg (by omega)])
end Go.Proofs.YtmfnnhmlekdbjaaDoor.P
end
section
set_option linter.unusedVariables false
set_option linter.unusedSimpArgs false
namespace Go.Proofs.YtmfnnhmlekdbjaaDoor.P
open Go.RowKit
theorem lives_p (k : Nat) (hk : 3 ≤ k) : gouachelaw04_lives.f k = some true := by
  have b : ∀ x : Int, -10 ≤ x → x ≤ 10 → -9223372036854775808 ≤ x ∧ x ≤ 9223372036854775807 := fun x h1 h2 => by omega
  unfold gouachelaw04_lives.f
  rw [fits_p (b _ (by decide) (by decide)) (b _ (by decide) (by decide)) (b _ (by decide) (by decide)) k (by omega), fits_p (b _ (by decide) (by decide)) (b _ (by decide) (by decide)) (b _ (by decide) (by decide)) k (by omega),
    fits_p (b _ (by decide) (by decide)) (b _ (by decide) (by decide)) (b _ (by decide) (by decide)) k (by omega), print_p (b _ (by decide) (by decide)) (b _ (by decide) (by decide)) k hk, print_p (b _ (by decide) (by decide)) (b _ (by decide) (by decide)) k hk,
    first_p (b _ (by decide) (by decide)) (b _ (by decide) (by decide)) k (by omega)]
  have e1 : fitsS (-1) 3 1 = true := by decide
  have e2 : fitsS (-1) 3 3 = true := by decide
  have e3 : fitsS (-1) 3 4 = false := by decide
  have e4 : printS 2 1 = [111, 100, 100] := by decide
  have e5 : Lib.itoa 3 = [51] := by unfold Lib.itoa; rw [if_neg (by decide)]; rw [Lib.decDigits]; rfl
  have e6 : printS (-1) 3 = [45, 110, 43, 51] := by simp [printS, tailS, e5]
  have e7 : firstS 3 0 = 3 := by decide
  have e8 : (⟨([111, 100, 100] : List UInt8).toArray⟩ : ByteArray).toList = [111, 100, 100] := by decide +kernel
  have e9 : (⟨([45, 110, 43, 51] : List UInt8).toArray⟩ : ByteArray).toList = [45, 110, 43, 51] := by decide +kernel
  simp only [Option.bind_some, e1, e2, e3, e4, e6, e7, e8, e9, if_true, Bool.false_eq_true, if_false]
  rfl
end Go.Proofs.YtmfnnhmlekdbjaaDoor.P
end
