/- The numbers behind nth.Fits and its document's answer: both are one test. -/
import Derived.Test.YthaaajpmiofodaaDoorF3
import Derived.Test.YthaaajpmiofodaaDoorF4
import Derived.Test.YthaaajpmiofodaaDoorF5
namespace Go.Proofs.YthaaajpmiofodaaDoor.P
open Go.RowKit

theorem i64_bounds {a : Int} (h : (Lit.int .i64 a).wf = true) : -9223372036854775808 ≤ a ∧ a ≤ 9223372036854775807 := by
  simpa [Lit.wf, IntKind.min, IntKind.max, IntKind.signed, IntKind.bits] using h
theorem u64w (x : Int) : IntKind.u64.wrap x = x % 18446744073709551616 := by
  simp [IntKind.wrap, IntKind.signed, IntKind.bits]
theorem tm (x y : Int) (h : 0 ≤ x) : Int.tmod x y = x % y := Int.tmod_eq_emod_of_nonneg h

def fitsS (a b n : Int) : Bool := decide (1 ≤ n ∧ (n = b ∨ (0 < a ∧ b < n ∧ (n - b) % a = 0) ∨ (a < 0 ∧ n < b ∧ (b - n) % (-a) = 0)))

theorem fits_p {a b n : Int} (ha : -9223372036854775808 ≤ a ∧ a ≤ 9223372036854775807) (hb : -9223372036854775808 ≤ b ∧ b ≤ 9223372036854775807) (hn : -9223372036854775808 ≤ n ∧ n ≤ 9223372036854775807) (k : Nat) (hk : 1 ≤ k) :
    nth_Fits.f k a b n = some (fitsS a b n) := by
  obtain ⟨k, rfl⟩ : ∃ m, k = m + 1 := ⟨k - 1, by omega⟩
  unfold nth_Fits.f
  by_cases h1 : n < 1
  · rw [if_pos h1]; simp [fitsS]; omega
  rw [if_neg h1]
  by_cases h2 : n = b
  · rw [if_pos h2]; simp [fitsS]; omega
  rw [if_neg h2]
  by_cases h3 : a = 0
  · rw [if_pos h3]; simp only [nth_Fits.j0, if_true]; simp [fitsS]; omega
  rw [if_neg h3]
  simp only [nth_Fits.j0]
  by_cases h4 : a > 0
  · by_cases h5 : n > b
    · have e1 : IntKind.u64.wrap a = a := by rw [u64w]; omega
      have e2 : IntKind.u64.wrap (IntKind.u64.wrap n - IntKind.u64.wrap b) = n - b := by rw [u64w, u64w, u64w]; omega
      simp only [h4, h5, decide_true, bne_self_eq_false, Bool.false_eq_true, if_false]
      rw [if_neg (by omega : ¬ a < 0), e1, if_neg h3, e2, tm _ _ (by omega)]
      congr 1
      rw [Bool.eq_iff_iff]
      simp [fitsS]
      omega
    · simp only [h4, h5, decide_true, decide_false]
      simp [fitsS]
      omega
  · by_cases h5 : n > b
    · simp only [h4, h5, decide_true, decide_false]
      simp [fitsS]
      omega
    · have e1 : IntKind.u64.wrap (-(IntKind.u64.wrap a)) = -a := by rw [u64w, u64w]; omega
      have e2 : IntKind.u64.wrap (-(IntKind.u64.wrap (IntKind.u64.wrap n - IntKind.u64.wrap b))) = b - n := by rw [u64w, u64w, u64w, u64w]; omega
      simp only [h4, h5, decide_false, bne_self_eq_false, Bool.false_eq_true, if_false]
      rw [if_pos (by omega : a < 0), e1, if_neg (by omega : ¬ -a = 0), e2, tm _ _ (by omega)]
      congr 1
      rw [Bool.eq_iff_iff]
      simp [fitsS]
      omega

theorem fits_r {a b n : Int} (ha : -9223372036854775808 ≤ a ∧ a ≤ 9223372036854775807) (hb : -9223372036854775808 ≤ b ∧ b ≤ 9223372036854775807) (hn : -9223372036854775808 ≤ n ∧ n ≤ 9223372036854775807) (k : Nat) (hk : 1 ≤ k) :
    gouacheref04_Fits.f k a b n = some (fitsS a b n) := by
  obtain ⟨k, rfl⟩ : ∃ m, k = m + 1 := ⟨k - 1, by omega⟩
  unfold gouacheref04_Fits.f
  by_cases h1 : n < 1
  · rw [if_pos h1]; simp [fitsS]; omega
  rw [if_neg h1]
  by_cases h3 : a = 0
  · rw [if_pos h3]; simp only [gouacheref04_Fits.j0, if_true]; congr 1; rw [Bool.eq_iff_iff]; simp [fitsS]; omega
  rw [if_neg h3]
  simp only [gouacheref04_Fits.j0]
  by_cases h2 : n = b
  · simp [h2, fitsS]; omega
  rw [if_neg (by simpa using h2)]
  by_cases h4 : a > 0
  · rw [if_pos h4]
    by_cases h5 : n > b
    · have e1 : IntKind.u64.wrap a = a := by rw [u64w]; omega
      have e2 : IntKind.u64.wrap (IntKind.u64.wrap n - IntKind.u64.wrap b) = n - b := by rw [u64w, u64w, u64w]; omega
      rw [if_pos h5, e1, if_neg h3, e2, tm _ _ (by omega)]
      congr 1; rw [Bool.eq_iff_iff]; simp [fitsS]; omega
    · rw [if_neg h5]; simp [fitsS]; omega
  · rw [if_neg h4]
    by_cases h5 : n < b
    · have e1 : IntKind.u64.wrap (-(IntKind.u64.wrap a)) = -a := by rw [u64w, u64w]; omega
      have e2 : IntKind.u64.wrap (IntKind.u64.wrap b - IntKind.u64.wrap n) = b - n := by rw [u64w, u64w, u64w]; omega
      rw [if_pos h5, e1, if_neg (by omega : ¬ -a = 0), e2, tm _ _ (by omega)]
      congr 1; rw [Bool.eq_iff_iff]; simp [fitsS]; omega
    · rw [if_neg h5]; simp [fitsS]; omega
end Go.Proofs.YthaaajpmiofodaaDoor.P
