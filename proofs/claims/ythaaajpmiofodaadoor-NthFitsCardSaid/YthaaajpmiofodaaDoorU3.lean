/- The first number that is meant: what nth.First reckons is what the document's answer finds. -/
import Derived.Test.YthaaajpmiofodaaDoorU2
namespace Go.Proofs.YthaaajpmiofodaaDoor.P
open Go.RowKit

/-- What First reckons, ahead of its last test. -/
def rawS (a b : Int) : Int :=
  if 1 ≤ b ∧ 0 ≤ a then b else if 0 < a then (if 0 < (1 - b) % a then 1 + a - (1 - b) % a else 1) else if a < 0 ∧ 1 ≤ b then (b - 1) % (-a) + 1 else 0
def firstS (a b : Int) : Int := if rawS a b > 1000000 then 0 else rawS a b

theorem w64 {x : Int} (h : -9223372036854775808 ≤ x ∧ x ≤ 9223372036854775807) : wrap64 x = x := by unfold wrap64; omega

theorem first_p {a b : Int} (ha : -9223372036854775808 ≤ a ∧ a ≤ 9223372036854775807) (hb : -9223372036854775808 ≤ b ∧ b ≤ 9223372036854775807) (k : Nat) (hk : 2 ≤ k) :
    nth_First.f k a b = some (firstS a b) := by
  obtain ⟨k, rfl⟩ : ∃ m, k = m + 2 := ⟨k - 2, by omega⟩
  have fin : ∀ n : Int, rawS a b = n → (if n > 1000000 then some 0 else some n) = some (firstS a b) := by
    intro n hn
    unfold firstS
    rw [hn]
    split <;> rfl
  unfold nth_First.f
  by_cases h1 : b ≥ 1
  · rw [if_pos h1]
    simp only [nth_First.j0]
    by_cases h2 : a ≥ 0
    · simp only [h2, decide_true, if_true]
      exact fin b (by unfold rawS; rw [if_pos ⟨h1, h2⟩])
    · simp only [h2, decide_false, Bool.false_eq_true, if_false]
      rw [if_neg (by omega), if_pos (by omega : a < 0)]
      simp only [nth_First.j1, h1, decide_true, if_true]
      have e1 : IntKind.u64.wrap (-(IntKind.u64.wrap a)) = -a := by rw [u64w, u64w]; omega
      have e2 : IntKind.u64.wrap (IntKind.u64.wrap b - 1) = b - 1 := by rw [u64w, u64w]; omega
      have hm1 := Int.emod_nonneg (b - 1) (show (-a) ≠ 0 by omega)
      have hm2 := Int.emod_lt_of_pos (b - 1) (show 0 < -a by omega)
      have hm3 : (b - 1) % (-a) ≤ b - 1 := by
        by_cases hlt : b - 1 < -a
        · rw [Int.emod_eq_of_lt (by omega) hlt]; omega
        · omega
      rw [e1, if_neg (by omega : ¬ -a = 0), e2, tm _ _ (by omega)]
      rw [w64 (x := (b - 1) % (-a)) (by omega), w64 (by omega)]
      exact fin _ (by unfold rawS; rw [if_neg (by omega), if_neg (by omega), if_pos (by omega)])
  · rw [if_neg h1]
    simp only [nth_First.j0, Bool.false_eq_true, if_false]
    by_cases h2 : a > 0
    · rw [if_pos h2]
      have e1 : IntKind.u64.wrap a = a := by rw [u64w]; omega
      have e2 : IntKind.u64.wrap (1 - IntKind.u64.wrap b) = 1 - b := by rw [u64w, u64w]; omega
      have hm1 := Int.emod_nonneg (1 - b) (show a ≠ 0 by omega)
      have hm2 := Int.emod_lt_of_pos (1 - b) h2
      have e3 : IntKind.u64.wrap (1 + a) = 1 + a := by rw [u64w]; omega
      rw [e1, if_neg (by omega : ¬ a = 0), e2, tm _ _ (by omega), e3]
      have e4 : IntKind.u64.wrap (1 + a - (1 - b) % a) = 1 + a - (1 - b) % a := by rw [u64w]; omega
      rw [e4]
      by_cases h3 : (1 - b) % a > 0
      · rw [if_pos h3, w64 (by omega)]
        exact fin _ (by unfold rawS; rw [if_neg (by omega), if_pos h2, if_pos h3])
      · rw [if_neg h3]
        have := fin 1 (by unfold rawS; rw [if_neg (by omega), if_pos h2, if_neg h3])
        simpa using this
    · rw [if_neg h2]
      by_cases h3 : a < 0
      · rw [if_pos h3]
        have : decide (b ≥ 1) = false := decide_eq_false h1
        simp only [nth_First.j1, this, Bool.false_eq_true, if_false]
        exact fin 0 (by unfold rawS; rw [if_neg (by omega), if_neg (by omega), if_neg (by omega)])
      · rw [if_neg h3]
        simp only [nth_First.j1, Bool.false_eq_true, if_false]
        exact fin 0 (by unfold rawS; rw [if_neg (by omega), if_neg (by omega), if_neg (by omega)])

theorem fits_iff {a b n : Int} : fitsS a b n = true ↔ 1 ≤ n ∧ (n = b ∨ (0 < a ∧ b < n ∧ (n - b) % a = 0) ∨ (a < 0 ∧ n < b ∧ (b - n) % (-a) = 0)) := by simp [fitsS]

/-- Multiples of a number that lie less than it apart are one. -/
theorem near {x y a : Int} (ha : 0 < a) (hx : x % a = 0) (hy : y % a = 0) (h : x < y) : x + a ≤ y := by
  have h1 : (y - x) % a = 0 := by rw [Int.sub_emod, hx, hy]; simp
  have h2 := Int.ediv_mul_add_emod (y - x) a
  rw [h1] at h2
  have h3 : 0 < (y - x) / a := by
    by_cases h : 0 < (y - x) / a
    · exact h
    · have := Int.mul_nonpos_of_nonpos_of_nonneg (show (y - x) / a ≤ 0 by omega) (Int.le_of_lt ha); omega
  have h4 : a * 1 ≤ a * ((y - x) / a) := Int.mul_le_mul_of_nonneg_left (by omega) (by omega)
  rw [Int.mul_comm a ((y - x) / a)] at h4
  omega

theorem raw_fits {a b : Int} (h : 1 ≤ rawS a b) : fitsS a b (rawS a b) = true := by
  rw [fits_iff]
  refine ⟨h, ?_⟩
  unfold rawS at h ⊢
  by_cases h1 : 1 ≤ b ∧ 0 ≤ a
  · rw [if_pos h1]; exact .inl rfl
  rw [if_neg h1] at h ⊢
  by_cases h2 : 0 < a
  · rw [if_pos h2] at h ⊢
    have hm2 := Int.emod_lt_of_pos (1 - b) h2
    by_cases h3 : 0 < (1 - b) % a
    · rw [if_pos h3]
      refine .inr (.inl ⟨h2, by omega, ?_⟩)
      rw [show 1 + a - (1 - b) % a - b = (1 - b) - (1 - b) % a + a by omega, Int.add_emod_right]
      rw [Int.sub_emod, Int.emod_emod, Int.sub_self]; simp
    · rw [if_neg h3]
      have := Int.emod_nonneg (1 - b) (show a ≠ 0 by omega)
      exact .inr (.inl ⟨h2, by omega, by omega⟩)
  rw [if_neg h2] at h ⊢
  by_cases h3 : a < 0 ∧ 1 ≤ b
  · rw [if_pos h3]
    have hm1 := Int.emod_nonneg (b - 1) (show (-a) ≠ 0 by omega)
    have hm3 : (b - 1) % (-a) ≤ b - 1 := by
      by_cases hlt : b - 1 < -a
      · rw [Int.emod_eq_of_lt (by omega) hlt]; omega
      · have := Int.emod_lt_of_pos (b - 1) (show 0 < -a by omega); omega
    by_cases he : (b - 1) % (-a) + 1 = b
    · exact .inl he
    · refine .inr (.inr ⟨h3.1, by omega, ?_⟩)
      rw [show b - ((b - 1) % (-a) + 1) = (b - 1) - (b - 1) % (-a) by omega, Int.sub_emod, Int.emod_emod, Int.sub_self]; simp
  · rw [if_neg h3] at h; omega

theorem raw_least {a b n : Int} (hf : fitsS a b n = true) : 1 ≤ rawS a b ∧ rawS a b ≤ n := by
  rw [fits_iff] at hf
  obtain ⟨hn, hf⟩ := hf
  unfold rawS
  by_cases h1 : 1 ≤ b ∧ 0 ≤ a
  · rw [if_pos h1]
    rcases hf with h | h | h <;> omega
  rw [if_neg h1]
  by_cases h2 : 0 < a
  · rw [if_pos h2]
    have hm1 := Int.emod_nonneg (1 - b) (show a ≠ 0 by omega)
    have hm2 := Int.emod_lt_of_pos (1 - b) h2
    by_cases h3 : 0 < (1 - b) % a
    · rw [if_pos h3]
      have hz : (n - b) % a = 0 := by
        rcases hf with h | h | h
        · subst h; simp
        · exact h.2.2
        · omega
      have hz2 : ((1 - b) - (1 - b) % a) % a = 0 := by rw [Int.sub_emod, Int.emod_emod, Int.sub_self]; simp
      refine ⟨by omega, ?_⟩
      have := near h2 hz2 hz (by omega)
      omega
    · rw [if_neg h3]; omega
  rw [if_neg h2]
  by_cases h3 : a < 0 ∧ 1 ≤ b
  · rw [if_pos h3]
    have hm1 := Int.emod_nonneg (b - 1) (show (-a) ≠ 0 by omega)
    refine ⟨by omega, ?_⟩
    have hz : (b - n) % (-a) = 0 := by
      rcases hf with h | h | h
      · subst h; simp
      · omega
      · exact h.2.2
    have hle : n ≤ b := by rcases hf with h | h | h <;> omega
    have e1 : (b - 1) % (-a) = (n - 1) % (-a) := by
      have : b - 1 = (n - 1) + (b - n) := by omega
      rw [this, Int.add_emod, hz, Int.add_zero, Int.emod_emod]
    rw [e1]
    by_cases hlt : n - 1 < -a
    · rw [Int.emod_eq_of_lt (by omega) hlt]; omega
    · have := Int.emod_lt_of_pos (n - 1) (show 0 < -a by omega); omega
  · rcases hf with h | h | h <;> omega

theorem first_l {a b : Int} (ha : -9223372036854775808 ≤ a ∧ a ≤ 9223372036854775807) (hb : -9223372036854775808 ≤ b ∧ b ≤ 9223372036854775807) (d : Nat) : ∀ (k : Nat) (i : Int), 1 ≤ i → i + d = 1000001 → d + 2 ≤ k → (∀ m, 1 ≤ m → m < i → fitsS a b m = false) →
    gouacheref04_First.l0 k a b i = some (firstS a b) := by
  induction d with
  | zero =>
    intro k i h1 hd hk hno
    obtain ⟨k, rfl⟩ : ∃ m, k = m + 1 := ⟨k - 1, by omega⟩
    simp only [gouacheref04_First.l0]
    rw [if_neg (by omega)]
    unfold firstS
    by_cases h : rawS a b > 1000000
    · rw [if_pos h]
    · rw [if_neg h]
      congr 1
      by_cases hr : 1 ≤ rawS a b
      · have := hno _ hr (by omega)
        rw [raw_fits hr] at this; cases this
      · have hm := @Int.emod_nonneg (1 - b) a
        have hm' := @Int.emod_nonneg (b - 1) (-a)
        have hm2 := @Int.emod_lt_of_pos (1 - b) a
        unfold rawS at hr ⊢
        repeat' split
        all_goals (repeat' split at hr)
        all_goals first | omega | (have := hm (by omega); have := hm2 (by omega); omega) | (have := hm' (by omega); omega)
  | succ d ih =>
    intro k i h1 hd hk hno
    obtain ⟨k, rfl⟩ : ∃ m, k = m + 1 := ⟨k - 1, by omega⟩
    simp only [gouacheref04_First.l0]
    rw [if_pos (by omega), fits_r ha hb (by omega) k (by omega)]
    simp only [Option.bind_some]
    by_cases hf : fitsS a b i = true
    · rw [if_pos hf]
      have hl := raw_least hf
      have : rawS a b = i := by
        rcases Int.lt_or_eq_of_le hl.2 with h | h
        · have := hno _ hl.1 h
          rw [raw_fits hl.1] at this; cases this
        · exact h
      unfold firstS
      rw [this, if_neg (by omega)]
    · rw [if_neg hf, w64 (by omega)]
      refine ih k (i + 1) (by omega) (by omega) (by omega) (fun m h2 h3 => ?_)
      rcases Int.lt_or_eq_of_le (show m ≤ i by omega) with h | h
      · exact hno m h2 h
      · subst h; simpa using hf
end Go.Proofs.YthaaajpmiofodaaDoor.P
