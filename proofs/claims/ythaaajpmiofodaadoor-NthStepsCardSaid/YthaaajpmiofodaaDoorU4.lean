/- The three statements on numbers alone. -/
import Derived.Test.YthaaajpmiofodaaDoorU3
namespace Go.Proofs.YthaaajpmiofodaaDoor.P
open Go.RowKit

theorem lives_p (k : Nat) (hk : 3 ≤ k) : gouachelaw04_lives.f k = some true := by
  have b : ∀ x : Int, -10 ≤ x → x ≤ 10 → -9223372036854775808 ≤ x ∧ x ≤ 9223372036854775807 := fun x h1 h2 => by omega
  unfold gouachelaw04_lives.f
  rw [fits_p (b _ (by decide) (by decide)) (b _ (by decide) (by decide)) (b _ (by decide) (by decide)) k (by omega), fits_p (b _ (by decide) (by decide)) (b _ (by decide) (by decide)) (b _ (by decide) (by decide)) k (by omega),
    fits_p (b _ (by decide) (by decide)) (b _ (by decide) (by decide)) (b _ (by decide) (by decide)) k (by omega), print_p (b _ (by decide) (by decide)) (b _ (by decide) (by decide)) k hk, print_p (b _ (by decide) (by decide)) (b _ (by decide) (by decide)) k hk,
    first_p (b _ (by decide) (by decide)) (b _ (by decide) (by decide)) k (by omega)]
  have e1 : fitsS (-1) 3 1 = true := by decide
  have e2 : fitsS (-1) 3 3 = true := by decide
  have e3 : fitsS (-1) 3 4 = false := by decide
  have e4 : printS 2 1 = [111, 100, 100] := by decide
  have e5 : Lib.itoa 3 = [51] := by unfold Lib.itoa; rw [if_neg (by decide)]; rw [Lib.decDigits]; rfl
  have e6 : printS (-1) 3 = [45, 110, 43, 51] := by simp [printS, tailS, e5]
  have e7 : firstS 3 0 = 3 := by decide
  have e8 : (⟨([111, 100, 100] : List UInt8).toArray⟩ : ByteArray).toList = [111, 100, 100] := by decide +kernel
  have e9 : (⟨([45, 110, 43, 51] : List UInt8).toArray⟩ : ByteArray).toList = [45, 110, 43, 51] := by decide +kernel
  simp only [Option.bind_some, e1, e2, e3, e4, e6, e7, e8, e9, if_true, Bool.false_eq_true, if_false]
  rfl

theorem NthFits : gouachelaw04_NthFits.Pure := by
  intro a b n ha hb hn
  have ha := i64_bounds ha
  have hb := i64_bounds hb
  have hn := i64_bounds hn
  refine ⟨30, ?_⟩
  unfold gouachelaw04_NthFits.f
  rw [fits_p ha hb hn 30 (by omega), fits_r ha hb hn 30 (by omega), print_p ha hb 30 (by omega), print_r ha hb 30 (by omega), lives_p 30 (by omega)]
  simp

theorem NthFirsts : gouachelaw04_NthFirsts.Pure := by
  intro a b ha hb
  have ha := i64_bounds ha
  have hb := i64_bounds hb
  refine ⟨1000100, ?_⟩
  unfold gouachelaw04_NthFirsts.f gouacheref04_First.f
  rw [first_p ha hb 1000100 (by omega), first_l ha hb 1000000 1000100 1 (by omega) (by omega) (by omega) (fun m h1 h2 => by omega), lives_p 1000100 (by omega)]
  simp

theorem steps_l {a b n : Int} (ha : 1 ≤ a ∧ a ≤ 1000) (hb : -1099511627776 ≤ b ∧ b ≤ 1099511627776) (hn : -1099511627776 ≤ n ∧ n ≤ 1099511627776) (hf : fitsS a b n = true) (d : Nat) : ∀ (k : Nat) (i : Int), n < i → i + d = n + a → d + 5 ≤ k →
    gouachelaw04_NthSteps.l0 k a b n i = some true := by
  have ha' : -9223372036854775808 ≤ a ∧ a ≤ 9223372036854775807 := by omega
  have hb' : -9223372036854775808 ≤ b ∧ b ≤ 9223372036854775807 := by omega
  have hff := fits_iff.mp hf
  have hz : (n - b) % a = 0 ∧ b ≤ n := by
    rcases hff.2 with h | h | h
    · subst h; simp
    · exact ⟨h.2.2, by omega⟩
    · omega
  induction d with
  | zero =>
    intro k i h1 h2 hk
    obtain ⟨k, rfl⟩ : ∃ m, k = m + 1 := ⟨k - 1, by omega⟩
    simp only [gouachelaw04_NthSteps.l0]
    have hs : fitsS a b (n + a) = true := by
      rw [fits_iff]
      refine ⟨by omega, .inr (.inl ⟨by omega, by omega, ?_⟩)⟩
      rw [show n + a - b = (n - b) + a by omega, Int.add_emod_right]; exact hz.1
    have hl := raw_least hf
    have hl2 : n ≥ firstS a b := by unfold firstS; split <;> omega
    rw [w64 (x := n + a) (by omega), if_neg (by omega), fits_p ha' hb' (by omega) k (by omega), first_p ha' hb' k (by omega), lives_p k (by omega), hs]
    simp only [Option.bind_some, if_true]
    rw [if_pos hz.2, if_pos hff.1, if_pos hl2]
  | succ d ih =>
    intro k i h1 h2 hk
    obtain ⟨k, rfl⟩ : ∃ m, k = m + 1 := ⟨k - 1, by omega⟩
    simp only [gouachelaw04_NthSteps.l0]
    have hs : fitsS a b i = false := by
      cases hc : fitsS a b i with
      | false => rfl
      | true =>
        have hc := fits_iff.mp hc
        have hz2 : (i - b) % a = 0 := by
          rcases hc.2 with h | h | h
          · omega
          · exact h.2.2
          · omega
        have := near (by omega) hz.1 hz2 (by omega)
        omega
    rw [w64 (x := n + a) (by omega), if_pos (by omega), fits_p ha' hb' (by omega) k (by omega), hs, w64 (x := i + 1) (by omega)]
    simp only [Option.bind_some, Bool.false_eq_true, if_false]
    exact ih k (i + 1) (by omega) (by omega) (by omega)

theorem NthSteps : gouachelaw04_NthSteps.Pure := by
  intro a b n ha hb hn
  have ha := i64_bounds ha
  have hb := i64_bounds hb
  have hn := i64_bounds hn
  refine ⟨2000, ?_⟩
  have out : gouachelaw04_NthSteps.j0 2000 a b n true = some true := by
    simp only [gouachelaw04_NthSteps.j0, lives_p 1999 (by omega), Option.bind_some, if_true]
  unfold gouachelaw04_NthSteps.f
  by_cases h1 : a < 1
  · rw [if_pos h1]; exact out
  rw [if_neg h1]
  by_cases h2 : a > 1000
  · rw [if_pos h2]; exact out
  rw [if_neg h2]
  by_cases h3 : b > 1099511627776
  · rw [if_pos h3]; exact out
  rw [if_neg h3]
  by_cases h4 : b < -1099511627776
  · rw [if_pos h4]; exact out
  rw [if_neg h4]
  by_cases h5 : n > 1099511627776
  · rw [if_pos h5]; exact out
  rw [if_neg h5]
  by_cases h6 : n < -1099511627776
  · rw [show decide (n < -1099511627776) = true from decide_eq_true h6]; exact out
  rw [show decide (n < -1099511627776) = false from decide_eq_false h6]
  simp only [gouachelaw04_NthSteps.j0, lives_p 1999 (by omega), Option.bind_some, Bool.false_eq_true, if_false, fits_p ha hb hn 1999 (by omega)]
  by_cases hf : fitsS a b n = true
  · rw [if_pos hf, w64 (by omega)]
    exact steps_l (by omega) (by omega) (by omega) hf (a - 1).toNat 1999 (n + 1) (by omega) (by omega) (by omega)
  · rw [if_neg hf]
end Go.Proofs.YthaaajpmiofodaaDoor.P
