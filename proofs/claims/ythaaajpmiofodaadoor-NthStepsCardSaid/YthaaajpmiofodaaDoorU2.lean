/- How nth.Print and its document's answer write: both are one text. -/
import Derived.Test.YthaaajpmiofodaaDoorU1
import Derived.Lib.ItoaLen
namespace Go.Proofs.YthaaajpmiofodaaDoor.P
open Go.RowKit

theorem ba_app (l m : List UInt8) : ((⟨l.toArray⟩ : ByteArray) ++ (⟨m.toArray⟩ : ByteArray)) = ⟨(l ++ m).toArray⟩ := by
  apply ByteArray.ext
  simp [ByteArray.data_append]
theorem ba_size (l : List UInt8) : (⟨l.toArray⟩ : ByteArray).size = l.length := by simp [ByteArray.size]
theorem ba_mk (s : ByteArray) : s = ⟨s.data.toList.toArray⟩ := by cases s; simp

theorem digit_cut (d : Nat) (h : d < 10) : (⟨#[48, 49, 50, 51, 52, 53, 54, 55, 56, 57]⟩ : ByteArray).extract d (d + 1) = ⟨[UInt8.ofNat (48 + d)].toArray⟩ := by
  obtain rfl | rfl | rfl | rfl | rfl | rfl | rfl | rfl | rfl | rfl : d = 0 ∨ d = 1 ∨ d = 2 ∨ d = 3 ∨ d = 4 ∨ d = 5 ∨ d = 6 ∨ d = 7 ∨ d = 8 ∨ d = 9 := by omega
  all_goals decide +kernel

theorem digits_l (k : Nat) : ∀ (u : Nat) (sg s : List UInt8), u < 10 ^ k → u < 18446744073709551616 → 1 ≤ k → sg.length ≤ 1 → s.length + k ≤ 30 →
    gouacheref04_digits.l0 k (u : Int) ⟨sg.toArray⟩ ⟨s.toArray⟩ = some ⟨(sg ++ (Lib.decDigits u ++ s)).toArray⟩ := by
  induction k with
  | zero => intro u sg s _ _ h; omega
  | succ k ih =>
    intro u sg s hu hm _ hg hs
    simp only [gouacheref04_digits.l0]
    have e0 : Int.tmod (u : Int) 10 = ((u % 10 : Nat) : Int) := by rw [tm _ _ (by omega)]; omega
    have e1 : IntKind.u64.wrap (((u % 10 : Nat) : Int) + 1) = ((u % 10 + 1 : Nat) : Int) := by rw [u64w]; omega
    have e2 : IntKind.u64.wrap (Int.tdiv (u : Int) 10) = ((u / 10 : Nat) : Int) := by rw [u64w, Int.tdiv_eq_ediv_of_nonneg (by omega)]; omega
    rw [e0, e1, e2]
    have ed : (((u % 10 : Nat) : Int)).toNat = u % 10 := by omega
    have ee : (((u % 10 + 1 : Nat) : Int)).toNat = u % 10 + 1 := by omega
    rw [ed, ee, digit_cut _ (by omega), ba_app, ba_size, ba_size, ba_size]
    rw [if_pos (by omega), if_pos (by omega), if_pos (by omega), if_pos (by simp; omega)]
    by_cases h0 : u / 10 = 0
    · rw [if_pos (by omega), if_pos (by rw [ba_size]; simp only [List.length_append, List.length_cons, List.length_nil]; omega), ba_app]
      have : u < 10 := by omega
      rw [show u % 10 = u by omega]
      have hd : Lib.decDigits u = [UInt8.ofNat (48 + u)] := by rw [Lib.decDigits]; simp [this]
      rw [hd]
    · rw [if_neg (by omega)]
      have hk : 1 ≤ k := by
        rcases Nat.eq_zero_or_pos k with h | h
        · subst h; simp at hu; omega
        · omega
      rw [ih (u / 10) sg _ (by rw [Nat.pow_succ] at hu; omega) (by omega) hk hg (by simp; omega)]
      have hd : Lib.decDigits u = Lib.decDigits (u / 10) ++ [UInt8.ofNat (48 + u % 10)] := by
        rw [Lib.decDigits]; rw [dif_neg (by omega)]
      rw [hd]
      simp

theorem digits_all {n : Int} (hn : -9223372036854775808 ≤ n ∧ n ≤ 9223372036854775807) (k : Nat) (hk : 22 ≤ k) :
    gouacheref04_digits.f k n = some ⟨(Lib.itoa n).toArray⟩ := by
  obtain ⟨k, rfl⟩ : ∃ m, k = m + 1 := ⟨k - 1, by omega⟩
  have step : ∀ (u : Nat) (sg : List UInt8), u < 18446744073709551616 → sg.length ≤ 1 → gouacheref04_digits.l0 k (u : Int) ⟨sg.toArray⟩ ⟨([] : List UInt8).toArray⟩ = some ⟨(sg ++ Lib.decDigits u).toArray⟩ := by
    intro u sg hu hg
    have h := digits_l 20 u sg [] (by omega) hu (by omega) hg (by simp)
    rw [List.append_nil] at h
    have hm : ∀ j, gouacheref04_digits.l0 (20 + j) (u : Int) ⟨sg.toArray⟩ ⟨([] : List UInt8).toArray⟩ = some ⟨(sg ++ Lib.decDigits u).toArray⟩ := by
      intro j
      induction j with
      | zero => exact h
      | succ j ih => exact (gouacheref04_digits.mono_l (20 + j)).2 _ _ _ _ ih
    have := hm (k - 20)
    rwa [show 20 + (k - 20) = k by omega] at this
  unfold gouacheref04_digits.f
  by_cases h : n < 0
  · rw [if_pos h]
    simp only [gouacheref04_digits.j0]
    have e : IntKind.u64.wrap (-(IntKind.u64.wrap n)) = ((n.natAbs : Nat) : Int) := by rw [u64w, u64w]; omega
    rw [e]
    have := step n.natAbs [45] (by omega) (by simp)
    simp only [List.cons_append, List.nil_append] at this
    rw [show Lib.itoa n = 45 :: Lib.decDigits n.natAbs by unfold Lib.itoa; rw [if_pos h]]
    exact this
  · rw [if_neg h]
    simp only [gouacheref04_digits.j0]
    have e : IntKind.u64.wrap n = ((n.toNat : Nat) : Int) := by rw [u64w]; omega
    rw [e]
    have := step n.toNat [] (by omega) (by simp)
    simp only [List.nil_append] at this
    rw [show Lib.itoa n = Lib.decDigits n.toNat by unfold Lib.itoa; rw [if_neg h]]
    exact this

/-- The text that both write. -/
def tailS (b : Int) (s : List UInt8) : List UInt8 := if b > 0 then s ++ 43 :: Lib.itoa b else if b < 0 then s ++ Lib.itoa b else s
def printS (a b : Int) : List UInt8 :=
  if a = 2 ∧ b = 0 then [101, 118, 101, 110] else if a = 2 ∧ b = 1 then [111, 100, 100] else if a = 0 then Lib.itoa b
  else tailS b (if a = -1 then [45, 110] else if a = 1 then [110] else Lib.itoa a ++ [110])

theorem lib_len {n : Int} (hn : -9223372036854775808 ≤ n ∧ n ≤ 9223372036854775807) : (Lib.itoa n).length ≤ 21 := Lib.itoa_length_le n hn.1 hn.2
theorem itoa_some {n : Int} (hn : -9223372036854775808 ≤ n ∧ n ≤ 9223372036854775807) : strconv_Itoa_17.f n = some ⟨(Lib.itoa n).toArray⟩ := by
  unfold strconv_Itoa_17.f; rw [if_pos hn]

theorem print_j2 {b : Int} (hb : -9223372036854775808 ≤ b ∧ b ≤ 9223372036854775807) (k : Nat) (hk : 1 ≤ k) (s : List UInt8) (hs : s.length ≤ 30) :
    nth_Print.j2 k b ⟨s.toArray⟩ = some ⟨(tailS b s).toArray⟩ := by
  obtain ⟨k, rfl⟩ : ∃ m, k = m + 1 := ⟨k - 1, by omega⟩
  have hl := lib_len hb
  have e43 : (⟨#[43]⟩ : ByteArray) = ⟨[43].toArray⟩ := rfl
  simp only [nth_Print.j2, itoa_some hb, Option.bind_some, tailS]
  by_cases h : b > 0
  · rw [if_pos h, if_pos h, e43, ba_app, ba_size, ba_size, ba_size, if_pos (by omega), if_pos (by simp; omega), ba_app]
    rfl
  · rw [if_neg h, if_neg h]
    by_cases h2 : b < 0
    · rw [if_pos h2, if_pos h2, ba_size, ba_size, if_pos (by omega), ba_app]
    · rw [if_neg h2, if_neg h2]

theorem print_p {a b : Int} (ha : -9223372036854775808 ≤ a ∧ a ≤ 9223372036854775807) (hb : -9223372036854775808 ≤ b ∧ b ≤ 9223372036854775807) (k : Nat) (hk : 3 ≤ k) :
    nth_Print.f k a b = some ⟨(printS a b).toArray⟩ := by
  obtain ⟨k, rfl⟩ : ∃ m, k = m + 2 := ⟨k - 2, by omega⟩
  have hl := lib_len ha
  have j1 : ∀ t : Bool, nth_Print.j1 (k + 1) a b t = if t = true then some ⟨[111, 100, 100].toArray⟩ else if a = 0 then some ⟨(Lib.itoa b).toArray⟩ else some ⟨(tailS b (if a = -1 then [45, 110] else if a = 1 then [110] else Lib.itoa a ++ [110])).toArray⟩ := by
    intro t
    simp only [nth_Print.j1, itoa_some ha, itoa_some hb, Option.bind_some]
    by_cases ht : t = true
    · rw [if_pos ht, if_pos ht]
    rw [if_neg ht, if_neg ht]
    by_cases h0 : a = 0
    · rw [if_pos h0, if_pos h0]
    rw [if_neg h0, if_neg h0]
    by_cases h1 : a = -1
    · rw [if_pos h1, if_pos h1]; exact print_j2 hb k (by omega) [45, 110] (by simp)
    rw [if_neg h1, if_neg h1]
    by_cases h2 : a = 1
    · rw [if_pos h2, if_pos h2]; exact print_j2 hb k (by omega) [110] (by simp)
    rw [if_neg h2, if_neg h2, ba_size, if_pos (by omega)]
    rw [show (⟨#[110]⟩ : ByteArray) = ⟨[110].toArray⟩ from rfl, ba_app]
    exact print_j2 hb k (by omega) _ (by simp; omega)
  unfold nth_Print.f
  unfold printS
  by_cases h : a = 2
  · subst h
    simp only [nth_Print.j0, j1, if_true, true_and]
    by_cases h0 : b = 0
    · subst h0; rfl
    by_cases h1 : b = 1
    · subst h1; rfl
    simp [h0, h1]
  · simp only [nth_Print.j0, j1]
    simp [h]
    split <;> rfl

theorem print_r3 {b : Int} (hb : -9223372036854775808 ≤ b ∧ b ≤ 9223372036854775807) (k : Nat) (hk : 23 ≤ k) (s : List UInt8) (hs : s.length ≤ 30) :
    gouacheref04_Print.j3 k b ⟨s.toArray⟩ = some ⟨(tailS b s).toArray⟩ := by
  obtain ⟨k, rfl⟩ : ∃ m, k = m + 1 := ⟨k - 1, by omega⟩
  have hl := lib_len hb
  have e43 : (⟨#[43]⟩ : ByteArray) = ⟨[43].toArray⟩ := rfl
  simp only [gouacheref04_Print.j3, digits_all hb k (by omega), Option.bind_some, tailS]
  by_cases h : b > 0
  · rw [if_pos h, if_pos h, e43, ba_app, ba_size, ba_size, ba_size, if_pos (by omega), if_neg (by omega), if_pos (by simp; omega), ba_app]
    simp
  · rw [if_neg h, if_neg h]
    by_cases h2 : b < 0
    · rw [if_neg (by omega), if_pos h2, ba_size, ba_size, if_pos (by omega), ba_app]
    · rw [if_pos (by omega), if_neg h2]

theorem print_r {a b : Int} (ha : -9223372036854775808 ≤ a ∧ a ≤ 9223372036854775807) (hb : -9223372036854775808 ≤ b ∧ b ≤ 9223372036854775807) (k : Nat) (hk : 30 ≤ k) :
    gouacheref04_Print.f k a b = some ⟨(printS a b).toArray⟩ := by
  obtain ⟨k, rfl⟩ : ∃ m, k = m + 3 := ⟨k - 3, by omega⟩
  have hl := lib_len ha
  have j1 : ∀ t : Bool, gouacheref04_Print.j1 (k + 2) a b t = if t = true then some ⟨[111, 100, 100].toArray⟩ else if a = 0 then some ⟨(Lib.itoa b).toArray⟩ else some ⟨(tailS b (if a = -1 then [45, 110] else if a = 1 then [110] else Lib.itoa a ++ [110])).toArray⟩ := by
    intro t
    have e110 : (⟨#[110]⟩ : ByteArray) = ⟨[110].toArray⟩ := rfl
    simp only [gouacheref04_Print.j1, digits_all ha (k + 1) (by omega), digits_all hb (k + 1) (by omega), Option.bind_some]
    by_cases ht : t = true
    · rw [if_pos ht, if_pos ht]
    rw [if_neg ht, if_neg ht]
    by_cases h0 : a = 0
    · rw [if_pos h0, if_pos h0]
    rw [if_neg h0, if_neg h0, ba_size, if_pos (by omega)]
    simp only [gouacheref04_Print.j2]
    by_cases h1 : a = -1
    · subst h1
      simp only [show ¬ ((-1 : Int) = 1) by decide, if_false, if_true]; exact print_r3 hb k (by omega) [45, 110] (by simp)
    by_cases h2 : a = 1
    · subst h2
      simp only [show ¬ ((1 : Int) = -1) by decide, if_false, if_true]; exact print_r3 hb k (by omega) [110] (by simp)
    simp only [h1, h2, if_false]
    rw [e110, ba_app]
    exact print_r3 hb k (by omega) _ (by simp; omega)
  unfold gouacheref04_Print.f
  unfold printS
  by_cases h : a = 2
  · subst h
    simp only [gouacheref04_Print.j0, j1, if_true, true_and]
    by_cases h0 : b = 0
    · subst h0; rfl
    by_cases h1 : b = 1
    · subst h1; rfl
    simp [h0, h1]
  · simp only [gouacheref04_Print.j0, j1]
    simp [h]
    split <;> rfl
end Go.Proofs.YthaaajpmiofodaaDoor.P
