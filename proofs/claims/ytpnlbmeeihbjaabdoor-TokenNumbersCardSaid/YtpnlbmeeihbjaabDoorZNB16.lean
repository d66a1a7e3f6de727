/- The law TokenNumbers (layer 2): the row and its tied card: for every input the law returns true, and the arguments read behind the call as they read before. No condition of ours. -/
import Derived.Test.YtpnlbmeeihbjaabDoorZNB14
import Derived.Test.YtpnlbmeeihbjaabDoorZNB15
import Derived.OpenShut
section
set_option linter.unusedVariables false
set_option linter.unusedSimpArgs false
namespace Go.Proofs.YtpnlbmeeihbjaabDoor.P
open Go.RowKit Go.Proofs.YtpnlbmeeihbjaabDoorW.PrintWords Go.Proofs.YtpnlbmeeihbjaabDoorW.PrintLast Go.Proofs.YtpnlbmeeihbjaabDoorW.PrintMore
open Go.Lib
attribute [local go_sem] max2_int min2_int max_two min_two max_three min_three max_four min_four
set_option linter.unusedVariables false
set_option linter.unusedSimpArgs false
theorem pref_c (S : ByteArray) (c : UInt8) : hpB S ⟨#[c]⟩ = true ↔ ∃ t, S.data.toList = c :: t := by
  have hl : S.size = S.data.toList.length := rfl
  unfold hpB
  rw [Bool.and_eq_true, decide_eq_true_eq, beq_iff_eq, ByteArray.toList_eq, ByteArray.toList_eq, ByteArray.data_extract, Array.toList_extract, List.extract_eq_take_drop, List.drop_zero]
  show 1 ≤ S.size ∧ List.take 1 S.data.toList = [c] ↔ _
  rw [hl]
  constructor
  · rintro ⟨h1, h2⟩
    cases e : S.data.toList with
    | nil => rw [e] at h1; cases h1
    | cons a t =>
      rw [e] at h2
      simp at h2
      exact ⟨t, by rw [h2]⟩
  · rintro ⟨t, e⟩
    rw [e]
    exact ⟨by simp, rfl⟩
theorem decN_plain : ∀ l : List UInt8, (∀ x ∈ l, x.toNat < 128) → decN l = l.map (fun x => (x.toNat : Int))
  | [], _ => rfl
  | a :: t, h => by
    rw [decN_ascii (h a List.mem_cons_self), decN_plain t (fun x hx => h x (List.mem_cons_of_mem _ hx))]
    rfl
theorem dec_dig (d : ByteArray) (j u : Nat) (e : d.data.toList = decU j u) : decS d = (decU j u).map (fun x => (x.toNat : Int)) := by
  rw [decS_N, e]
  exact decN_plain _ (fun x hx => by have := decU_dig j u x hx; omega)
theorem allD_dig (d : ByteArray) (j u : Nat) (e : d.data.toList = decU j u) : allD d = true := by
  unfold allD
  rw [dec_dig d j u e, List.all_eq_true]
  intro x hx
  obtain ⟨b, hb, rfl⟩ := List.mem_map.1 hx
  have := decU_dig j u b hb
  unfold digB btw
  simp only [Bool.and_eq_true, decide_eq_true_eq]
  omega
theorem numV_dig (d : ByteArray) (j u : Nat) (e : d.data.toList = decU j u) (h : u < 10 ^ j) : numV d = min (u : Int) 1000000 := by
  unfold numV
  rw [dec_dig d j u e]
  exact decU_val j u h
theorem first_dig (j u : Nat) (c : UInt8) (t : List UInt8) (e : decU j u = c :: t) : 48 ≤ c.toNat := (decU_dig j u c (by rw [e]; exact List.mem_cons_self)).1
def clampI (n : Int) : Int := if n > 1000000 then (if (1000000 : Int) < -1000000 then -1000000 else 1000000) else (if n < -1000000 then -1000000 else n)
theorem trim_no {S : ByteArray} {c : UInt8} (h : ∀ t, S.data.toList ≠ c :: t) : trimB S c = S := by
  unfold trimB
  rw [if_neg]
  intro hp
  obtain ⟨t, e⟩ := (pref_c S c).1 hp
  exact h t e
theorem int_dig (n k : Int) (hk : k = 10 ∨ k = 11) (h0 : -9223372036854775808 ≤ n) (h1 : n ≤ 9223372036854775807) : intK k ⟨(digT n).toArray⟩ true = (clampI n, true) := by
  have hb : ¬ (true = false ∨ k < 10 ∨ 12 < k) := by simp; omega
  have hD : (⟨(digT n).toArray⟩ : ByteArray).data.toList = digT n := by simp
  generalize (⟨(digT n).toArray⟩ : ByteArray) = D at hD
  rw [intK_in hb]
  by_cases hn : n < 0
  · have e : D.data.toList = 45 :: decU 20 n.natAbs := by rw [hD]; unfold digT; rw [if_pos hn]; rfl
    rw [trim_no (S := D) (c := 43) (fun t et => by rw [e] at et; injection et with e1 _; exact absurd e1 (by decide)), if_neg (Nat.lt_irrefl _)]
    have e2 : (trimB D 45).data.toList = decU 20 n.natAbs := by
      unfold trimB
      rw [if_pos ((pref_c D 45).2 ⟨_, e⟩), ext_tail, e]
      rfl
    have hne := decU_ne (j := 20) (by decide) n.natAbs
    rw [intD_dig (by rw [ByteArray.toList_eq, e2]; simpa using hne) (allD_dig _ _ _ e2), if_neg]
    · rw [numV_dig _ _ _ e2 (by omega)]
      unfold clampI
      refine Prod.ext ?_ rfl
      simp only
      split
      · omega
      · split <;> omega
    · rw [ByteArray.toList_eq, ByteArray.toList_eq, e2, e, beq_iff_eq]
      intro e3
      have := congrArg List.length e3
      simp at this
  · have e : D.data.toList = decU 20 n.natAbs := by rw [hD]; unfold digT; rw [if_neg hn]; rfl
    rw [trim_no (S := D) (c := 43) (fun t et => by rw [e] at et; have := first_dig _ _ _ _ et; exact absurd this (by decide)), if_neg (Nat.lt_irrefl _)]
    rw [trim_no (S := D) (c := 45) (fun t et => by rw [e] at et; have := first_dig _ _ _ _ et; exact absurd this (by decide))]
    have hne := decU_ne (j := 20) (by decide) n.natAbs
    rw [intD_dig (by rw [ByteArray.toList_eq, e]; simpa using hne) (allD_dig _ _ _ e), if_pos (beq_self_eq_true _), numV_dig _ _ _ e (by omega)]
    unfold clampI
    refine Prod.ext ?_ rfl
    simp only
    split
    · omega
    · split <;> omega
theorem unitT_len (S : ByteArray) : (unitT S).length ≤ 30 + 10 * S.size := by
  unfold unitT
  split
  · have h1 := parts_len partB (decS (S.extract 1 S.size))
    have h2 := decS_len (S.extract 1 S.size)
    have h3 := ext_size S
    have h4 := hexC_len (hd0 S)
    rw [List.length_append]
    omega
  · have := escS_len S
    omega
theorem app_eq (a b : List UInt8) : (⟨a.toArray⟩ : ByteArray) ++ ⟨b.toArray⟩ = ⟨(a ++ b).toArray⟩ := by
  apply Go.WideShapes.bytes_inj
  simp
theorem src_dim (k : Nat) (hk : 2 ≤ k) (D S : ByteArray) (hS : S.size ≤ 200) (hD : D.size ≤ 30) : token_Source.f k 12 D S true false = some (D ++ ⟨(unitT S).toArray⟩) := by
  obtain ⟨k, rfl⟩ : ∃ i, k = i + 1 := ⟨k - 1, by omega⟩
  have hl := unitT_len S
  have hu : token_unit.f S = some ⟨(unitT S).toArray⟩ := if_pos (by omega)
  have hz : (⟨(unitT S).toArray⟩ : ByteArray).size = (unitT S).length := rfl
  unfold token_Source.f
  rw [if_neg (by decide), if_neg (by decide), if_neg (by decide), if_neg (by decide), if_neg (by decide), if_neg (by decide)]
  rw [token_Source.j0]
  rw [if_neg (by decide), if_neg (by decide), if_pos (by decide), hu, Option.bind_some, if_pos (by rw [hz]; omega)]
theorem numbers_j3 (k : Nat) (hk : 1 ≤ k) (n : Int) (h0 : -9223372036854775808 ≤ n) (h1 : n ≤ 9223372036854775807) : gouachelaw02_TokenNumbers.j3 k (clampI n) [⟨10, ⟨(digT n).toArray⟩, ⟨#[]⟩, true, false⟩] [⟨11, ⟨(digT n).toArray⟩, ⟨#[]⟩, true, false⟩] false = some true := by
  obtain ⟨k, rfl⟩ : ∃ i, k = i + 1 := ⟨k - 1, by omega⟩
  rw [gouachelaw02_TokenNumbers.j3, if_neg (by simp), if_pos (by simp)]
  rw [rd_one, rd_one]
  unfold token_Int.f
  rw [int_dig n 10 (.inl rfl) h0 h1, int_dig n 11 (.inr rfl) h0 h1, Option.bind_some, if_pos (by simp), Option.bind_some]
  rw [if_pos rfl, if_pos rfl, if_pos rfl, if_pos rfl, lives_true, Option.bind_some]
theorem numbers_j2 (k : Nat) (hk : 3 ≤ k) (n : Int) (h0 : -9223372036854775808 ≤ n) (h1 : n ≤ 9223372036854775807) (S : ByteArray) (hS : S.size ≤ 200) (hc : Clean S) (hne : S.data.toList ≠ []) : gouachelaw02_TokenNumbers.j2 k S ⟨(digT n).toArray⟩ (clampI n) = some true := by
  obtain ⟨k, rfl⟩ : ∃ i, k = i + 1 := ⟨k - 1, by omega⟩
  have hl := unitT_len S
  have hd := digT_len n
  have hz : (⟨(digT n).toArray⟩ : ByteArray).size = (digT n).length := rfl
  have hz2 : (⟨(digT n ++ [37]).toArray⟩ : ByteArray).size = (digT n).length + 1 := by show (digT n ++ [37]).length = _; simp
  have hz3 : (⟨(digT n ++ unitT S).toArray⟩ : ByteArray).size = (digT n).length + (unitT S).length := by show (digT n ++ unitT S).length = _; simp
  have e37 : (⟨(digT n).toArray⟩ : ByteArray) ++ (⟨#[37]⟩ : ByteArray) = ⟨(digT n ++ [37]).toArray⟩ := app_eq _ [37]
  rw [gouachelaw02_TokenNumbers.j2, cut_f _ (by omega), Option.bind_some, if_pos (by omega), e37, cut_f _ (by omega), Option.bind_some]
  rw [src_dim k (by omega) _ _ hS (by omega), Option.bind_some, app_eq, cut_f _ (by omega), Option.bind_some]
  rw [num_alone, num_percent, num_unit n hc hne]
  rw [if_pos (by simp), if_pos (by simp), if_pos (by simp), if_pos (by simp), if_neg (by simp [rd_one]), if_pos (by simp), if_pos (by simp [rd_one]), if_pos (by simp), if_pos (by simp [rd_one])]
  have e : ∀ b, b = false → gouachelaw02_TokenNumbers.j3 k (clampI n) [⟨10, ⟨(digT n).toArray⟩, ⟨#[]⟩, true, false⟩] [⟨11, ⟨(digT n).toArray⟩, ⟨#[]⟩, true, false⟩] b = some true := by
    rintro _ rfl
    exact numbers_j3 k (by omega) n h0 h1
  exact e _ (by simp [rd_one])
theorem numbers_true (n : Int) (S : ByteArray) (h : (Lit.int .i64 n).wf = true) : ∃ k, gouachelaw02_TokenNumbers.f k n S = some true := by
  obtain ⟨h0, h1⟩ := bounds_i64 h
  refine ⟨40, ?_⟩
  have hj : gouachelaw02_TokenNumbers.j0 40 n S true = some true := by
    rw [gouachelaw02_TokenNumbers.j0, if_pos rfl, lives_true, Option.bind_some]
  unfold gouachelaw02_TokenNumbers.f
  by_cases hs : (S.size : Int) > 200
  · rw [if_pos hs, hj]
  · rw [if_neg hs]
    unfold gouachelaw02_clean.f
    rw [Option.bind_some]
    cases hc : cleanB S with
    | false => rw [if_neg (by simp), hj]
    | true =>
      rw [if_pos rfl]
      cases he : (S.toList == ([] : List UInt8)) with
      | true => exact hj
      | false =>
        have hne : S.data.toList ≠ [] := by
          intro e
          rw [ByteArray.toList_eq, e] at he
          cases he
        rw [gouachelaw02_TokenNumbers.j0, if_neg (by simp), digits_f n h0 h1 39 (by decide), Option.bind_some]
        have key := numbers_j2 37 (by decide) n h0 h1 S (by omega) (clean_of hc) hne
        by_cases hb : n > 1000000
        · rw [if_pos hb, gouachelaw02_TokenNumbers.j1, if_neg (by decide)]
          have e : clampI n = 1000000 := by unfold clampI; rw [if_pos hb, if_neg (by decide)]
          rw [e] at key
          exact key
        · rw [if_neg hb, gouachelaw02_TokenNumbers.j1]
          by_cases hl : n < -1000000
          · rw [if_pos hl]
            have e : clampI n = -1000000 := by unfold clampI; rw [if_neg hb, if_pos hl]
            rw [e] at key
            exact key
          · rw [if_neg hl]
            have e : clampI n = n := by unfold clampI; rw [if_neg hb, if_neg hl]
            rw [e] at key
            exact key
end Go.Proofs.YtpnlbmeeihbjaabDoor.P
end
