/- WalkOnce: for every input the law returns true, and each argument reads behind the call as it read before. -/
import Derived.Test.YtpnlbmeeihbjaaaZWC24
import Derived.Sort.Walk0
import Derived.Lib.Strings
section
set_option linter.unusedVariables false
set_option linter.unusedSimpArgs false
namespace Go.Proofs.Ytpnlbmeeihbjaaa.P
open Go.RowKit Go.Proofs.YtpnlbmeeihbjaaaW.PrintWords Go.Proofs.YtpnlbmeeihbjaaaW.PrintLast Go.Proofs.YtpnlbmeeihbjaaaW.PrintMore
attribute [local go_sem] max2_int min2_int max_two min_two max_three min_three max_four min_four
set_option linter.unusedVariables false
set_option linter.unusedSimpArgs false
theorem lessS_lt (a b : ByteArray) : lessS a b = true ↔ a.data.toList < b.data.toList := by
  unfold lessS
  rw [Proofs.bytesLess_eq, Lib.toList_data, Lib.toList_data]
  simp
theorem lessS_irrefl (a : ByteArray) : lessS a a = false := by
  cases h : lessS a a with
  | false => rfl
  | true => exact absurd ((lessS_lt a a).1 h) (List.lt_irrefl _)
theorem lessS_trans {a b c : ByteArray} (h : lessS a b = true) (k : lessS b c = true) : lessS a c = true := (lessS_lt a c).2 (List.lt_trans ((lessS_lt a b).1 h) ((lessS_lt b c).1 k))
theorem bytes_ext {a b : ByteArray} (h : a.data.toList = b.data.toList) : a = b := by
  cases a with | mk x => cases b with | mk y => cases x with | mk p => cases y with | mk q => simp only at h; rw [h]
theorem eqS_iff (a b : ByteArray) : (a.toList == b.toList) = true ↔ a = b := by
  rw [Lib.toList_data, Lib.toList_data]
  exact ⟨fun h => bytes_ext (by simpa using h), fun h => by rw [h]; simp⟩
theorem lessS_total (a b : ByteArray) (h : lessS a b = false) (hne : a ≠ b) : lessS b a = true := by
  rw [lessS_lt]
  have h1 : ¬ a.data.toList < b.data.toList := fun c => by rw [(lessS_lt a b).2 c] at h; cases h
  have h2 : b.data.toList ≤ a.data.toList := List.not_lt.1 h1
  refine Classical.byContradiction fun h3 => hne (bytes_ext ?_)
  exact List.le_antisymm (List.not_lt.1 h3) h2
theorem cmpS_neg (a b : ByteArray) : cmpS a b < 0 ↔ lessS a b = true := by
  unfold cmpS
  constructor
  · intro h
    cases hl : lessS a b with
    | true => rfl
    | false => rw [hl] at h; simp only [Bool.false_eq_true, if_false] at h; split at h <;> omega
  · intro h
    rw [if_pos h]; omega
theorem cmpS_zero (a b : ByteArray) : cmpS a b = 0 ↔ a = b := by
  unfold cmpS
  constructor
  · intro h
    cases hl : lessS a b with
    | true => rw [hl] at h; simp at h
    | false =>
      rw [hl] at h
      simp only [Bool.false_eq_true, if_false] at h
      split at h
      · rename_i c; exact (eqS_iff a b).1 c
      · omega
  · rintro rfl
    rw [lessS_irrefl, if_neg (by decide), if_pos ((eqS_iff a a).2 rfl)]
def SortA (l : List S70) : Prop := l.Pairwise fun a b => lessS a.f0 b.f0 = true
theorem rd_get (l : List S70) (i : Nat) (h : i < l.length) : rd_T70 l (i : Nat) = l[i] := by
  unfold rd_T70; simp [List.getD_eq_getElem?_getD, List.getElem?_eq_getElem h]
theorem SortA.lt {l : List S70} (h : SortA l) {i j : Nat} (hij : i < j) (hj : j < l.length) : lessS l[i].f0 l[j].f0 = true := List.pairwise_iff_getElem.1 h i j (by omega) hj hij
theorem SortA.mono {l : List S70} (h : SortA l) (s : ByteArray) : MonoA l s := by
  intro a b hab hb hlt
  rw [rd_get l b hb, cmpS_neg] at hlt
  rw [rd_get l a (by omega), cmpS_neg]
  rcases Nat.lt_or_eq_of_le hab with h1 | h1
  · exact lessS_trans (h.lt h1 hb) hlt
  · subst h1; exact hlt
theorem countP_split {α : Type} (p : α → Bool) : ∀ (l : List α), l.Pairwise (fun a b => p b = true → p a = true) → (∀ x ∈ l.take (l.countP p), p x = true) ∧ (∀ x ∈ l.drop (l.countP p), p x = false)
  | [], _ => by simp
  | a :: r, h => by
    rw [List.pairwise_cons] at h
    have ih := countP_split p r h.2
    cases hp : p a with
    | true =>
      rw [List.countP_cons_of_pos hp]
      refine ⟨fun x hx => ?_, fun x hx => ih.2 x (by simpa using hx)⟩
      rw [List.take_succ_cons] at hx
      rcases List.mem_cons.1 hx with rfl | hx
      · exact hp
      · exact ih.1 x hx
    | false =>
      have h0 : r.countP p = 0 := by
        rw [List.countP_eq_zero]
        intro x hx hpx
        rw [h.1 x hx hpx] at hp; cases hp
      rw [List.countP_cons_of_neg (by rw [hp]; decide), h0]
      refine ⟨by simp, fun x hx => ?_⟩
      rw [List.drop_zero] at hx
      rcases List.mem_cons.1 hx with rfl | hx
      · exact hp
      · cases hpx : p x with
        | false => rfl
        | true => rw [h.1 x hx hpx] at hp; cases hp
theorem pos_split {l : List S70} (h : SortA l) (s : ByteArray) : (∀ x ∈ l.take (posA l s), lessS x.f0 s = true) ∧ (∀ x ∈ l.drop (posA l s), lessS x.f0 s = false) := by
  have := countP_split (fun x : S70 => decide (cmpS x.f0 s < 0)) l (List.Pairwise.imp (fun {a b} hab hb => by
    simp only [decide_eq_true_eq, cmpS_neg] at hb ⊢
    exact lessS_trans hab hb) h)
  refine ⟨fun x hx => (cmpS_neg _ _).1 (of_decide_eq_true (this.1 x hx)), fun x hx => ?_⟩
  have h2 := of_decide_eq_false (this.2 x hx)
  cases hl : lessS x.f0 s with
  | false => rfl
  | true => exact absurd ((cmpS_neg _ _).2 hl) h2
theorem hasA_at {l : List S70} {s : ByteArray} (h : hasA l s = true) : ∃ h : posA l s < l.length, l[posA l s].f0 = s := by
  refine ⟨hasA_lt h, ?_⟩
  unfold hasA at h
  simp only [Bool.and_eq_true, decide_eq_true_eq] at h
  rw [rd_get l _ h.1, cmpS_zero] at h
  exact h.2
theorem hasA_mem {l : List S70} (hs : SortA l) {s : ByteArray} : hasA l s = true ↔ ∃ x ∈ l, x.f0 = s := by
  constructor
  · intro h
    obtain ⟨hlt, he⟩ := hasA_at h
    exact ⟨_, List.getElem_mem hlt, he⟩
  · rintro ⟨x, hx, rfl⟩
    have hp := pos_split hs x.f0
    have hd : x ∈ l.drop (posA l x.f0) := by
      rw [← List.take_append_drop (posA l x.f0) l] at hx
      rcases List.mem_append.1 hx with h1 | h1
      · have := hp.1 x h1; rw [lessS_irrefl] at this; cases this
      · exact h1
    have hlt : posA l x.f0 < l.length := by
      rcases Nat.lt_or_ge (posA l x.f0) l.length with h1 | h1
      · exact h1
      · rw [List.drop_of_length_le h1] at hd; cases hd
    rw [List.drop_eq_getElem_cons hlt] at hd
    unfold hasA
    rw [rd_get l _ hlt]
    simp only [Bool.and_eq_true, decide_eq_true_eq, cmpS_zero]
    refine ⟨hlt, ?_⟩
    rcases List.mem_cons.1 hd with h1 | h1
    · rw [← h1]
    · have h2 := hp.2 l[posA l x.f0] (by rw [List.drop_eq_getElem_cons hlt]; exact List.mem_cons_self)
      obtain ⟨t, ht, e⟩ := List.getElem_of_mem h1
      rw [List.getElem_drop] at e
      have h3 := hs.lt (i := posA l x.f0) (j := posA l x.f0 + 1 + t) (by omega) (by rw [List.length_drop] at ht; omega)
      rw [e] at h3
      rw [h2] at h3; cases h3
end Go.Proofs.Ytpnlbmeeihbjaaa.P
end
