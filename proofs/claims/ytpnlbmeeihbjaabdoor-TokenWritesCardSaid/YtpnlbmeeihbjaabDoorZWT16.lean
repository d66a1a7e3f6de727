/- The law TokenWrites (layer 2): the row and its tied card: for every input the law returns true, and the arguments read behind the call as they read before. No condition of ours. -/
import Derived.Test.YtpnlbmeeihbjaabDoorZWT7
import Derived.Test.YtpnlbmeeihbjaabDoorZWT8
import Derived.Test.YtpnlbmeeihbjaabDoorZWT12
import Derived.Test.YtpnlbmeeihbjaabDoorZWT14
import Derived.Test.YtpnlbmeeihbjaabDoorZWT15
import Derived.OpenShut
section
set_option linter.unusedVariables false
set_option linter.unusedSimpArgs false
namespace Go.Proofs.YtpnlbmeeihbjaabDoor.P
open Go.RowKit Go.Proofs.YtpnlbmeeihbjaabDoorW.PrintWords Go.Proofs.YtpnlbmeeihbjaabDoorW.PrintLast Go.Proofs.YtpnlbmeeihbjaabDoorW.PrintMore
open Go.Lib
attribute [local go_sem] max2_int min2_int max_two min_two max_three min_three max_four min_four
set_option linter.unusedVariables false
set_option linter.unusedSimpArgs false
theorem pref_c (S : ByteArray) (c : UInt8) : hpB S ⟨#[c]⟩ = true ↔ ∃ t, S.data.toList = c :: t := by
  have hl : S.size = S.data.toList.length := rfl
  unfold hpB
  rw [Bool.and_eq_true, decide_eq_true_eq, beq_iff_eq, ByteArray.toList_eq, ByteArray.toList_eq, ByteArray.data_extract, Array.toList_extract, List.extract_eq_take_drop, List.drop_zero]
  show 1 ≤ S.size ∧ List.take 1 S.data.toList = [c] ↔ _
  rw [hl]
  constructor
  · rintro ⟨h1, h2⟩
    cases e : S.data.toList with
    | nil => rw [e] at h1; cases h1
    | cons a t =>
      rw [e] at h2
      simp at h2
      exact ⟨t, by rw [h2]⟩
  · rintro ⟨t, e⟩
    rw [e]
    exact ⟨by simp, rfl⟩
theorem decN_plain : ∀ l : List UInt8, (∀ x ∈ l, x.toNat < 128) → decN l = l.map (fun x => (x.toNat : Int))
  | [], _ => rfl
  | a :: t, h => by
    rw [decN_ascii (h a List.mem_cons_self), decN_plain t (fun x hx => h x (List.mem_cons_of_mem _ hx))]
    rfl
theorem trim_no {S : ByteArray} {c : UInt8} (h : ∀ t, S.data.toList ≠ c :: t) : trimB S c = S := by
  unfold trimB
  rw [if_neg]
  intro hp
  obtain ⟨t, e⟩ := (pref_c S c).1 hp
  exact h t e
end Go.Proofs.YtpnlbmeeihbjaabDoor.P
end
section
set_option linter.unusedVariables false
set_option linter.unusedSimpArgs false
namespace Go.Proofs.YtpnlbmeeihbjaabDoor.P
open Go.RowKit Go.Proofs.YtpnlbmeeihbjaabDoorW.PrintWords Go.Proofs.YtpnlbmeeihbjaabDoorW.PrintLast Go.Proofs.YtpnlbmeeihbjaabDoorW.PrintMore
open Go.Lib
attribute [local go_sem] max2_int min2_int max_two min_two max_three min_three max_four min_four
set_option linter.unusedVariables false
set_option linter.unusedSimpArgs false
def wL : Int → List UInt8 → Option Int
  | n, [] => some n
  | n, b :: t => if b.toNat < 48 ∨ 57 < b.toNat then none else wL (min (10 * n + ((b.toNat : Int) - 48)) 1000000) t
theorem wL_dig : ∀ (l : List UInt8) (n : Int), (∀ b ∈ l, 48 ≤ b.toNat ∧ b.toNat ≤ 57) → wL n l = some (numF n (l.map (fun x => (x.toNat : Int))))
  | [], n, _ => rfl
  | b :: t, n, h => by
    have hb := h b List.mem_cons_self
    unfold wL
    rw [if_neg (by omega), wL_dig t _ (fun x hx => h x (List.mem_cons_of_mem _ hx))]
    rfl
theorem wL_bad : ∀ (l : List UInt8) (n : Int), ¬ (∀ b ∈ l, 48 ≤ b.toNat ∧ b.toNat ≤ 57) → wL n l = none
  | [], n, h => absurd (fun b hb => by cases hb) h
  | b :: t, n, h => by
    unfold wL
    by_cases hb : b.toNat < 48 ∨ 57 < b.toNat
    · rw [if_pos hb]
    · rw [if_neg hb]
      refine wL_bad t _ (fun ht => h (fun x hx => ?_))
      rcases List.mem_cons.1 hx with rfl | hx
      · omega
      · exact ht x hx
theorem dig_all : ∀ (n : Nat) (l : List UInt8), l.length ≤ n → (decN l).all digB = true → ∀ b ∈ l, 48 ≤ b.toNat ∧ b.toNat ≤ 57
  | _, [], _, _, b, hb => by cases hb
  | 0, a :: t, h, _, _, _ => by cases h
  | n + 1, a :: t, h, hd, b, hb => by
    rw [decN_cons, List.all_cons, Bool.and_eq_true] at hd
    have h1 := dig_pk hd.1
    have h2 := dcl_head (a := a) (t := t) (by omega)
    have h3 : a.toNat < 128 := by omega
    have h4 := hd.2
    rw [dcl_ascii h3] at h4
    rw [List.length_cons] at h
    rcases List.mem_cons.1 hb with rfl | hb
    · omega
    · exact dig_all n t (by omega) h4 b hb
theorem all_iff (d : ByteArray) : allD d = true ↔ ∀ b ∈ d.data.toList, 48 ≤ b.toNat ∧ b.toNat ≤ 57 := by
  unfold allD
  rw [decS_N]
  constructor
  · intro h
    exact dig_all _ _ (Nat.le_refl _) h
  · intro h
    rw [decN_plain _ (fun x hx => by have := h x hx; omega), List.all_eq_true]
    intro x hx
    obtain ⟨b, hb, rfl⟩ := List.mem_map.1 hx
    have := h b hb
    unfold digB btw
    simp only [Bool.and_eq_true, decide_eq_true_eq]
    omega
def wR (d : ByteArray) (neg : Bool) (n : Int) (l : List UInt8) : Int × Bool := match wL n l with
  | none => (0, false)
  | some v => (if neg then -v else v, decide ((d.size : Int) > 0))
theorem whole_l0 (d : ByteArray) (hd : d.size ≤ 100000) (neg : Bool) : ∀ (m i k : Nat) (n : Int), i + m = d.size → 2 * m + 2 ≤ k → 0 ≤ n → n ≤ 1000000 → gouacheref02_Whole.l0 k d neg n i = some (wR d neg n (d.data.toList.drop i))
  | m, i, 0, n, _, hk, _, _ => by omega
  | 0, i, k + 1, n, hi, hk, h0, h1 => by
    have hl : d.data.toList.length = d.size := rfl
    rw [gouacheref02_Whole.l0, if_neg (by omega), List.drop_of_length_le (by omega)]
    unfold wR wL
    have hw : wrap64 (-n) = -n := by unfold wrap64; omega
    cases neg with
    | true => rw [if_pos rfl, hw]; rfl
    | false => rw [if_neg (by simp)]; rfl
  | m + 1, i, k + 1, n, hi, hk, h0, h1 => by
    have hl : d.data.toList.length = d.size := rfl
    have hlt : i < d.data.toList.length := by omega
    obtain ⟨k, rfl⟩ : ∃ j, k = j + 1 := ⟨k - 1, by omega⟩
    have q1 : i + 1 + m = d.size := by omega
    have q2 : 2 * m + 2 ≤ k := by omega
    have hb := (d.data.toList[i]).toNat_lt
    rw [gouacheref02_Whole.l0, if_pos (by omega), if_pos (by omega), bt_data d i (by omega), List.drop_eq_getElem_cons hlt]
    have hbt := bt_data d i (by omega)
    generalize d.data.toList[i] = b at hb hbt
    unfold wR wL
    by_cases c : b.toNat < 48 ∨ 57 < b.toNat
    · rw [if_pos c]
      have jt : gouacheref02_Whole.j4 (k + 1) d neg n i true = some (0, false) := by rw [gouacheref02_Whole.j4, if_pos rfl]
      by_cases c1 : b.toNat < 48
      · rw [if_pos (by omega), jt]
      · rw [if_neg (by omega), show decide ((b.toNat : Int) > 57) = true from decide_eq_true (by omega), jt]
    · rw [if_neg c, if_neg (by omega), show decide ((b.toNat : Int) > 57) = false from decide_eq_false (by omega), gouacheref02_Whole.j4, if_neg (by simp), if_pos (by omega), if_pos (by omega), hbt]
      have e1 : wrap64 (10 * n) = 10 * n := by unfold wrap64; omega
      have e2 : wrap64 (10 * n + ((b.toNat : Int) - 48) % 256) = 10 * n + ((b.toNat : Int) - 48) := by unfold wrap64; omega
      have e3 : wrap64 ((i : Int) + 1) = ((i + 1 : Nat) : Int) := by unfold wrap64; omega
      rw [e1, e2, e3]
      by_cases g : 10 * n + ((b.toNat : Int) - 48) > 1000000
      · rw [if_pos g, show min (10 * n + ((b.toNat : Int) - 48)) 1000000 = 1000000 by omega]
        exact whole_l0 d hd neg m (i + 1) k 1000000 q1 q2 (by decide) (by decide)
      · rw [if_neg g, show min (10 * n + ((b.toNat : Int) - 48)) 1000000 = 10 * n + ((b.toNat : Int) - 48) by omega]
        exact whole_l0 d hd neg m (i + 1) k _ q1 q2 (by omega) (by omega)
theorem wR_D (d s : ByteArray) (neg : Bool) (hq : (d.toList == s.toList) = !neg) : wR d neg 0 d.data.toList = intD d s := by
  unfold wR intD
  by_cases ha : allD d = true
  · have hb := (all_iff d).1 ha
    rw [wL_dig _ _ hb]
    have hv : numF 0 (d.data.toList.map (fun x => (x.toNat : Int))) = numV d := by
      unfold numV
      rw [decS_N, decN_plain _ (fun x hx => by have := hb x hx; omega)]
    rw [hv]
    by_cases he : d.toList.isEmpty = true
    · rw [if_pos (.inl he)]
      have hnil : d.data.toList = [] := by rw [ByteArray.toList_eq] at he; simpa using he
      have hz : d.size = 0 := by show d.data.toList.length = 0; rw [hnil]; rfl
      have hv0 : numV d = 0 := by rw [← hv, hnil]; rfl
      simp only [hv0, hz]
      cases neg <;> rfl
    · rw [if_neg (by rw [ha]; simp [he])]
      have hz : 0 < d.size := by
        apply Decidable.byContradiction
        intro hn
        apply he
        rw [ByteArray.toList_eq, List.eq_nil_of_length_eq_zero (show d.data.toList.length = 0 by show d.size = 0; omega)]
        rfl
      simp only
      rw [show decide ((d.size : Int) > 0) = true from decide_eq_true (by omega)]
      rw [hq]
      cases neg <;> rfl
  · rw [wL_bad _ _ (fun h => ha ((all_iff d).2 h)), if_pos (.inr (by simpa using ha))]
theorem whole_law (t : ByteArray) (ht : t.size ≤ 50000) (k : Int) (hk : 10 ≤ k ∧ k ≤ 12) : gouacheref02_Whole.f (2 * t.size + 10) t = some (intK k t true) := by
  rw [intK_in (by simp; omega)]
  have hl : t.data.toList.length = t.size := rfl
  have hxl : (t.extract 1 t.size).size = t.data.toList.tail.length := by
    show (t.extract 1 t.size).data.toList.length = _
    rw [ext_tail]
  rw [List.length_tail] at hxl
  have go : ∀ (d : ByteArray) (neg : Bool), d.size ≤ t.size → gouacheref02_Whole.j2 (2 * t.size + 8) d neg = some (wR d neg 0 d.data.toList) := fun d neg hd => by
    rw [gouacheref02_Whole.j2]
    exact whole_l0 d (by omega) neg d.size 0 _ 0 (by omega) (by omega) (by omega) (by omega)
  unfold gouacheref02_Whole.f
  by_cases h0 : 0 < t.size
  · obtain ⟨u, e⟩ := first_byte t h0
    have hbt : bt t 0 = ((t[0]'h0).toNat : Int) := by
      have := bt_data t 0 h0
      rw [show ((0 : Nat) : Int) = 0 from rfl] at this
      rw [this]
      simp [e]
    rw [if_pos (by omega), if_pos (by omega), hbt, gouacheref02_Whole.j0, if_pos (by omega), if_pos (by omega), hbt]
    generalize t[0]'h0 = a at e hbt
    by_cases a45 : a = 45
    · subst a45
      rw [if_pos (by decide), gouacheref02_Whole.j1, if_pos rfl, if_pos (by omega), go _ _ (by omega)]
      have h43 : trimB t 43 = t := trim_no (fun v ev => by rw [e] at ev; injection ev with e1 _; exact absurd e1 (by decide))
      have h45 : trimB t 45 = t.extract 1 t.size := by unfold trimB; rw [if_pos ((pref_c t 45).2 ⟨u, e⟩)]
      rw [h43, if_neg (Nat.lt_irrefl _), h45, show (((45 : UInt8).toNat : Int) == 45) = true by decide, wR_D _ t true]
      rw [ByteArray.toList_eq, ByteArray.toList_eq, ext_tail, e, List.tail_cons]
      show (u == 45 :: u) = false
      rw [beq_eq_false_iff_ne]
      intro e3
      have := congrArg List.length e3
      simp at this
    · have ha : ¬ (a.toNat : Int) = 45 := fun h => a45 (by apply UInt8.toNat.inj; show a.toNat = 45; omega)
      have hne : ((a.toNat : Int) == 45) = false := beq_eq_false_iff_ne.mpr ha
      have h45 : ∀ s : ByteArray, s = t → trimB s 45 = s := fun s hs => by
        subst hs
        exact trim_no (fun v ev => by rw [e] at ev; injection ev with e1 _; exact a45 e1)
      rw [if_neg ha, hne, gouacheref02_Whole.j1]
      by_cases a43 : a = 43
      · subst a43
        have h43 : trimB t 43 = t.extract 1 t.size := by unfold trimB; rw [if_pos ((pref_c t 43).2 ⟨u, e⟩)]
        rw [if_pos (by decide), if_pos (by omega), go _ _ (by omega), h43, if_pos (by omega), wR_D _ (t.extract 1 t.size) false]
        simp
      · have hb : ((a.toNat : Int) == 43) = false := beq_eq_false_iff_ne.mpr (fun h => a43 (by apply UInt8.toNat.inj; show a.toNat = 43; omega))
        have h43 : trimB t 43 = t := trim_no (fun v ev => by rw [e] at ev; injection ev with e1 _; exact a43 e1)
        rw [hb, if_neg (by simp), go _ _ (Nat.le_refl _), h43, if_neg (Nat.lt_irrefl _), h45 t rfl, wR_D _ t false]
        simp
  · have hnil : t.data.toList = [] := List.eq_nil_of_length_eq_zero (by omega)
    have h43 : ∀ c, trimB t c = t := fun c => trim_no (fun v ev => by rw [hnil] at ev; cases ev)
    rw [if_neg (by omega), gouacheref02_Whole.j0, if_neg (by omega), gouacheref02_Whole.j1, if_neg (by simp), go _ _ (Nat.le_refl _), h43, if_neg (Nat.lt_irrefl _), h43, wR_D _ t false]
    simp
theorem rint_law (x0 : Int) (x1 x2 : ByteArray) (x3 x4 : Bool) (h : x1.size ≤ 50000) : gouacheref02_Int.f (2 * x1.size + 10) x0 x1 x2 x3 x4 = some (intK x0 x1 x3) := by
  unfold gouacheref02_Int.f
  cases x3 with
  | false =>
    rw [if_neg (by simp)]
    unfold intK
    rw [if_pos (.inl rfl)]
  | true =>
    rw [if_pos rfl]
    by_cases k0 : x0 = 10
    · rw [if_pos k0, whole_law x1 h x0 (by omega)]; rfl
    rw [if_neg k0]
    by_cases k1 : x0 = 11
    · rw [if_pos k1, whole_law x1 h x0 (by omega)]; rfl
    rw [if_neg k1]
    by_cases k2 : x0 = 12
    · rw [if_pos k2, whole_law x1 h x0 (by omega)]; rfl
    rw [if_neg k2]
    unfold intK
    rw [if_pos (by omega)]
end Go.Proofs.YtpnlbmeeihbjaabDoor.P
end
section
set_option linter.unusedVariables false
set_option linter.unusedSimpArgs false
namespace Go.Proofs.YtpnlbmeeihbjaabDoor.P
open Go.RowKit Go.Proofs.YtpnlbmeeihbjaabDoorW.PrintWords Go.Proofs.YtpnlbmeeihbjaabDoorW.PrintLast Go.Proofs.YtpnlbmeeihbjaabDoorW.PrintMore
open Go.Lib
attribute [local go_sem] max2_int min2_int max_two min_two max_three min_three max_four min_four
set_option linter.unusedVariables false
set_option linter.unusedSimpArgs false
theorem sg_ext : ∀ i : Fin 9, (⟨#[58, 59, 44, 91, 93, 40, 41, 123, 125]⟩ : ByteArray).extract i.val (i.val + 1) = ⟨#[sgnB i.val]⟩ := by decide +kernel
theorem src_f (x0 : Int) (x1 x2 : ByteArray) (x3 x4 : Bool) (h1 : x1.size ≤ 5000) (h2 : x2.size ≤ 5000) (hx : -9223372036854775808 ≤ x0 ∧ x0 ≤ 9223372036854775807) : token_Source.f 2 x0 x1 x2 x3 x4 = some (srcT x0 x1 x2 x4) := by
  have hle := escS_len x1
  have hlq := quoteS_len x1
  have hlu := unitT_len0 x2
  have hld := decS_most x1
  have hlp := parts_len partB (decS x1)
  have hE : token_Escape.f x1 = some ⟨(escS x1).toArray⟩ := if_pos (by omega)
  have hQ : token_Quote.f x1 = some ⟨(quoteS x1).toArray⟩ := if_pos (by omega)
  have hU : token_unit.f x2 = some ⟨(unitT x2).toArray⟩ := if_pos (by omega)
  have hH : token_hash.f x0 x1 x2 x3 x4 = some ⟨(hashT x1 x4).toArray⟩ := if_pos (by omega)
  have zE := arr_size (escS x1)
  have zU := arr_size (unitT x2)
  have zH := arr_size (hashT x1 x4)
  have lH : (hashT x1 x4).length ≤ 60000 := by unfold hashT; split <;> omega
  unfold token_Source.f srcT
  by_cases k1 : x0 = 1
  · rw [if_pos k1, if_pos k1, hE, Option.bind_some]
  rw [if_neg k1, if_neg k1]
  by_cases k2 : x0 = 2
  · rw [if_pos k2, if_pos k2, hE, Option.bind_some, if_pos (by omega)]
  rw [if_neg k2, if_neg k2]
  by_cases k3 : x0 = 3
  · rw [if_pos k3, if_pos k3, hE, Option.bind_some, if_pos (by omega)]
  rw [if_neg k3, if_neg k3]
  by_cases k4 : x0 = 4
  · rw [if_pos k4, if_pos k4, hH, Option.bind_some, if_pos (by omega)]
  rw [if_neg k4, if_neg k4]
  by_cases k5 : x0 = 5
  · rw [if_pos k5, if_pos k5, hQ, Option.bind_some]
  rw [if_neg k5, if_neg k5]
  by_cases k9 : x0 = 9
  · rw [if_pos k9, if_pos k9, token_Source.j0, if_pos (by simp [k9])]
  rw [if_neg k9, if_neg k9, token_Source.j0]
  by_cases k10 : x0 = 10
  · rw [if_pos (by simp [k10]), if_pos k10]
  rw [if_neg (by simp [k10]), if_neg k10]
  by_cases k11 : x0 = 11
  · rw [if_pos k11, if_pos k11, if_pos (by omega)]
  rw [if_neg k11, if_neg k11]
  by_cases k12 : x0 = 12
  · rw [if_pos k12, if_pos k12, hU, Option.bind_some, if_pos (by omega)]
  rw [if_neg k12, if_neg k12]
  by_cases k13 : x0 = 13
  · rw [if_pos k13, if_pos k13]
  rw [if_neg k13, if_neg k13]
  by_cases k14 : x0 = 14
  · rw [if_pos k14, if_pos k14]
  rw [if_neg k14, if_neg k14]
  by_cases k15 : x0 = 15
  · rw [if_pos k15, if_pos k15]
  rw [if_neg k15, if_neg k15]
  by_cases k16 : x0 ≥ 16
  · have e1 : wrap64 (x0 - 16) = x0 - 16 := by unfold wrap64; omega
    have e2 : wrap64 (x0 - 16 + 1) = x0 - 15 := by unfold wrap64; omega
    rw [if_pos k16, e1, e2]
    by_cases k25 : x0 - 16 < 9
    · rw [if_pos k25, if_pos (by omega), if_pos (by omega), if_pos (by omega), if_pos (by omega)]
      have := sg_ext ⟨(x0 - 16).toNat, by omega⟩
      simp only at this
      rw [show (x0 - 15).toNat = (x0 - 16).toNat + 1 by omega, this]
    · rw [if_neg k25, if_neg (by omega)]
  · rw [if_neg k16, if_neg (by omega)]
theorem keep5 {g : Nat} {W W2 : World} {v0 v1 v2 v3 v4 : Value} (hb : Below W.heap.size W W2) (h : W.cell? ⟨g, 0, none⟩ = some v0 ∧ W.cell? ⟨g, 1, none⟩ = some v1 ∧ W.cell? ⟨g, 2, none⟩ = some v2 ∧ W.cell? ⟨g, 3, none⟩ = some v3 ∧ W.cell? ⟨g, 4, none⟩ = some v4) : W2.cell? ⟨g, 0, none⟩ = some v0 ∧ W2.cell? ⟨g, 1, none⟩ = some v1 ∧ W2.cell? ⟨g, 2, none⟩ = some v2 ∧ W2.cell? ⟨g, 3, none⟩ = some v3 ∧ W2.cell? ⟨g, 4, none⟩ = some v4 :=
  ⟨pw_cell_below hb h.1, pw_cell_below hb h.2.1, pw_cell_below hb h.2.2.1, pw_cell_below hb h.2.2.2.1, pw_cell_below hb h.2.2.2.2⟩
set_option maxHeartbeats 32000000 in
set_option maxRecDepth 100000 in
theorem writes_w (s : ByteArray) (x0 : Int) (x1 x2 : ByteArray) (x3 x4 : Bool) (w : World) (hT : WT w) (hs : s.size ≤ 140737488351232) (h1 : x1.size ≤ 140737488351232) (h2 : x2.size ≤ 140737488351232) (hx : -9223372036854775808 ≤ x0 ∧ x0 ≤ 9223372036854775807) :
    Calls Tryd.prog 7 #[.string s, .agg #[.int .i64 x0, .string x1, .string x2, .bool x3, .bool x4]] w fun e w' => e = .returned (.bool true) ∧ Below w.heap.size w w' := by
  have hu26 := Tryd.underlying26
  have hu9 := Tryd.underlying9
  have HT := Aside0.mk hT
  have HB : Aside0 (Below w.heap.size w (w.alloc (.cells #[.int .i64 x0, .string x1, .string x2, .bool x3, .bool x4] 26))) := ⟨below_alloc (Below.refl w.heap.size w) _⟩
  have HC : Aside0 ((w.alloc (.cells #[.int .i64 x0, .string x1, .string x2, .bool x3, .bool x4] 26)).cell? ⟨w.heap.size, 0, none⟩ = some (.int .i64 x0) ∧ (w.alloc (.cells #[.int .i64 x0, .string x1, .string x2, .bool x3, .bool x4] 26)).cell? ⟨w.heap.size, 1, none⟩ = some (.string x1) ∧ (w.alloc (.cells #[.int .i64 x0, .string x1, .string x2, .bool x3, .bool x4] 26)).cell? ⟨w.heap.size, 2, none⟩ = some (.string x2) ∧ (w.alloc (.cells #[.int .i64 x0, .string x1, .string x2, .bool x3, .bool x4] 26)).cell? ⟨w.heap.size, 3, none⟩ = some (.bool x3) ∧ (w.alloc (.cells #[.int .i64 x0, .string x1, .string x2, .bool x3, .bool x4] 26)).cell? ⟨w.heap.size, 4, none⟩ = some (.bool x4)) := ⟨by refine ⟨?_, ?_, ?_, ?_, ?_⟩ <;> (rw [World.cell?_alloc_new]; rfl)⟩
  have e1 : wrap64 ((s.size : Int) + (x1.size : Int)) = (s.size : Int) + (x1.size : Int) := by unfold wrap64; omega
  have e2 : wrap64 ((s.size : Int) + (x1.size : Int) + (x2.size : Int)) = (s.size : Int) + (x1.size : Int) + (x2.size : Int) := by unfold wrap64; omega
  clear hT
  by_cases big : 5000 < (s.size : Int) + (x1.size : Int) + (x2.size : Int)
  · have d1 : decide (5000 < (s.size : Int) + (x1.size : Int) + (x2.size : Int)) = true := decide_eq_true big
    clear big hs h1 h2 hx
    go_enter Tryd.func7, Tryd.ntmps7
    go_upto_region 1 with fail
    generalize w.alloc (.cells #[.int .i64 x0, .string x1, .string x2, .bool x3, .bool x4] 26) = W1 at HB HC ⊢
    obtain ⟨hc0, hc1, hc2, hc3, hc4⟩ := HC.out
    go_wp2_with (first | (go_at_call 9; refine (gouachelaw02_lives.calls true _ lives_true (HT.out.below (by first | exact HB.out | exact below_drew1 HB.out))).mono ?_; rintro e W ⟨rfl, hb⟩; have HB := Aside0.mk (below_step (by first | exact HB.out | exact below_drew1 HB.out) hb); have HC := Aside0.mk (keep5 hb HC.out); clear hb; (try clear hc0 hc1 hc2 hc3 hc4); obtain ⟨hc0, hc1, hc2, hc3, hc4⟩ := HC.out) | fail)
    go_ret
    exact ⟨rfl, HB.out⟩
  · have d1 : decide (5000 < (s.size : Int) + (x1.size : Int) + (x2.size : Int)) = false := decide_eq_false big
    have HS : Aside0 (s.size ≤ 1099511627776 ∧ x1.size ≤ 5000 ∧ x2.size ≤ 5000) := ⟨by omega⟩
    have HSF := Aside0.mk (src_f x0 x1 x2 x3 x4 (by omega) (by omega) hx)
    have HRI := Aside0.mk (rint_law x0 x1 x2 x3 x4 (by omega))
    clear big hs h1 h2 hx
    go_enter Tryd.func7, Tryd.ntmps7
    go_upto_region 1 with fail
    generalize w.alloc (.cells #[.int .i64 x0, .string x1, .string x2, .bool x3, .bool x4] 26) = W1 at HB HC ⊢
    obtain ⟨hc0, hc1, hc2, hc3, hc4⟩ := HC.out
    go_upto_region 4 with (first | (go_at_call 14; refine (escape_w s _ (HT.out.below (by first | exact HB.out | exact below_drew1 HB.out)) HS.out.1).mono ?_; rintro e W ⟨rfl, hb⟩; have HB := Aside0.mk (below_step (by first | exact HB.out | exact below_drew1 HB.out) hb); have HC := Aside0.mk (keep5 hb HC.out); clear hb; (try clear hc0 hc1 hc2 hc3 hc4); obtain ⟨hc0, hc1, hc2, hc3, hc4⟩ := HC.out) | (go_at_call 19; refine (resc_calls s _ HS.out.1).mono ?_; rintro e W ⟨rfl, hb⟩; have HB := Aside0.mk (below_step (by first | exact HB.out | exact below_drew1 HB.out) hb); have HC := Aside0.mk (keep5 hb HC.out); clear hb; (try clear hc0 hc1 hc2 hc3 hc4); obtain ⟨hc0, hc1, hc2, hc3, hc4⟩ := HC.out) | (go_at_call 13; refine (quote_w s _ (HT.out.below (by first | exact HB.out | exact below_drew1 HB.out)) HS.out.1).mono ?_; rintro e W ⟨rfl, hb⟩; have HB := Aside0.mk (below_step (by first | exact HB.out | exact below_drew1 HB.out) hb); have HC := Aside0.mk (keep5 hb HC.out); clear hb; (try clear hc0 hc1 hc2 hc3 hc4); obtain ⟨hc0, hc1, hc2, hc3, hc4⟩ := HC.out) | (go_at_call 20; refine (rquote_w s _ HS.out.1).mono ?_; rintro e W ⟨rfl, hb⟩; have HB := Aside0.mk (below_step (by first | exact HB.out | exact below_drew1 HB.out) hb); have HC := Aside0.mk (keep5 hb HC.out); clear hb; (try clear hc0 hc1 hc2 hc3 hc4); obtain ⟨hc0, hc1, hc2, hc3, hc4⟩ := HC.out) | (go_at_call 16; refine (token_Source.calls 2 x0 x1 x2 x3 x4 (srcT x0 x1 x2 x4) _ HSF.out (HT.out.below (by first | exact HB.out | exact below_drew1 HB.out))).mono ?_; rintro e W ⟨rfl, hb⟩; have HB := Aside0.mk (below_step (by first | exact HB.out | exact below_drew1 HB.out) hb); have HC := Aside0.mk (keep5 hb HC.out); clear hb; (try clear hc0 hc1 hc2 hc3 hc4); obtain ⟨hc0, hc1, hc2, hc3, hc4⟩ := HC.out) | (go_at_call 21; refine (rsrc_w x0 x1 x2 x3 x4 _ HS.out.2.1 HS.out.2.2).mono ?_; rintro e W ⟨rfl, hb⟩; have HB := Aside0.mk (below_step (by first | exact HB.out | exact below_drew1 HB.out) hb); have HC := Aside0.mk (keep5 hb HC.out); clear hb; (try clear hc0 hc1 hc2 hc3 hc4); obtain ⟨hc0, hc1, hc2, hc3, hc4⟩ := HC.out) | (go_at_call 9; refine (gouachelaw02_lives.calls true _ lives_true (HT.out.below (by first | exact HB.out | exact below_drew1 HB.out))).mono ?_; rintro e W ⟨rfl, hb⟩; have HB := Aside0.mk (below_step (by first | exact HB.out | exact below_drew1 HB.out) hb); have HC := Aside0.mk (keep5 hb HC.out); clear hb; (try clear hc0 hc1 hc2 hc3 hc4); obtain ⟨hc0, hc1, hc2, hc3, hc4⟩ := HC.out) | (go_at_call 17; refine (token_Int.calls x0 x1 x2 x3 x4 (intK x0 x1 x3).1 (intK x0 x1 x3).2 _ rfl).mono ?_; rintro e W ⟨rfl, hb⟩; have HB := Aside0.mk (below_step (by first | exact HB.out | exact below_drew1 HB.out) hb); have HC := Aside0.mk (keep5 hb HC.out); clear hb; (try clear hc0 hc1 hc2 hc3 hc4); obtain ⟨hc0, hc1, hc2, hc3, hc4⟩ := HC.out) | (go_at_call 18; refine (gouacheref02_Int.calls (2 * x1.size + 10) x0 x1 x2 x3 x4 (intK x0 x1 x3).1 (intK x0 x1 x3).2 _ HRI.out).mono ?_; rintro e W ⟨rfl, hb⟩; have HB := Aside0.mk (below_step (by first | exact HB.out | exact below_drew1 HB.out) hb); have HC := Aside0.mk (keep5 hb HC.out); clear hb; (try clear hc0 hc1 hc2 hc3 hc4); obtain ⟨hc0, hc1, hc2, hc3, hc4⟩ := HC.out) | fail)
    go_upto_region 5 with (first | (go_at_call 14; refine (escape_w s _ (HT.out.below (by first | exact HB.out | exact below_drew1 HB.out)) HS.out.1).mono ?_; rintro e W ⟨rfl, hb⟩; have HB := Aside0.mk (below_step (by first | exact HB.out | exact below_drew1 HB.out) hb); have HC := Aside0.mk (keep5 hb HC.out); clear hb; (try clear hc0 hc1 hc2 hc3 hc4); obtain ⟨hc0, hc1, hc2, hc3, hc4⟩ := HC.out) | (go_at_call 19; refine (resc_calls s _ HS.out.1).mono ?_; rintro e W ⟨rfl, hb⟩; have HB := Aside0.mk (below_step (by first | exact HB.out | exact below_drew1 HB.out) hb); have HC := Aside0.mk (keep5 hb HC.out); clear hb; (try clear hc0 hc1 hc2 hc3 hc4); obtain ⟨hc0, hc1, hc2, hc3, hc4⟩ := HC.out) | (go_at_call 13; refine (quote_w s _ (HT.out.below (by first | exact HB.out | exact below_drew1 HB.out)) HS.out.1).mono ?_; rintro e W ⟨rfl, hb⟩; have HB := Aside0.mk (below_step (by first | exact HB.out | exact below_drew1 HB.out) hb); have HC := Aside0.mk (keep5 hb HC.out); clear hb; (try clear hc0 hc1 hc2 hc3 hc4); obtain ⟨hc0, hc1, hc2, hc3, hc4⟩ := HC.out) | (go_at_call 20; refine (rquote_w s _ HS.out.1).mono ?_; rintro e W ⟨rfl, hb⟩; have HB := Aside0.mk (below_step (by first | exact HB.out | exact below_drew1 HB.out) hb); have HC := Aside0.mk (keep5 hb HC.out); clear hb; (try clear hc0 hc1 hc2 hc3 hc4); obtain ⟨hc0, hc1, hc2, hc3, hc4⟩ := HC.out) | (go_at_call 16; refine (token_Source.calls 2 x0 x1 x2 x3 x4 (srcT x0 x1 x2 x4) _ HSF.out (HT.out.below (by first | exact HB.out | exact below_drew1 HB.out))).mono ?_; rintro e W ⟨rfl, hb⟩; have HB := Aside0.mk (below_step (by first | exact HB.out | exact below_drew1 HB.out) hb); have HC := Aside0.mk (keep5 hb HC.out); clear hb; (try clear hc0 hc1 hc2 hc3 hc4); obtain ⟨hc0, hc1, hc2, hc3, hc4⟩ := HC.out) | (go_at_call 21; refine (rsrc_w x0 x1 x2 x3 x4 _ HS.out.2.1 HS.out.2.2).mono ?_; rintro e W ⟨rfl, hb⟩; have HB := Aside0.mk (below_step (by first | exact HB.out | exact below_drew1 HB.out) hb); have HC := Aside0.mk (keep5 hb HC.out); clear hb; (try clear hc0 hc1 hc2 hc3 hc4); obtain ⟨hc0, hc1, hc2, hc3, hc4⟩ := HC.out) | (go_at_call 9; refine (gouachelaw02_lives.calls true _ lives_true (HT.out.below (by first | exact HB.out | exact below_drew1 HB.out))).mono ?_; rintro e W ⟨rfl, hb⟩; have HB := Aside0.mk (below_step (by first | exact HB.out | exact below_drew1 HB.out) hb); have HC := Aside0.mk (keep5 hb HC.out); clear hb; (try clear hc0 hc1 hc2 hc3 hc4); obtain ⟨hc0, hc1, hc2, hc3, hc4⟩ := HC.out) | (go_at_call 17; refine (token_Int.calls x0 x1 x2 x3 x4 (intK x0 x1 x3).1 (intK x0 x1 x3).2 _ rfl).mono ?_; rintro e W ⟨rfl, hb⟩; have HB := Aside0.mk (below_step (by first | exact HB.out | exact below_drew1 HB.out) hb); have HC := Aside0.mk (keep5 hb HC.out); clear hb; (try clear hc0 hc1 hc2 hc3 hc4); obtain ⟨hc0, hc1, hc2, hc3, hc4⟩ := HC.out) | (go_at_call 18; refine (gouacheref02_Int.calls (2 * x1.size + 10) x0 x1 x2 x3 x4 (intK x0 x1 x3).1 (intK x0 x1 x3).2 _ HRI.out).mono ?_; rintro e W ⟨rfl, hb⟩; have HB := Aside0.mk (below_step (by first | exact HB.out | exact below_drew1 HB.out) hb); have HC := Aside0.mk (keep5 hb HC.out); clear hb; (try clear hc0 hc1 hc2 hc3 hc4); obtain ⟨hc0, hc1, hc2, hc3, hc4⟩ := HC.out) | fail)
    (try clear hc0 hc1 hc2 hc3 hc4)
    obtain ⟨hc0, hc1, hc2, hc3, hc4⟩ := HC.out
    go_region_held3 (fun w' => w'.cell? ⟨w.heap.size, 0, none⟩ = some (.int .i64 x0) ∧ w'.cell? ⟨w.heap.size, 1, none⟩ = some (.string x1) ∧ w'.cell? ⟨w.heap.size, 2, none⟩ = some (.string x2) ∧ w'.cell? ⟨w.heap.size, 3, none⟩ = some (.bool x3) ∧ w'.cell? ⟨w.heap.size, 4, none⟩ = some (.bool x4)) (first | go_keep | exact ⟨hc0, hc1, hc2, hc3, hc4⟩ | exact HC.out) (first | (go_at_call 14; refine (escape_w s _ (HT.out.below (by first | exact HB.out | exact below_drew1 HB.out)) HS.out.1).mono ?_; rintro e W ⟨rfl, hb⟩; have HB := Aside0.mk (below_step (by first | exact HB.out | exact below_drew1 HB.out) hb); have HC := Aside0.mk (keep5 hb HC.out); clear hb; (try clear hc0 hc1 hc2 hc3 hc4); obtain ⟨hc0, hc1, hc2, hc3, hc4⟩ := HC.out) | (go_at_call 19; refine (resc_calls s _ HS.out.1).mono ?_; rintro e W ⟨rfl, hb⟩; have HB := Aside0.mk (below_step (by first | exact HB.out | exact below_drew1 HB.out) hb); have HC := Aside0.mk (keep5 hb HC.out); clear hb; (try clear hc0 hc1 hc2 hc3 hc4); obtain ⟨hc0, hc1, hc2, hc3, hc4⟩ := HC.out) | (go_at_call 13; refine (quote_w s _ (HT.out.below (by first | exact HB.out | exact below_drew1 HB.out)) HS.out.1).mono ?_; rintro e W ⟨rfl, hb⟩; have HB := Aside0.mk (below_step (by first | exact HB.out | exact below_drew1 HB.out) hb); have HC := Aside0.mk (keep5 hb HC.out); clear hb; (try clear hc0 hc1 hc2 hc3 hc4); obtain ⟨hc0, hc1, hc2, hc3, hc4⟩ := HC.out) | (go_at_call 20; refine (rquote_w s _ HS.out.1).mono ?_; rintro e W ⟨rfl, hb⟩; have HB := Aside0.mk (below_step (by first | exact HB.out | exact below_drew1 HB.out) hb); have HC := Aside0.mk (keep5 hb HC.out); clear hb; (try clear hc0 hc1 hc2 hc3 hc4); obtain ⟨hc0, hc1, hc2, hc3, hc4⟩ := HC.out) | (go_at_call 16; refine (token_Source.calls 2 x0 x1 x2 x3 x4 (srcT x0 x1 x2 x4) _ HSF.out (HT.out.below (by first | exact HB.out | exact below_drew1 HB.out))).mono ?_; rintro e W ⟨rfl, hb⟩; have HB := Aside0.mk (below_step (by first | exact HB.out | exact below_drew1 HB.out) hb); have HC := Aside0.mk (keep5 hb HC.out); clear hb; (try clear hc0 hc1 hc2 hc3 hc4); obtain ⟨hc0, hc1, hc2, hc3, hc4⟩ := HC.out) | (go_at_call 21; refine (rsrc_w x0 x1 x2 x3 x4 _ HS.out.2.1 HS.out.2.2).mono ?_; rintro e W ⟨rfl, hb⟩; have HB := Aside0.mk (below_step (by first | exact HB.out | exact below_drew1 HB.out) hb); have HC := Aside0.mk (keep5 hb HC.out); clear hb; (try clear hc0 hc1 hc2 hc3 hc4); obtain ⟨hc0, hc1, hc2, hc3, hc4⟩ := HC.out) | (go_at_call 9; refine (gouachelaw02_lives.calls true _ lives_true (HT.out.below (by first | exact HB.out | exact below_drew1 HB.out))).mono ?_; rintro e W ⟨rfl, hb⟩; have HB := Aside0.mk (below_step (by first | exact HB.out | exact below_drew1 HB.out) hb); have HC := Aside0.mk (keep5 hb HC.out); clear hb; (try clear hc0 hc1 hc2 hc3 hc4); obtain ⟨hc0, hc1, hc2, hc3, hc4⟩ := HC.out) | (go_at_call 17; refine (token_Int.calls x0 x1 x2 x3 x4 (intK x0 x1 x3).1 (intK x0 x1 x3).2 _ rfl).mono ?_; rintro e W ⟨rfl, hb⟩; have HB := Aside0.mk (below_step (by first | exact HB.out | exact below_drew1 HB.out) hb); have HC := Aside0.mk (keep5 hb HC.out); clear hb; (try clear hc0 hc1 hc2 hc3 hc4); obtain ⟨hc0, hc1, hc2, hc3, hc4⟩ := HC.out) | (go_at_call 18; refine (gouacheref02_Int.calls (2 * x1.size + 10) x0 x1 x2 x3 x4 (intK x0 x1 x3).1 (intK x0 x1 x3).2 _ HRI.out).mono ?_; rintro e W ⟨rfl, hb⟩; have HB := Aside0.mk (below_step (by first | exact HB.out | exact below_drew1 HB.out) hb); have HC := Aside0.mk (keep5 hb HC.out); clear hb; (try clear hc0 hc1 hc2 hc3 hc4); obtain ⟨hc0, hc1, hc2, hc3, hc4⟩ := HC.out) | fail)
    all_goals (go_wp2; go_ret; exact ⟨rfl, by first | exact HB.out | exact below_drew1 HB.out⟩)
end Go.Proofs.YtpnlbmeeihbjaabDoor.P
end
