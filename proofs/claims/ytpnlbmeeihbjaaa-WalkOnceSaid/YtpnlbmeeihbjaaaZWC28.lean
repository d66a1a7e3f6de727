/- WalkOnce: for every input the law returns true, and each argument reads behind the call as it read before. -/
import Derived.Test.YtpnlbmeeihbjaaaZWC7
import Derived.Test.YtpnlbmeeihbjaaaZWC9
import Derived.Test.YtpnlbmeeihbjaaaZWC16
import Derived.Test.YtpnlbmeeihbjaaaZWC22
import Derived.Test.YtpnlbmeeihbjaaaZWC27
import Derived.Deep.LoopGhost
section
set_option linter.unusedVariables false
set_option linter.unusedSimpArgs false
namespace Go.Proofs.Ytpnlbmeeihbjaaa.P
open Go.RowKit Go.Proofs.YtpnlbmeeihbjaaaW.PrintWords Go.Proofs.YtpnlbmeeihbjaaaW.PrintLast Go.Proofs.YtpnlbmeeihbjaaaW.PrintMore
attribute [local go_sem] max2_int min2_int max_two min_two max_three min_three max_four min_four
set_option linter.unusedVariables false
set_option linter.unusedSimpArgs false
def nameB (s : ByteArray) : Bool := ((List.range' 0 s.size).all fun j => nameC j ((s.get! j).toNat : Int)) && (!s.toList.isEmpty && decide ((s.size : Int) ≤ 64))
theorem nameC_high (pos : Nat) (c : Int) (h : 128 ≤ c) : nameC pos c = false := by
  unfold nameC btw
  rw [show decide (c ≤ 122) = false from decide_eq_false (by omega), show (c == 45) = false from by simp; omega, show (c == 95) = false from by simp; omega, show decide (c ≤ 57) = false from decide_eq_false (by omega)]
  simp
theorem nameL_eq (s : ByteArray) : ∀ (m pos : Nat), s.size - pos < m → nameL s m pos = some (((List.range' pos (s.size - pos)).all fun j => nameC j ((s.get! j).toNat : Int)) && (!s.toList.isEmpty && decide ((s.size : Int) ≤ 64))) := by
  intro m
  induction m with
  | zero => intro pos hm; omega
  | succ m ih =>
    intro pos hm
    unfold nameL
    by_cases c : pos < s.size
    · rw [if_pos c]
      obtain ⟨n, hn⟩ : ∃ n, s.size - pos = n + 1 := ⟨s.size - pos - 1, by omega⟩
      rw [hn, List.range'_succ, List.all_cons]
      have hg := getb_at c
      rcases Nat.lt_or_ge (s[pos]'c).toNat 128 with h | h
      · rw [decode_ascii s pos c h, hg]
        simp only
        cases hc : nameC pos (((s[pos]'c).toNat : Nat) : Int) with
        | true =>
          rw [if_pos rfl, ih (pos + 1) (by omega), show s.size - (pos + 1) = n by omega]
          simp
        | false => simp
      · obtain ⟨h1, _⟩ := decode_high s pos c h
        rw [nameC_high pos _ (by omega), hg, nameC_high pos _ (by omega)]
        simp
    · rw [if_neg c, show s.size - pos = 0 by omega]
      simp
theorem nameL_ok (s : ByteArray) : nameL s (s.size + 1) 0 = some (nameB s) := by
  rw [nameL_eq s (s.size + 1) 0 (by omega)]
  rfl
def actE (f : Nat → Option S40) (next : Int) (a : S52) : Int :=
  if a.f0 = 0 then insE f next a.f1 a.f2 (nameB a.f4) (ch f a.f1).length
  else if a.f0 = 1 then remE f a.f1
  else if a.f0 = 2 then movE f a.f1 a.f2 a.f3 (decide (a.f1 ∈ ch f a.f2)) (ch f a.f2).length (talD f a.f1)
  else if a.f0 = 3 then setE f a.f1 a.f4 a.f5 (nameB a.f4)
  else if a.f0 = 4 then drpE f a.f1 a.f4
  else 0
def actF (f : Nat → Option S40) (next : Int) (a : S52) : Nat → Option S40 :=
  if actE f next a ≠ 0 then f
  else if a.f0 = 0 then insF f next a.f1 a.f2.toNat a.f4
  else if a.f0 = 1 then remF f a.f1 ((look f a.f1).getD z40).f2 (belR f a.f1)
  else if a.f0 = 2 then movF f a.f1 ((look f a.f1).getD z40).f2 a.f2 a.f3.toNat
  else if a.f0 = 3 then setF f a.f1 a.f4 a.f5
  else if a.f0 = 4 then drpF f a.f1 a.f4
  else f
def actN (f : Nat → Option S40) (next : Int) (a : S52) : Int := if a.f0 = 0 ∧ actE f next a = 0 then next + 1 else next
section
variable {f : Nat → Option S40} {next : Int}
theorem insE_zero {p i : Int} {nm : Bool} {dep : Int} (he : insE f next p i nm dep = 0) : ∃ y, look f p = some y ∧ 0 ≤ i ∧ i ≤ y.f3.length ∧ nm = true ∧ next < 1048576 ∧ dep < 512 := by
  unfold insE at he
  cases e : look f p with
  | none => rw [e] at he; cases he
  | some y =>
    rw [e] at he
    simp only at he
    split at he
    · cases he
    · rename_i h1
      split at he
      · cases he
      · rename_i h2
        split at he
        · cases he
        · rename_i h3
          exact ⟨y, rfl, by omega, by omega, by simpa using h2, by omega, by omega⟩
theorem remE_zero {id : Int} (he : remE f id = 0) : ∃ x, look f id = some x ∧ id ≠ 1 := by
  unfold remE at he
  cases e : look f id with
  | none => rw [e] at he; cases he
  | some x =>
    rw [e] at he
    simp only at he
    split at he
    · cases he
    · rename_i h1; exact ⟨x, rfl, h1⟩
theorem movE_zero {id q i : Int} {wt : Bool} {dep tl : Int} (he : movE f id q i wt dep tl = 0) : ∃ x z, look f id = some x ∧ look f q = some z ∧ id ≠ 1 ∧ wt = false ∧ 0 ≤ i ∧ i ≤ movK x z q ∧ wrap64 (dep + tl) ≤ 512 := by
  unfold movE at he
  cases e : look f id with
  | none => rw [e] at he; cases he
  | some x =>
    cases e2 : look f q with
    | none => rw [e, e2] at he; cases he
    | some z =>
      rw [e, e2] at he
      simp only at he
      split at he
      · cases he
      · rename_i h1
        split at he
        · cases he
        · rename_i h2
          split at he
          · cases he
          · rename_i h3
            have h1' : ¬ (id = 1) ∧ ¬ (wt = true) := by
              constructor
              · intro c; exact h1 (.inl c)
              · intro c; exact h1 (.inr c)
            exact ⟨x, z, rfl, rfl, h1'.1, by simpa using h1'.2, by omega, by omega, by omega⟩
theorem setE_zero {id : Int} {s v : ByteArray} {nm : Bool} (he : setE f id s v nm = 0) : ∃ x, look f id = some x ∧ nm = true ∧ v.size ≤ 1000 ∧ (hasA x.f4 s = true ∨ x.f4.length < 16) := by
  unfold setE at he
  cases e : look f id with
  | none => rw [e] at he; cases he
  | some x =>
    rw [e] at he
    simp only at he
    split at he
    · cases he
    · rename_i h1
      split at he
      · cases he
      · rename_i h2
        split at he
        · cases he
        · rename_i h3
          refine ⟨x, rfl, by simpa using h1, by omega, ?_⟩
          cases hh : hasA x.f4 s with
          | true => exact .inl rfl
          | false => exact .inr (by rcases Nat.lt_or_ge x.f4.length 16 with h4 | h4; exact h4; exact absurd ⟨hh, h4⟩ h3)
theorem drpE_zero {id : Int} {s : ByteArray} (he : drpE f id s = 0) : ∃ x, look f id = some x ∧ hasA x.f4 s = true := by
  unfold drpE at he
  cases e : look f id with
  | none => rw [e] at he; cases he
  | some x =>
    rw [e] at he
    simp only at he
    split at he
    · cases he
    · rename_i h1; exact ⟨x, rfl, by simpa using h1⟩
theorem movK_eq {x z : S40} {q : Int} (hl : z.f3.length ≤ 1048576) (hm : x.f2 = q → 1 ≤ z.f3.length) : movK x z q = if x.f2 = q then (z.f3.length : Int) - 1 else z.f3.length := by
  unfold movK
  split
  · rename_i e
    have := hm e
    unfold wrap64; omega
  · rfl
theorem lose_len {l : List Int} {id : Int} (hn : l.Nodup) (hm : id ∈ l) : (l.filter fun k => !(k == id)).length + 1 = l.length := by
  have e : (l.filter fun k => !(k == id)) = l.erase id := by
    rw [List.Nodup.erase_eq_filter hn]; rfl
  rw [e, List.length_erase_of_mem hm]
  have : 0 < l.length := List.length_pos_of_mem hm
  omega
theorem good_act (h : Good f next) (a : S52) : Good (actF f next a) (actN f next a) := by
  unfold actF actN
  by_cases he : actE f next a = 0
  · rw [if_neg (by simpa using he)]
    by_cases k0 : a.f0 = 0
    · rw [if_pos k0, if_pos ⟨k0, he⟩]
      unfold actE at he
      rw [if_pos k0] at he
      obtain ⟨y, hy, _, _, _, h1, h2⟩ := insE_zero he
      exact good_ins h hy h1 (by omega) _ _
    · rw [if_neg k0, show (if a.f0 = 0 ∧ actE f next a = 0 then next + 1 else next) = next from if_neg (fun c => k0 c.1)]
      unfold actE at he
      rw [if_neg k0] at he
      by_cases k1 : a.f0 = 1
      · rw [if_pos k1] at he ⊢
        obtain ⟨x, hx, h1⟩ := remE_zero he
        obtain ⟨p, hp, _⟩ := h.parent hx h1
        rw [hx]
        exact good_rem h hx h1 hp
      · rw [if_neg k1] at he ⊢
        by_cases k2 : a.f0 = 2
        · rw [if_pos k2] at he ⊢
          obtain ⟨x, z, hx, hz, h1, h2, _, _, h3⟩ := movE_zero he
          obtain ⟨p, hp, _⟩ := h.parent hx h1
          obtain ⟨t1, t2, t3, _⟩ := tal_eq h hx
          have hq := ch_le h a.f2
          rw [show wrap64 (((ch f a.f2).length : Int) + talD f a.f1) = (ch f a.f2).length + talD f a.f1 by unfold wrap64; omega] at h3
          rw [hx]
          exact good_mov h hx h1 hp hz (by simpa using h2) _ (fun c hc => by have := t1 c hc; omega)
        · rw [if_neg k2] at he ⊢
          by_cases k3 : a.f0 = 3
          · rw [if_pos k3] at he ⊢
            obtain ⟨x, hx, _, _, h1⟩ := setE_zero he
            exact good_set h hx _ _ h1
          · rw [if_neg k3] at he ⊢
            by_cases k4 : a.f0 = 4
            · rw [if_pos k4] at he ⊢
              obtain ⟨x, hx, _⟩ := drpE_zero he
              exact good_drp h hx _
            · rw [if_neg k4]; exact h
  · rw [if_pos he, show (if a.f0 = 0 ∧ actE f next a = 0 then next + 1 else next) = next from if_neg (fun c => he c.2)]
    exact h
theorem Good.sizes (h : Good f next) (k : Int) : ((look f k).getD z40).f3.length ≤ 1099511627776 ∧ ((look f k).getD z40).f4.length ≤ 1099511627776 := by
  cases e : look f k with
  | none => exact ⟨by show 0 ≤ _; omega, by show 0 ≤ _; omega⟩
  | some x =>
    have h1 := h.kids_le e
    have h2 := (h.att k x e).2
    exact ⟨by show x.f3.length ≤ _; omega, by show x.f4.length ≤ _; omega⟩
theorem Good.mono (h : Good f next) (k : Int) (s : ByteArray) : MonoA ((look f k).getD z40).f4 s := by
  cases e : look f k with
  | none => intro a b _ hb; exact absurd hb (by show ¬ b < 0; omega)
  | some x => exact (h.att k x e).1.mono s
end
end Go.Proofs.Ytpnlbmeeihbjaaa.P
end
section
set_option linter.unusedVariables false
set_option linter.unusedSimpArgs false
namespace Go.Proofs.Ytpnlbmeeihbjaaa.P
open Go.RowKit Go.Proofs.YtpnlbmeeihbjaaaW.PrintWords Go.Proofs.YtpnlbmeeihbjaaaW.PrintLast Go.Proofs.YtpnlbmeeihbjaaaW.PrintMore
attribute [local go_sem] max2_int min2_int max_two min_two max_three min_three max_four min_four
set_option linter.unusedVariables false
set_option linter.unusedSimpArgs false
def Num (f : Nat → Option S40) : Prop := ∀ k x, look f k = some x → x.f0 = k
def lst (f : Nat → Option S40) (n : Nat) : List S40 := (List.range n).filterMap fun j : Nat => look f (j : Int)
theorem lst_zero (f : Nat → Option S40) : lst f 0 = [] := by unfold lst; rw [List.range_zero]; rfl
def idxR (L : List S40) (id : Int) : Int := match L.findIdx? (fun n => n.f0 == id) with
  | some i => (i : Int)
  | none => -1
theorem lst_succ (f : Nat → Option S40) (n : Nat) : lst f (n + 1) = lst f n ++ (match look f (n : Int) with | some x => [x] | none => []) := by
  unfold lst
  rw [List.range_succ, List.filterMap_append]
  cases e : look f (n : Int) <;> simp [e]
theorem lst_mem (f : Nat → Option S40) (n : Nat) (x : S40) : x ∈ lst f n ↔ ∃ j : Nat, j < n ∧ look f (j : Int) = some x := by
  unfold lst
  simp [List.mem_filterMap]
theorem lst_f0 {f : Nat → Option S40} (h : Num f) (n : Nat) : (lst f n).Pairwise (fun a b => a.f0 < b.f0) := by
  induction n with
  | zero => exact List.Pairwise.nil
  | succ n ih =>
    rw [lst_succ]
    refine List.pairwise_append.2 ⟨ih, ?_, fun a ha b hb => ?_⟩
    · split <;> simp
    · obtain ⟨j, hj, hx⟩ := (lst_mem f n a).1 ha
      have h1 := h _ a hx
      cases e : look f (n : Int) with
      | none => rw [e] at hb; cases hb
      | some x =>
        rw [e] at hb
        rw [List.mem_singleton.1 hb, h _ x e]
        omega
theorem idx_at {f : Nat → Option S40} (h : Num f) {n : Nat} {id : Int} {x : S40} (hx : look f id = some x) (h0 : 0 ≤ id) (h1 : id < n) : ∃ i : Nat, ∃ hi : i < (lst f n).length, (lst f n)[i] = x ∧ idxR (lst f n) id = (i : Int) := by
  have hm : x ∈ lst f n := (lst_mem f n x).2 ⟨id.toNat, by omega, by rw [show ((id.toNat : Nat) : Int) = id by omega]; exact hx⟩
  obtain ⟨i, hi, e⟩ := List.getElem_of_mem hm
  refine ⟨i, hi, e, ?_⟩
  have hp := lst_f0 h n
  have hf : (lst f n).findIdx? (fun m => m.f0 == id) = some i := by
    rw [List.findIdx?_eq_some_iff_getElem]
    refine ⟨hi, by rw [e, h id x hx]; simp, fun j hj => ?_⟩
    have := List.pairwise_iff_getElem.1 hp j i (by omega) hi hj
    rw [e, h id x hx] at this
    simp; omega
  unfold idxR
  rw [hf]
theorem idx_no {f : Nat → Option S40} (h : Num f) {n : Nat} {id : Int} (hx : look f id = none) : idxR (lst f n) id = -1 := by
  have hf : (lst f n).findIdx? (fun m => m.f0 == id) = none := by
    rw [List.findIdx?_eq_none_iff]
    intro y hy
    obtain ⟨j, hj, e⟩ := (lst_mem f n y).1 hy
    have := h _ y e
    simp
    intro e2
    rw [this] at e2
    rw [← e2, e] at hx; cases hx
  unfold idxR
  rw [hf]
theorem lst_same {f g : Nat → Option S40} (n : Nat) (h : ∀ j : Nat, j < n → look f (j : Int) = look g (j : Int)) : lst f n = lst g n := by
  induction n with
  | zero => rw [lst_zero, lst_zero]
  | succ n ih => rw [lst_succ, lst_succ, ih (fun j hj => h j (by omega)), h n (by omega)]
theorem lst_put {f : Nat → Option S40} (h : Num f) {n : Nat} (hn : n ≤ 1048576) {id : Int} {x x' : S40} (hx : look f id = some x) (h0 : 0 ≤ id) (h1 : id < n) {i : Nat} (hi : idxR (lst f n) id = (i : Int)) :
    lst (putF f id (some x')) n = (lst f n).set i x' := by
  have hl : ∀ j, look (putF f id (some x')) j = if j = id then some x' else look f j := fun j => look_put _ _ _ _ h0 (by omega)
  have key : ∀ m : Nat, lst (putF f id (some x')) m = (lst f m).map (fun y => if y.f0 = id then x' else y) := by
    intro m
    induction m with
    | zero => rw [lst_zero, lst_zero, List.map_nil]
    | succ m ih =>
      rw [lst_succ, lst_succ, ih, List.map_append, hl]
      refine congrArg (fun z => (lst f m).map (fun y => if y.f0 = id then x' else y) ++ z) ?_
      by_cases c : (m : Int) = id
      · rw [if_pos c, c, hx]
        show [x'] = [if x.f0 = id then x' else x]
        rw [if_pos (h id x hx)]
      · rw [if_neg c]
        cases e : look f (m : Int) with
        | none => rfl
        | some y =>
          show [y] = [if y.f0 = id then x' else y]
          rw [if_neg (by rw [h _ y e]; exact c)]
  rw [key]
  obtain ⟨i', hi', e', hx'⟩ := idx_at h hx h0 h1
  have : i' = i := by have h2 := hx'.symm.trans hi; omega
  subst this
  have hp := lst_f0 h n
  apply List.ext_getElem (by simp)
  intro j a b
  rw [List.getElem_map, List.getElem_set]
  by_cases c : i' = j
  · subst c
    rw [if_pos rfl, if_pos (by rw [e', h id x hx])]
  · rw [if_neg c, if_neg]
    intro e
    rw [List.length_map] at a
    rcases Nat.lt_or_gt_of_ne c with c2 | c2
    · have := List.pairwise_iff_getElem.1 hp i' j hi' a c2
      rw [e', h id x hx, e] at this; omega
    · have := List.pairwise_iff_getElem.1 hp j i' a hi' c2
      rw [e', h id x hx, e] at this; omega
theorem num_put {f : Nat → Option S40} (h : Num f) {id : Int} {x' : S40} (h0 : 0 ≤ id) (h1 : id < 1048576) (hx : x'.f0 = id) : Num (putF f id (some x')) := by
  intro k y hy
  rw [look_put _ _ _ _ h0 h1] at hy
  split at hy
  · rename_i e; rw [e, ← Option.some.inj hy]; exact hx
  · exact h k y hy
theorem lst_len (f : Nat → Option S40) (n : Nat) : (lst f n).length ≤ n := by
  induction n with
  | zero => exact Nat.le_refl _
  | succ n ih => rw [lst_succ, List.length_append]; split <;> simp <;> omega
theorem Good.numf {f : Nat → Option S40} {next : Int} (h : Good f next) : Num f := h.num
end Go.Proofs.Ytpnlbmeeihbjaaa.P
end
section
set_option linter.unusedVariables false
set_option linter.unusedSimpArgs false
namespace Go.Proofs.Ytpnlbmeeihbjaaa.P
open Go.RowKit Go.Proofs.YtpnlbmeeihbjaaaW.PrintWords Go.Proofs.YtpnlbmeeihbjaaaW.PrintLast Go.Proofs.YtpnlbmeeihbjaaaW.PrintMore
attribute [local go_sem] max2_int min2_int max_two min_two max_three min_three max_four min_four
set_option linter.unusedVariables false
set_option linter.unusedSimpArgs false
def RDoc (w : World) (v : Value) (L : List S40) (next : Int) : Prop := ∃ b A c, v = .pointer (some ⟨b, 0, none⟩) ∧ w.heap[b]? = some (.cells #[.slice A L.length c, .int .i64 next] 104 (0, 0)) ∧ L.length ≤ c ∧ Kd.C k40 w A L.length L
theorem RDoc.below {w w1 : World} {v : Value} {L : List S40} {next : Int} (h : RDoc w v L next) (hb : Below w.heap.size w w1) : RDoc w1 v L next := by
  obtain ⟨b, A, c, e, hh, hc, hC⟩ := h
  exact ⟨b, A, c, e, blk_below hh hb, hc, Kd.C_below hC hb⟩
theorem idxR_at {L : List S40} {id : Int} (i : Nat) (hi : i < L.length) (he : (rd_T40 L (i : Nat)).f0 = id) (hn : ∀ j : Nat, j < i → (rd_T40 L (j : Nat)).f0 ≠ id) : idxR L id = (i : Int) := by
  have hr : ∀ j (hj : j < L.length), rd_T40 L (j : Nat) = L[j] := fun j hj => by unfold rd_T40; simp [List.getD_eq_getElem?_getD, List.getElem?_eq_getElem hj]
  have hf : L.findIdx? (fun m => m.f0 == id) = some i := by
    rw [List.findIdx?_eq_some_iff_getElem]
    refine ⟨hi, by rw [← hr i hi, he]; simp, fun j hj => ?_⟩
    have := hn j hj
    rw [hr j (by omega)] at this
    simpa using this
  unfold idxR
  rw [hf]
theorem idxR_none {L : List S40} {id : Int} (hn : ∀ j : Nat, j < L.length → (rd_T40 L (j : Nat)).f0 ≠ id) : idxR L id = -1 := by
  have hr : ∀ j (hj : j < L.length), rd_T40 L (j : Nat) = L[j] := fun j hj => by unfold rd_T40; simp [List.getD_eq_getElem?_getD, List.getElem?_eq_getElem hj]
  have hf : L.findIdx? (fun m => m.f0 == id) = none := by
    rw [List.findIdx?_eq_none_iff]
    intro y hy
    obtain ⟨j, hj, e⟩ := List.getElem_of_mem hy
    have := hn j hj
    rw [hr j hj, e] at this
    simpa using this
  unfold idxR
  rw [hf]
set_option maxHeartbeats 16000000 in
set_option maxRecDepth 100000 in
theorem at_calls (v : Value) (L : List S40) (next id : Int) (w : World) (h : RDoc w v L next) :
    Calls Try.prog 73 #[v, .int .i64 id] w fun e w' => e = .returned (.int .i64 (idxR L id)) ∧ Below w.heap.size w w' := by
  obtain ⟨b, A, c, rfl, hb, hc, hC⟩ := h
  have HB0 := Aside0.mk hb
  have HC := Aside0.mk hC
  have hu104 := Try.underlying104
  have hu102 := Try.underlying102
  have hu40 := Try.underlying40
  have a0 := (blk_cell hb 0).trans (show _ = some _ from rfl)
  have hlb : L.length ≤ 9223372036854775807 := hC.2.1
  obtain ⟨R, hR⟩ : ∃ R, R = idxR L id := ⟨_, rfl⟩
  rw [← hR]
  have HR := Aside0.mk hR
  clear hb hC hR
  go_enter Try.func73, Try.ntmps73
  go_wp2_with fail
  go_loopg [12] (L.length + 1) (fun kq v12 w' => ∃ (i : Nat), v12 = .int .i64 i ∧ Aside0 (i + kq = L.length + 1) ∧ Aside0 (i ≤ L.length) ∧ Aside0 (∀ j : Nat, j < i → (rd_T40 L (j : Nat)).f0 ≠ id) ∧ Aside0 (Below w.heap.size w w'))
  case atStart => exact ⟨0, rfl, ⟨by omega⟩, ⟨Nat.zero_le _⟩, ⟨fun j hj => absurd hj (Nat.not_lt_zero _)⟩, ⟨Below.refl _ _⟩⟩
  case round =>
    obtain ⟨i, rfl, HK, HI, HN, HB⟩ := hrel
    cases gk with
    | zero => exact absurd HK.out (by have := HI.out; omega)
    | succ g0 =>
      by_cases c0 : i < L.length
      · obtain ⟨ad, A3, c3, A4, c4, rfl, k0, k1, k2, k3, k4, _, _, _, _⟩ := at_T40 (Kd.C_below HC.out HB.out) (i : Int) (by omega) (by omega)
        rw [Int.toNat_natCast] at k0 k1 k2 k3 k4
        have HX : Aside0 (∀ x, rd_T40 L (i : Nat) = x → x.f0 = id → R = (i : Int)) := ⟨fun x hx he => by rw [HR.out]; exact idxR_at i c0 (by rw [hx]; exact he) HN.out⟩
        have HX2 : Aside0 (∀ x, rd_T40 L (i : Nat) = x → x.f0 ≠ id → ∀ j : Nat, j < i + 1 → (rd_T40 L (j : Nat)).f0 ≠ id) := ⟨fun x hx he j hj => by
          by_cases e : j = i
          · rw [e, hx]; exact he
          · exact HN.out j (by omega)⟩
        obtain ⟨x, hx⟩ : ∃ x, rd_T40 L (i : Nat) = x := ⟨_, rfl⟩
        rw [hx] at k0 k1 k2 k3 k4
        have HI0 := Aside0.mk c0
        have HXX := Aside0.mk hx
        have c1 : decide (i < L.length) = true := decide_eq_true c0
        have c2 : decide ((i : Int) < (L.length : Int)) = true := decide_eq_true (by omega)
        have z0 : (0 ≤ (i : Int)) = True := eq_true (by omega)
        have z1 : ((i : Int) < (L.length : Int)) = True := eq_true (by omega)
        have q0 := (blk_cell (blk_new wr (.cells #[.int .i64 x.f0, .string x.f1, .int .i64 x.f2, .slice A3 x.f3.length c3, .slice A4 x.f4.length c4] 40)) 0).trans (show _ = some (.int .i64 x.f0) from rfl)
        have HBA : Aside0 (Below w.heap.size w (wr.alloc (.cells #[.int .i64 x.f0, .string x.f1, .int .i64 x.f2, .slice A3 x.f3.length c3, .slice A4 x.f4.length c4] 40))) := ⟨below_alloc HB.out _⟩
        clear c0 hx
        by_cases e : x.f0 = id
        · have d0 : (x.f0 == id) = true := by simpa using e
          have HRI := Aside0.mk (HX.out x HXX.out e)
          clear e
          go_wp2_with fail
          go_ret
          exact ⟨by rw [HRI.out]; rfl, HBA.out⟩
        · have d0 : (x.f0 == id) = false := by simpa using e
          have HRI := Aside0.mk (HX2.out x HXX.out e)
          clear e
          go_wp2_with fail
          go_roundg g0
          case measure => have := HK.out; omega
          case rel => exact ⟨i + 1, (by have := HI0.out; congr 1; unfold wrap64; omega), ⟨by have := HK.out; omega⟩, ⟨HI0.out⟩, HRI, HBA⟩
      · have c1 : decide (i < L.length) = false := decide_eq_false c0
        have c2 : decide ((i : Int) < (L.length : Int)) = false := decide_eq_false (by omega)
        have HRI : Aside0 (R = -1) := ⟨by rw [HR.out]; exact idxR_none (fun j hj => HN.out j (by omega))⟩
        clear c0
        go_wp2_with fail
        go_ret
        exact ⟨by rw [HRI.out]; rfl, HB.out⟩
end Go.Proofs.Ytpnlbmeeihbjaaa.P
end
section
set_option linter.unusedVariables false
set_option linter.unusedSimpArgs false
namespace Go.Proofs.Ytpnlbmeeihbjaaa.P
open Go.RowKit Go.Proofs.YtpnlbmeeihbjaaaW.PrintWords Go.Proofs.YtpnlbmeeihbjaaaW.PrintLast Go.Proofs.YtpnlbmeeihbjaaaW.PrintMore
attribute [local go_sem] max2_int min2_int max_two min_two max_three min_three max_four min_four
set_option linter.unusedVariables false
set_option linter.unusedSimpArgs false
set_option maxHeartbeats 16000000 in
set_option maxRecDepth 100000 in
theorem rnode_calls (v : Value) (f : Nat → Option S40) (next n : Int) (w : World) (h : RDoc w v (lst f next.toNat) next) (hg : Good f next) :
    Calls Try.prog 38 #[v, .int .i64 n] w (CopyPost w (look f n)) := by
  have HRD := Aside0.mk h
  have HSZ := Aside0.mk (hg.sizes n)
  have hlo := hg.lo
  have hhi := hg.hi
  have hu40 := Try.underlying40
  have hu104 := Try.underlying104
  have hu102 := Try.underlying102
  have hu29 := Try.underlying29
  have hu38 := Try.underlying38
  obtain ⟨L, hL⟩ : ∃ L, L = lst f next.toNat := ⟨_, rfl⟩
  have HIDX : Aside0 ((look f n = none ∧ idxR L n = -1) ∨ ∃ y, look f n = some y ∧ ∃ i : Nat, i < L.length ∧ rd_T40 L (i : Nat) = y ∧ idxR L n = (i : Int)) := ⟨by
    rw [hL]
    cases e : look f n with
    | none => exact .inl ⟨rfl, idx_no hg.numf e⟩
    | some y =>
      have := hg.dom n y e
      obtain ⟨i, hi, e1, e2⟩ := idx_at hg.numf e (n := next.toNat) (by omega) (by omega)
      exact .inr ⟨y, rfl, i, hi, by unfold rd_T40; simp [List.getD_eq_getElem?_getD, List.getElem?_eq_getElem hi, e1], e2⟩⟩
  rw [← hL] at h HRD
  clear hg hL
  obtain ⟨b, A, c, rfl, hb, hc, hC⟩ := h
  have HB := Aside0.mk hb
  have HC := Aside0.mk hC
  have hlb : L.length ≤ 9223372036854775807 := hC.2.1
  clear hb hC
  have HG0 : Aside0 ((w.alloc (.cells #[.int .i64 0, .string ⟨#[]⟩, .int .i64 0, .slice none 0 0, .slice none 0 0] 40)).heap[w.heap.size]? = some (.cells #[.int .i64 0, .string ⟨#[]⟩, .int .i64 0, .slice none 0 0, .slice none 0 0] 40 (0, 0))) := ⟨blk_new _ _⟩
  have HB0 : Aside0 (Below w.heap.size w (w.alloc (.cells #[.int .i64 0, .string ⟨#[]⟩, .int .i64 0, .slice none 0 0, .slice none 0 0] 40))) := ⟨below_alloc (Below.refl _ _) _⟩
  rcases HIDX.out with ⟨hno, hi⟩ | ⟨y, hy, i, hil, hrd, hi⟩
  · have HNO := Aside0.mk hno
    have HII := Aside0.mk hi
    rw [hno]
    clear hno hi
    go_enter Try.func38, Try.ntmps38
    go_wp2_with fail
    generalize w.alloc (.cells #[.int .i64 0, .string ⟨#[]⟩, .int .i64 0, .slice none 0 0, .slice none 0 0] 40) = W0 at HG0 HB0 ⊢
    refine (at_calls _ L next n W0 (HRD.out.below HB0.out)).mono ?_
    rintro e W1 ⟨rfl, hb1⟩
    rw [HII.out]
    have HB1 := Aside0.mk (below_then HB0.out HB0.out.size hb1)
    have HG1 := Aside0.mk (blk_below HG0.out hb1)
    have a0 := (blk_cell HG1.out 0).trans (show _ = some _ from rfl)
    have y0 := blk_frozen HG1.out 0
    have a1 := (blk_cell HG1.out 1).trans (show _ = some _ from rfl)
    have y1 := blk_frozen HG1.out 1
    have a2 := (blk_cell HG1.out 2).trans (show _ = some _ from rfl)
    have y2 := blk_frozen HG1.out 2
    have a3 := (blk_cell HG1.out 3).trans (show _ = some _ from rfl)
    have y3 := blk_frozen HG1.out 3
    have a4 := (blk_cell HG1.out 4).trans (show _ = some _ from rfl)
    have y4 := blk_frozen HG1.out 4
    clear hb1
    go_wp2_with fail
    refine bodyPost_ret (results_ct rfl _ _ (w.heap.size) 40 #[.int .i64 0, .string ⟨#[]⟩, .int .i64 0, .slice none 0 0, .slice none 0 0] (0, 0) _ rfl (by
      refine blk_put (cs := #[.int .i64 0, .string ⟨#[]⟩, .int .i64 0, .slice none 0 0, .slice none 0 0]) ?_ 4 _ rfl
      refine blk_put (cs := #[.int .i64 0, .string ⟨#[]⟩, .int .i64 0, .slice none 0 0, .slice none 0 0]) ?_ 3 _ rfl
      refine blk_put (cs := #[.int .i64 0, .string ⟨#[]⟩, .int .i64 0, .slice none 0 0, .slice none 0 0]) ?_ 2 _ rfl
      refine blk_put (cs := #[.int .i64 0, .string ⟨#[]⟩, .int .i64 0, .slice none 0 0, .slice none 0 0]) ?_ 1 _ rfl
      refine blk_put (cs := #[.int .i64 0, .string ⟨#[]⟩, .int .i64 0, .slice none 0 0, .slice none 0 0]) ?_ 0 _ rfl
      exact HG1.out) hu40 rfl (by kernel_rfl)) rfl ?_
    exact ⟨_, rfl, k40_mkM _ _ _ z40 (v3 := .slice none 0 0) (v4 := .slice none 0 0) (Kd.R_nil _ _ _ _ _) (Kd.R_nil _ _ _ _ _), (below_set (below_set (below_set (below_set (below_set HB1.out (by omega)) (by omega)) (by omega)) (by omega)) (by omega))⟩
  · have HII := Aside0.mk hi
    rw [hy]
    obtain ⟨ad, A3, c3, A4, c4, rfl, k0, k1, k2, k3, k4, l3, g3, l4, g4⟩ := at_T40 HC.out (i : Int) (by omega) (by omega)
    rw [Int.toNat_natCast] at k0 k1 k2 k3 k4
    rw [hrd] at k0 k1 k2 k3 k4 l3 g3 l4 g4
    rw [hy] at HSZ
    have HS2 : Aside0 (y.f3.length ≤ 1099511627776 ∧ y.f4.length ≤ 1099511627776) := ⟨HSZ.out⟩
    have HCC := Aside0.mk (And.intro l3 (And.intro g3 (And.intro l4 g4)))
    have HKK := Aside0.mk (And.intro k0 (And.intro k1 (And.intro k2 (And.intro k3 k4))))
    have d0 : decide ((i : Int) < 0) = false := decide_eq_false (by omega)
    have z0 : (0 ≤ (i : Int)) = True := eq_true (by omega)
    have z1 : ((i : Int) < (L.length : Int)) = True := eq_true (by omega)
    clear hi hy hil hrd l3 g3 l4 g4 k0 k1 k2 k3 k4 HIDX HSZ
    go_enter Try.func38, Try.ntmps38
    go_wp2_with fail
    generalize w.alloc (.cells #[.int .i64 0, .string ⟨#[]⟩, .int .i64 0, .slice none 0 0, .slice none 0 0] 40) = W0 at HG0 HB0 ⊢
    refine (at_calls _ L next n W0 (HRD.out.below HB0.out)).mono ?_
    rintro e W1 ⟨rfl, hb1⟩
    rw [HII.out]
    have HB1 := Aside0.mk (below_then HB0.out HB0.out.size hb1)
    have HG1 := Aside0.mk (blk_below HG0.out hb1)
    have s0 := (blk_cell (blk_below HB.out HB1.out) 0).trans (show _ = some _ from rfl)
    have k0 := pw_cell_below HB1.out HKK.out.1
    have k1 := pw_cell_below HB1.out HKK.out.2.1
    have k2 := pw_cell_below HB1.out HKK.out.2.2.1
    have k3 := pw_cell_below HB1.out HKK.out.2.2.2.1
    have k4 := pw_cell_below HB1.out HKK.out.2.2.2.2
    clear hb1 HB0 HG0
    go_upto_region 5 with (fail)
    have HG2 : Aside0 ((W1.alloc (.cells #[.int .i64 y.f0, .string y.f1, .int .i64 y.f2, .slice A3 y.f3.length c3, .slice A4 y.f4.length c4] 40)).heap[W1.heap.size]? = some (.cells #[.int .i64 y.f0, .string y.f1, .int .i64 y.f2, .slice A3 y.f3.length c3, .slice A4 y.f4.length c4] 40 (0, 0))) := ⟨blk_new _ _⟩
    have HG4 : Aside0 ((W1.alloc (.cells #[.int .i64 y.f0, .string y.f1, .int .i64 y.f2, .slice A3 y.f3.length c3, .slice A4 y.f4.length c4] 40)).heap[w.heap.size]? = some (.cells #[.int .i64 0, .string ⟨#[]⟩, .int .i64 0, .slice none 0 0, .slice none 0 0] 40 (0, 0))) := ⟨blk_alloc HG1.out _⟩
    have HB2 : Aside0 (Below w.heap.size w (W1.alloc (.cells #[.int .i64 y.f0, .string y.f1, .int .i64 y.f2, .slice A3 y.f3.length c3, .slice A4 y.f4.length c4] 40))) := ⟨below_alloc HB1.out _⟩
    have HS3 : Aside0 (w.heap.size < W1.heap.size) := ⟨blk_lt HG1.out⟩
    obtain ⟨g6, hg6⟩ : ∃ g, g = W1.heap.size := ⟨_, rfl⟩
    rw [← hg6] at HG2 HS3 ⊢
    generalize W1.alloc (.cells #[.int .i64 y.f0, .string y.f1, .int .i64 y.f2, .slice A3 y.f3.length c3, .slice A4 y.f4.length c4] 40) = W2 at HG2 HG4 HB2 ⊢
    clear hg6 s0 k0 k1 k2 k3 k4 z0 z1 d0
    have q3 := (blk_cell HG2.out 3).trans (show _ = some _ from rfl)
    have HW3 : Aside0 (Kd.C (Kd.int .i64) W2 A3 y.f3.length y.f3) := ⟨Kd.C_below HCC.out.2.1 HB2.out⟩
    go_upto_region 6 with (first
      | ((with_reducible refine gate_dst (N := 21) rfl ?_); refine Kd.R_lit (Kd.int .i64) _ 3 ?hg (N := 21) ?hd (xs := ([] : List Int)) (inner := []) (ok := fun _ => True) (okp := fun _ => True) ?hr ?hp (fun _ hk => hk) trivial (Below.refl _ _) (Nat.le_refl _) (by simp) ?_; (case hd => rfl); (case hg => rfl); (case hr => first | (go_simp; done) | (go_simp; rfl)); (case hp => exact ⟨rfl, fun j p hj => by simp at hj⟩); intro v5 w5 hR hb5 hg5 hown; have HR5 := Aside0.mk hR; have HB5 := Aside0.mk hb5; have q35 := pw_cell_below hb5 q3; clear hR hb5 hg5 hown)
      | ((with_reducible refine gate_builtin (b := .append) rfl ?_); at_builtin; refine Kd.R_append_row (w0 := W2) (Value.int .i64) (0 : Int) (h1 := fun _ => rfl) W2.heap.size rfl (.tmp 21) (.tmp 23) 29 3 (.int .i64 0) 8 rfl Try.underlying29 info3 rfl (by decide) v5 [] y.f3 A3 y.f3.length c3 (fun _ => True) rfl rfl (fun _ _ => trivial) HR5.out (Kd.C_below HW3.out HB5.out) HB5.out HB5.out.size (by have := HS2.out.1; simp; omega) ?_; intro v7 w7 hR hb7 _ _; obtain ⟨B3, d3, rfl⟩ := Kd.R_slice hR; have HR7 := Aside0.mk hR; have HB7 := Aside0.mk hb7; have q37 := pw_cell_below hb7 q3; have q37f := blk_frozen (blk_below HG2.out hb7) 3; clear hR hb7)
      | (fail))
    have hlt := HS3.out
    have HGX : Aside0 ((w7.setCell ⟨g6, 3, none⟩ (.slice B3 y.f3.length d3)).heap[g6]? = some (.cells #[.int .i64 y.f0, .string y.f1, .int .i64 y.f2, .slice B3 y.f3.length d3, .slice A4 y.f4.length c4] 40 (0, 0))) := ⟨blk_put (cs := #[.int .i64 y.f0, .string y.f1, .int .i64 y.f2, .slice A3 y.f3.length c3, .slice A4 y.f4.length c4]) (blk_below HG2.out HB7.out) 3 _ rfl⟩
    have HGZ : Aside0 ((w7.setCell ⟨g6, 3, none⟩ (.slice B3 y.f3.length d3)).heap[w.heap.size]? = some (.cells #[.int .i64 0, .string ⟨#[]⟩, .int .i64 0, .slice none 0 0, .slice none 0 0] 40 (0, 0))) := ⟨blk_far (blk_below HG4.out HB7.out) (Nat.ne_of_lt hlt) _⟩
    have HBX : Aside0 (Below w.heap.size w (w7.setCell ⟨g6, 3, none⟩ (.slice B3 y.f3.length d3))) := ⟨below_set (below_then HB2.out HB2.out.size HB7.out) (Nat.le_of_lt hlt)⟩
    have HRX : Aside0 (Kd.R (Kd.int .i64) 3 (w7.setCell ⟨g6, 3, none⟩ (.slice B3 y.f3.length d3)) w.heap.size (fun _ => True) (.slice B3 y.f3.length d3) y.f3) := ⟨Kd.R_set (Kd.R_lower HR7.out HB2.out.size) (blk_below HG2.out HB7.out) (by decide) 3 _⟩
    clear HR7 HR5 HB5 HB7 q3 q35 q37 q37f HG2 HG4 hlt
    generalize w7.setCell ⟨g6, 3, none⟩ (.slice B3 y.f3.length d3) = W8 at HGX HGZ HBX HRX ⊢
    have q4 := (blk_cell HGX.out 4).trans (show _ = some _ from rfl)
    have HW4 : Aside0 (Kd.C k70 W8 A4 y.f4.length y.f4) := ⟨Kd.C_below HCC.out.2.2.2 HBX.out⟩
    go_upto_region 7 with (first
      | ((with_reducible refine gate_dst (N := 26) rfl ?_); refine Kd.R_lit k70 _ 70 ?hg (N := 26) ?hd (xs := ([] : List S70)) (inner := []) (ok := fun _ => True) (okp := fun _ => True) ?hr ?hp (fun _ hk => hk) trivial (Below.refl _ _) (Nat.le_refl _) (by simp) ?_; (case hd => rfl); (case hg => rfl); (case hr => first | (go_simp; done) | (go_simp; rfl)); (case hp => exact ⟨rfl, fun j p hj => by simp at hj⟩); intro v9 w9 hR hb9 hg9 hown; have HR9 := Aside0.mk hR; have HB9 := Aside0.mk hb9; have q49 := pw_cell_below hb9 q4; clear hR hb9 hg9 hown)
      | ((with_reducible refine gate_builtin (b := .append) rfl ?_); at_builtin; refine Kd.R_append_rows k70 (w0 := W8) W8.heap.size rfl (.tmp 26) (.tmp 28) 38 70 (.agg #[(.string ⟨#[]⟩), (.string ⟨#[]⟩)]) 32 rfl Try.underlying38 info70_ rfl (by decide) (by decide) v9 [] y.f4 A4 y.f4.length c4 (fun _ => True) (fun _ => False) rfl rfl HR9.out (Kd.C_below HW4.out HB9.out) (fun x cs h => k70_M h) (fun _ h => h.elim) (fun _ _ => trivial) HB9.out HB9.out.size (by have := HS2.out.2; simp; omega) ?_; intro va wa hR hba _ _; obtain ⟨B4, d4, rfl⟩ := Kd.R_slice hR; have HRA := Aside0.mk hR; have HBA := Aside0.mk hba; have q4a := pw_cell_below hba q4; have q4f := blk_frozen (blk_below HGX.out hba) 4; clear hR hba)
      | (fail))
    have hlt := HS3.out
    have hg6 : (wa.setCell ⟨g6, 4, none⟩ (.slice B4 y.f4.length d4)).heap[g6]? = some (.cells #[.int .i64 y.f0, .string y.f1, .int .i64 y.f2, .slice B3 y.f3.length d3, .slice B4 y.f4.length d4] 40 (0, 0)) := blk_put (cs := #[.int .i64 y.f0, .string y.f1, .int .i64 y.f2, .slice B3 y.f3.length d3, .slice A4 y.f4.length c4]) (blk_below HGX.out HBA.out) 4 _ rfl
    have hg4 : (wa.setCell ⟨g6, 4, none⟩ (.slice B4 y.f4.length d4)).heap[w.heap.size]? = some (.cells #[.int .i64 0, .string ⟨#[]⟩, .int .i64 0, .slice none 0 0, .slice none 0 0] 40 (0, 0)) := blk_far (blk_below HGZ.out HBA.out) (Nat.ne_of_lt hlt) _
    have HB5' : Aside0 (Below w.heap.size w (wa.setCell ⟨g6, 4, none⟩ (.slice B4 y.f4.length d4))) := ⟨below_set (below_then HBX.out HBX.out.size HBA.out) (Nat.le_of_lt hlt)⟩
    have HM : Aside0 (k40.M (wa.setCell ⟨g6, 4, none⟩ (.slice B4 y.f4.length d4)) w.heap.size (fun _ => True) y [.int .i64 y.f0, .string y.f1, .int .i64 y.f2, .slice B3 y.f3.length d3, .slice B4 y.f4.length d4]) := ⟨k40_mkM _ _ _ y (Kd.R_set (Kd.R_below HRX.out HBA.out) (blk_below HGX.out HBA.out) (by decide) 4 _) (Kd.R_set (Kd.R_lower HRA.out HBX.out.size) (blk_below HGX.out HBA.out) (by decide) 4 _)⟩
    have HG4' := Aside0.mk hg4
    clear HRA HR9 HB9 HBA q4 q49 q4a q4f HGX HGZ HRX hlt
    generalize wa.setCell ⟨g6, 4, none⟩ (.slice B4 y.f4.length d4) = W5 at hg6 hg4 HM HG4' HB5' ⊢
    have b0 := (blk_cell hg6 0).trans (show _ = some _ from rfl)
    have a0 := (blk_cell hg4 0).trans (show _ = some _ from rfl)
    have y0 := blk_frozen hg4 0
    have b1 := (blk_cell hg6 1).trans (show _ = some _ from rfl)
    have a1 := (blk_cell hg4 1).trans (show _ = some _ from rfl)
    have y1 := blk_frozen hg4 1
    have b2 := (blk_cell hg6 2).trans (show _ = some _ from rfl)
    have a2 := (blk_cell hg4 2).trans (show _ = some _ from rfl)
    have y2 := blk_frozen hg4 2
    have b3 := (blk_cell hg6 3).trans (show _ = some _ from rfl)
    have a3 := (blk_cell hg4 3).trans (show _ = some _ from rfl)
    have y3 := blk_frozen hg4 3
    have b4 := (blk_cell hg6 4).trans (show _ = some _ from rfl)
    have a4 := (blk_cell hg4 4).trans (show _ = some _ from rfl)
    have y4 := blk_frozen hg4 4
    clear hg6 hg4
    go_wp2_with fail
    refine bodyPost_ret (results_ct rfl _ _ (w.heap.size) 40 #[.int .i64 y.f0, .string y.f1, .int .i64 y.f2, .slice B3 y.f3.length d3, .slice B4 y.f4.length d4] (0, 0) _ rfl (by
      refine blk_put (cs := #[.int .i64 y.f0, .string y.f1, .int .i64 y.f2, .slice B3 y.f3.length d3, .slice none 0 0]) ?_ 4 _ rfl
      refine blk_put (cs := #[.int .i64 y.f0, .string y.f1, .int .i64 y.f2, .slice none 0 0, .slice none 0 0]) ?_ 3 _ rfl
      refine blk_put (cs := #[.int .i64 y.f0, .string y.f1, .int .i64 0, .slice none 0 0, .slice none 0 0]) ?_ 2 _ rfl
      refine blk_put (cs := #[.int .i64 y.f0, .string ⟨#[]⟩, .int .i64 0, .slice none 0 0, .slice none 0 0]) ?_ 1 _ rfl
      refine blk_put (cs := #[.int .i64 0, .string ⟨#[]⟩, .int .i64 0, .slice none 0 0, .slice none 0 0]) ?_ 0 _ rfl
      exact HG4'.out) hu40 rfl (by kernel_rfl)) rfl ?_
    exact ⟨_, rfl, (k40.M_mono (fun _ _ => trivial) (Kd.M_step (Kd.M_types HM.out HG4'.out k40_types) (fun k hk _ => set5_other _ _ _ _ _ _ _ k hk.2))), (below_set (below_set (below_set (below_set (below_set HB5'.out (by omega)) (by omega)) (by omega)) (by omega)) (by omega))⟩
end Go.Proofs.Ytpnlbmeeihbjaaa.P
end
section
set_option linter.unusedVariables false
set_option linter.unusedSimpArgs false
namespace Go.Proofs.Ytpnlbmeeihbjaaa.P
open Go.RowKit Go.Proofs.YtpnlbmeeihbjaaaW.PrintWords Go.Proofs.YtpnlbmeeihbjaaaW.PrintLast Go.Proofs.YtpnlbmeeihbjaaaW.PrintMore
attribute [local go_sem] max2_int min2_int max_two min_two max_three min_three max_four min_four
set_option linter.unusedVariables false
set_option linter.unusedSimpArgs false
section
variable {f : Nat → Option S40} {next : Int}
def Act3 (ok : Nat → Prop) (w : World) (v : Value) (F : Nat → Option S40) (N I E : Int) : Ending → World → Prop := fun e w' =>
  ∃ v', e = .returned (.tuple #[v', .int .i64 I, .int .i64 E]) ∧ DocO ok w' v' F N ∧ Below w.heap.size w w' ∧ (E ≠ 0 → v' = v)
def Act2 (ok : Nat → Prop) (w : World) (v : Value) (F : Nat → Option S40) (N E : Int) : Ending → World → Prop := fun e w' =>
  ∃ v', e = .returned (.tuple #[v', .int .i64 E]) ∧ DocO ok w' v' F N ∧ Below w.heap.size w w' ∧ (E ≠ 0 → v' = v)
theorem ins_act (ok : Nat → Prop) (v : Value) (p i : Int) (tag : ByteArray) (w : World) (hfresh : ∀ k, w.heap.size ≤ k → ok k) (h : DocO ok w v f next) (hg : Good f next) (E : Int) (hE : E = insE f next p i (nameB tag) (ch f p).length) :
    Calls Try.prog 32 #[v, .int .i64 p, .int .i64 i, .string tag] w (Act3 ok w v (if E ≠ 0 then f else insF f next p i.toNat tag) (if E = 0 then next + 1 else next) (if E = 0 then next else 0) E) := by
  by_cases he : E = 0
  · have he' := he
    rw [hE] at he'
    obtain ⟨y, hy, h1, h2, h3, h4, h5⟩ := insE_zero he'
    have h := ins_O ok (tag.size + 1) 600 v f next p i.toNat tag (ch f p).length y w hfresh h (by rw [nameL_ok, h3]) (depL_eq hg p) hy (by omega) (by have := hg.sizes p; rw [hy] at this; exact this) h4 h5
    rw [show ((i.toNat : Nat) : Int) = i by omega] at h
    refine h.mono ?_
    rintro e w' ⟨v', rfl, hd, hb⟩
    have hlo := hg.lo
    rw [show wrap64 (next + 1) = next + 1 by unfold wrap64; omega] at hd
    subst he
    exact ⟨v', by rw [if_pos rfl], by rw [if_neg (by simp), if_pos rfl]; exact hd, hb, fun c => absurd rfl c⟩
  · have h2 := ins_no (tag.size + 1) 600 v f next p i tag (nameB tag) (ch f p).length w h.doc (nameL_ok tag) (depL_eq hg p) (by rw [← hE]; exact he)
    rw [← hE] at h2
    refine h2.mono ?_
    rintro e w' ⟨rfl, hb⟩
    exact ⟨v, by rw [if_neg he], by rw [if_pos he, if_neg he]; exact h.below hb, hb, fun _ => rfl⟩
theorem rem_act (ok : Nat → Prop) (v : Value) (id : Int) (w : World) (hfresh : ∀ k, w.heap.size ≤ k → ok k) (h : DocO ok w v f next) (hg : Good f next) (E : Int) (hE : E = remE f id) :
    Calls Try.prog 33 #[v, .int .i64 id] w (Act2 ok w v (if E ≠ 0 then f else remF f id ((look f id).getD z40).f2 (belR f id)) next E) := by
  by_cases he : E = 0
  · have he' := he
    rw [hE] at he'
    obtain ⟨x, hx, h1⟩ := remE_zero he'
    obtain ⟨hr, _, _⟩ := belR_eq hg hx
    have hlen := belR_len hg hx
    refine (rem_O ok 1048577 v f next id x (belR f id) w hfresh h hx h1 hr (by omega) (hg.sizes _)).mono ?_
    rintro e w' ⟨v', rfl, hd, hb⟩
    subst he
    rw [hx]
    exact ⟨v', rfl, by rw [if_neg (by simp)]; exact hd, hb, fun c => absurd rfl c⟩
  · have h2 := rem_no v f next id w h.doc (by rw [← hE]; exact he)
    rw [← hE] at h2
    refine h2.mono ?_
    rintro e w' ⟨rfl, hb⟩
    exact ⟨v, rfl, by rw [if_pos he]; exact h.below hb, hb, fun _ => rfl⟩
theorem belL_none (id : Int) (h : look f id = none) (n : Nat) : belL f (n + 2) [id] 0 = some [id] := by
  unfold belL
  rw [if_pos (by simp)]
  unfold belL
  have e : ((look f ([id].getD 0 0)).getD z40).f3 = [] := by show ((look f id).getD z40).f3 = []; rw [h]; rfl
  rw [e]; rfl
theorem tall_act (v : Value) (id : Int) (w : World) (h : DocF w v f next) (hg : Good f next) : ∀ W : World, Below w.heap.size w W → Calls Try.prog 60 #[v, .int .i64 id] W fun e w' => e = .returned (.int .i64 (talD f id)) ∧ Below W.heap.size W w' := by
  have hd : ∀ k, (depL f 600 (look f k) 0).isSome = true := fun k => by rw [depL_eq hg k]; rfl
  cases hx : look f id with
  | none =>
    have hb : belL f 1048577 [id] 0 = some [id] := belL_none id hx 1048575
    have e : belR f id = [id] := by unfold belR; rw [hb]; rfl
    unfold talD
    rw [e]
    exact fun W hW => tall_calls 1048577 600 v f next id [id] W (h.below hW) hb (by show 1 ≤ _; omega) (fun k _ => hd k)
  | some x =>
    obtain ⟨hr, _, _⟩ := belR_eq hg hx
    have hlen := belR_len hg hx
    exact fun W hW => tall_calls 1048577 600 v f next id (belR f id) W (h.below hW) hr (by omega) (fun k _ => hd k)
theorem mov_act (ok : Nat → Prop) (v : Value) (id q i : Int) (w : World) (hfresh : ∀ k, w.heap.size ≤ k → ok k) (h : DocO ok w v f next) (hg : Good f next) (E : Int) (hE : E = movE f id q i (decide (id ∈ ch f q)) (ch f q).length (talD f id)) :
    Calls Try.prog 34 #[v, .int .i64 id, .int .i64 q, .int .i64 i] w (Act2 ok w v (if E ≠ 0 then f else movF f id ((look f id).getD z40).f2 q i.toNat) next E) := by
  by_cases he : E = 0
  · have he' := he
    rw [hE] at he'
    obtain ⟨x, z, hx, hz, h1, h2, h3, h4, h5⟩ := movE_zero he'
    obtain ⟨p, hp, hm, _⟩ := hg.parent hx h1
    have hmd : Good f next := hg
    have dq := hg.dom _ z hz
    have dp := hg.dom _ p hp
    have di := hg.dom _ x hx
    have hhi := hg.hi
    have hzl := hg.kids_le hz
    have hpl := hg.kids_le hp
    have hkk := movK_eq (x := x) (q := q) hzl (fun e => by
      rw [e, hz] at hp
      obtain rfl := Option.some.inj hp
      exact List.length_pos_of_mem hm)
    have l1 : ∀ j, look (movF1 f id x.f2) j = if j = x.f2 then some (loseA id p) else look f j := fun j => by
      unfold movF1; rw [look_put _ _ _ _ (by omega) (by omega), hp]; rfl
    have e1 : (look (movF1 f id x.f2) q).getD z40 = if x.f2 = q then loseA id z else z := by
      rw [l1]
      by_cases e : x.f2 = q
      · rw [if_pos e.symm, if_pos e]
        rw [e, hz] at hp
        rw [Option.some.inj hp]; rfl
      · rw [if_neg (Ne.symm e), if_neg e, hz]; rfl
    have hqi : q ≠ id := fun e => by
      have := ch_self hg hx
      rw [e] at h2
      rw [decide_eq_true this] at h2; cases h2
    obtain ⟨_, _, _, _, hne⟩ := hg.parent hx h1
    have l2 : ∀ j, look (movF2 f id x.f2 q i.toNat) j = if j = q then some (gainA i.toNat id (if x.f2 = q then loseA id z else z)) else look (movF1 f id x.f2) j := fun j => by
      unfold movF2; rw [look_put _ _ _ _ (by omega) (by omega), e1]
    have e2 : (look (movF2 f id x.f2 q i.toNat) id).getD z40 = x := by
      rw [l2, if_neg (Ne.symm hqi), l1, if_neg (Ne.symm hne), hx]; rfl
    have sx := hg.sizes id
    have sz := hg.sizes q
    rw [hx] at sx
    rw [hz] at sz
    have hlose : x.f2 = q → (loseA id z).f3.length + 1 = z.f3.length := fun e => by
      rw [e, hz] at hp
      obtain rfl := Option.some.inj hp
      exact lose_len (hg.nodup q z hz) hm
    have hmv := mov_O ok 600 v f next id q i.toNat (ch f q).length (talD f id) x z w hfresh h (by rw [witL_eq hg, h2]) (depL_eq hg q) (tall_act v id w h.doc hg) hx hz h1 (by omega) (by omega) (hg.sizes _)
      (by
        rw [e1]
        split
        · rename_i e; have := hlose e; exact ⟨by omega, sz.2⟩
        · exact sz)
      (by
        rw [e1]
        rw [hkk] at h4
        split
        · rename_i e; have := hlose e; rw [if_pos e] at h4; omega
        · rename_i e; rw [if_neg e] at h4; omega)
      (by rw [e2]; exact sx)
    rw [show ((i.toNat : Nat) : Int) = i by omega] at hmv
    refine hmv.mono ?_
    rintro e w' ⟨v', rfl, hd, hb⟩
    subst he
    rw [hx]
    exact ⟨v', rfl, by rw [if_neg (by simp)]; exact hd, hb, fun c => absurd rfl c⟩
  · have h2 := mov_no 600 v f next id q i (decide (id ∈ ch f q)) (ch f q).length (talD f id) w h.doc (witL_eq hg id q) (depL_eq hg q) (tall_act v id w h.doc hg) (by rw [← hE]; exact he)
    rw [← hE] at h2
    refine h2.mono ?_
    rintro e w' ⟨rfl, hb⟩
    exact ⟨v, rfl, by rw [if_pos he]; exact h.below hb, hb, fun _ => rfl⟩
theorem act2_of {ok : Nat → Prop} {w : World} {v : Value} {E : Int} {F : Nat → Option S40} {fn : Nat} {args : Array Value} (h : DocO ok w v f next) (hc : Calls Try.prog fn args w (ActPost ok w v E F next)) : Calls Try.prog fn args w (Act2 ok w v (if E ≠ 0 then f else F) next E) := by
  refine hc.mono ?_
  rintro e w' ⟨hb, ⟨he, rfl⟩ | ⟨he, v', rfl, hd⟩⟩
  · exact ⟨v, rfl, by rw [if_pos he]; exact h.below hb, hb, fun _ => rfl⟩
  · subst he
    exact ⟨v', rfl, by rw [if_neg (by simp)]; exact hd, hb, fun c => absurd rfl c⟩
theorem set_act (ok : Nat → Prop) (v : Value) (id : Int) (s t : ByteArray) (w : World) (hfresh : ∀ k, w.heap.size ≤ k → ok k) (h : DocO ok w v f next) (hg : Good f next) (ht : t.size ≤ 140737488355332) (E : Int) (hE : E = setE f id s t (nameB s)) :
    Calls Try.prog 35 #[v, .int .i64 id, .string s, .string t] w (Act2 ok w v (if E ≠ 0 then f else setF f id s t) next E) := by
  rw [hE]
  exact act2_of h (set_calls ok (s.size + 1) v f next id s t (nameB s) w hfresh h (nameL_ok s) (hg.sizes id) (hg.mono id s) ht)
theorem drp_act (ok : Nat → Prop) (v : Value) (id : Int) (s : ByteArray) (w : World) (hfresh : ∀ k, w.heap.size ≤ k → ok k) (h : DocO ok w v f next) (hg : Good f next) (E : Int) (hE : E = drpE f id s) :
    Calls Try.prog 36 #[v, .int .i64 id, .string s] w (Act2 ok w v (if E ≠ 0 then f else drpF f id s) next E) := by
  rw [hE]
  exact act2_of h (drp_calls ok v f next id s w hfresh h (hg.sizes id) (hg.mono id s))
end
end Go.Proofs.Ytpnlbmeeihbjaaa.P
end
section
set_option linter.unusedVariables false
set_option linter.unusedSimpArgs false
namespace Go.Proofs.Ytpnlbmeeihbjaaa.P
open Go.RowKit Go.Proofs.YtpnlbmeeihbjaaaW.PrintWords Go.Proofs.YtpnlbmeeihbjaaaW.PrintLast Go.Proofs.YtpnlbmeeihbjaaaW.PrintMore
attribute [local go_sem] max2_int min2_int max_two min_two max_three min_three max_four min_four
set_option linter.unusedVariables false
set_option linter.unusedSimpArgs false
theorem idxI_lt (l : List Int) (k : Int) : -1 ≤ idxI l k ∧ idxI l k < l.length := by
  unfold idxI
  split
  · rename_i h
    have := List.idxOf_lt_length_iff.2 h
    omega
  · omega
theorem rd_at (l : List Int) (i : Nat) (h : i < l.length) : rd l (i : Int) = l[i] := by
  unfold rd
  simp [h]
theorem drop_idx (l : List Int) (k : Int) (i : Nat) (h : i < l.length) (hn : k ∉ l.take i) : idxI l k = if l[i] = k then (i : Int) else if k ∈ l.drop (i + 1) then idxI l k else -1 := by
  have e : l = l.take i ++ l[i] :: l.drop (i + 1) := by rw [← List.drop_eq_getElem_cons h, List.take_append_drop]
  split
  · rename_i c
    have hm : k ∈ l := by rw [← c]; exact List.getElem_mem h
    rw [idxI_mem hm]
    have : l.idxOf k = i := by
      conv => lhs; rw [e]
      rw [List.idxOf_append, if_neg hn, c, idxOf_same, List.length_take]
      omega
    omega
  · rename_i c
    split
    · rfl
    · rename_i c2
      refine idxI_no (fun hm => ?_)
      rw [e] at hm
      rcases List.mem_append.1 hm with h1 | h1
      · exact hn h1
      · rcases List.mem_cons.1 h1 with h2 | h2
        · exact c h2.symm
        · exact c2 h2
theorem index_from (l : List Int) (k : Int) (hl : l.length ≤ 9223372036854775807) : ∀ (d i : Nat), i + d = l.length → k ∉ l.take i → slices_Index_int_int.l0 (d + 1) l k (l.length : Int) (i : Int) = some (idxI l k)
  | 0, i, h, hn => by
    unfold slices_Index_int_int.l0
    rw [if_neg (by omega)]
    rw [show i = l.length by omega, List.take_length] at hn
    rw [idxI_no hn]
  | d + 1, i, h, hn => by
    unfold slices_Index_int_int.l0
    rw [if_pos (by omega), if_pos (by omega), if_pos (by omega), rd_at l i (by omega)]
    by_cases c : k = l[i]'(by omega)
    · rw [if_pos c, drop_idx l k i (by omega) hn, if_pos c.symm]
    · rw [if_neg c, show wrap64 ((i : Int) + 1) = ((i + 1 : Nat) : Int) by unfold wrap64; omega]
      refine index_from l k hl d (i + 1) (by omega) (fun hm => ?_)
      rw [List.take_succ_eq_append_getElem (by omega)] at hm
      rcases List.mem_append.1 hm with h1 | h1
      · exact hn h1
      · exact c (List.mem_singleton.1 h1)
theorem index_eq (l : List Int) (k : Int) (hl : l.length ≤ 9223372036854775807) : slices_Index_int_int.f (l.length + 1) l k = some (idxI l k) := by
  unfold slices_Index_int_int.f
  exact index_from l k hl l.length 0 (by omega) (by simp)
theorem at_from (l : List Int) (k : Int) (hl : l.length ≤ 9223372036854775807) : ∀ (d i : Nat), i + d = l.length → k ∉ l.take i → gouacheref08_at.l0 (d + 1) k l (l.length : Int) (i : Int) = some (idxI l k)
  | 0, i, h, hn => by
    unfold gouacheref08_at.l0
    rw [if_neg (by omega)]
    rw [show i = l.length by omega, List.take_length] at hn
    rw [idxI_no hn]
  | d + 1, i, h, hn => by
    unfold gouacheref08_at.l0
    rw [if_pos (by omega), if_pos (by omega), if_pos (by omega), rd_at l i (by omega)]
    by_cases c : l[i]'(by omega) = k
    · rw [if_pos c, drop_idx l k i (by omega) hn, if_pos c]
    · rw [if_neg c, show wrap64 ((i : Int) + 1) = ((i + 1 : Nat) : Int) by unfold wrap64; omega]
      refine at_from l k hl d (i + 1) (by omega) (fun hm => ?_)
      rw [List.take_succ_eq_append_getElem (by omega)] at hm
      rcases List.mem_append.1 hm with h1 | h1
      · exact hn h1
      · exact c (List.mem_singleton.1 h1).symm
theorem at_eq (l : List Int) (k : Int) (hl : l.length ≤ 9223372036854775807) : gouacheref08_at.f (l.length + 1) l k = some (idxI l k) := by
  unfold gouacheref08_at.f
  exact at_from l k hl l.length 0 (by omega) (by simp)
def RdI (w : World) (u : Value) (l : List Int) : Prop := ∃ A c, u = .slice A l.length c ∧ l.length ≤ c ∧ Kd.C (Kd.int .i64) w A l.length l
theorem RdI.below {w w1 : World} {u : Value} {l : List Int} (h : RdI w u l) (hb : Below w.heap.size w w1) : RdI w1 u l := by
  obtain ⟨A, c, rfl, hc, hC⟩ := h
  exact ⟨A, c, rfl, hc, Kd.C_below hC hb⟩
theorem RdI.of_R {w : World} {base : Nat} {ok : Nat → Prop} {u : Value} {l : List Int} (h : Kd.R (Kd.int .i64) 3 w base ok u l) : RdI w u l := by
  obtain ⟨A, c, rfl, hc, hC⟩ := Kd.R_reads h
  exact ⟨A, c, rfl, hc, hC⟩
theorem index_calls (u : Value) (l : List Int) (k : Int) (w : World) (h : RdI w u l) (hl : l.length ≤ 9223372036854775807) : Calls Try.prog 78 #[u, .int .i64 k] w fun e w' => e = .returned (.int .i64 (idxI l k)) ∧ Below w.heap.size w w' := by
  obtain ⟨A, c, rfl, hc, hC⟩ := h
  refine (slices_Index_int_int.calls _ A c l k _ w hC hc (index_eq l k hl)).mono ?_
  rintro e w' ⟨rfl, hd⟩
  exact ⟨rfl, by obtain ⟨m, rfl⟩ := hd; exact pw_below_drewN (Below.refl _ _) _⟩
set_option maxHeartbeats 8000000 in
set_option maxRecDepth 100000 in
theorem row_calls (v : Value) (f : Nat → Option S40) (next id : Int) (w : World) (h : DocF w v f next) (hg : Good f next) :
    Calls Try.prog 44 #[v, .int .i64 id] w fun e w' => ∃ u, e = .returned (.tuple #[u, .int .i64 (idxI (rowR f id) id)]) ∧ RdI w' u (rowR f id) ∧ Below w.heap.size w w' := by
  have HD := Aside0.mk h
  have HG := Aside0.mk hg
  obtain ⟨b, t, rfl, _, _⟩ := h
  have hu40 := Try.underlying40
  have hu29 := Try.underlying29
  cases hl : look f id with
  | none =>
    have HL := Aside0.mk hl
    rw [idx_none hl, rowR_none hl]
    clear hg hl
    go_enter Try.func44, Try.ntmps44
    go_wp2_with (first | (go_at_call 20; refine (copy_calls _ f next id w w HD.out (Below.refl _ _) (HG.out.sizes id).1 (HG.out.sizes id).2).mono ?_; rintro e W2 ⟨cs, rfl, hM, hb2⟩; rw [HL.out] at hM ⊢; obtain ⟨A3, c3, A4, c4, rfl⟩ := k40_cellsM (x := z40) hM; have HB2 := Aside0.mk (below_alloc hb2 (.cells #[.int .i64 z40.f0, .string z40.f1, .int .i64 z40.f2, .slice A3 z40.f3.length c3, .slice A4 z40.f4.length c4] 40)); clear hM hb2) | fail)
    go_ret2
    exact ⟨_, rfl, ⟨none, 0, rfl, Nat.le_refl _, Kd.C_nil _ _⟩, HB2.out⟩
  | some x =>
    have HL := Aside0.mk hl
    have HRL := Aside0.mk (rowR_len hg id)
    cases hp : look f x.f2 with
    | none =>
      have HP := Aside0.mk hp
      have hr : rowR f id = [id] := by unfold rowR; rw [hl]; simp only [hp]
      rw [hr]
      clear hg hl hp hr
      go_enter Try.func44, Try.ntmps44
      go_wp2_with (first
        | (go_at_call 20; (with_reducible refine (copy_calls _ f next id w w HD.out (Below.refl _ _) (HG.out.sizes id).1 (HG.out.sizes id).2).mono ?_); rintro e W2 ⟨cs, rfl, hM, hb2⟩; rw [HL.out] at hM ⊢; obtain ⟨A3, c3, A4, c4, rfl⟩ := k40_cellsM (x := x) hM; have HB2 := Aside0.mk (below_alloc hb2 (.cells #[.int .i64 x.f0, .string x.f1, .int .i64 x.f2, .slice A3 x.f3.length c3, .slice A4 x.f4.length c4] 40)); clear hM hb2)
        | (go_at_call 20; refine (copy_calls _ f next x.f2 w _ HD.out (below_alloc HB2.out _) (HG.out.sizes x.f2).1 (HG.out.sizes x.f2).2).mono ?_; rintro e W3 ⟨cs, rfl, hM, hb3⟩; rw [HP.out] at hM ⊢; obtain ⟨B3, d3, B4, d4, rfl⟩ := k40_cellsM (x := z40) hM; have HB23 := Aside0.mk hb3; have HB3 := Aside0.mk (below_alloc (below_then (below_alloc HB2.out _) (below_alloc HB2.out _).size hb3) (.cells #[.int .i64 z40.f0, .string z40.f1, .int .i64 z40.f2, .slice B3 z40.f3.length d3, .slice B4 z40.f4.length d4] 40)); clear hM hb3)
        | fail)
      have hq := blk_new (W2.alloc (.cells #[.int .i64 x.f0, .string x.f1, .int .i64 x.f2, .slice A3 x.f3.length c3, .slice A4 x.f4.length c4] 40)) (.cells #[.int .i64 id] 3)
      rw [World.size_alloc] at hq
      have hq3 := blk_below (blk_below hq HB23.out) (below_alloc (Below.refl _ W3) (.cells #[.int .i64 z40.f0, .string z40.f1, .int .i64 z40.f2, .slice B3 z40.f3.length d3, .slice B4 z40.f4.length d4] 40))
      have HQ := Aside0.mk (RdI.of_R (own_laid (xs := [id]) (n := 1) (cap := 1) (base := 0) (Nat.zero_le _) hq3 rfl (Nat.le_refl _) (show 1 ≤ maxLen by decide) rfl rfl (fun _ => True) trivial))
      clear hq hq3
      refine (index_calls _ [id] id _ HQ.out (by simp)).mono ?_
      rintro e W4 ⟨rfl, hb4⟩
      have HB4 := Aside0.mk hb4
      clear hb4
      go_wp2_with fail
      go_ret2
      exact ⟨_, rfl, HQ.out.below HB4.out, below_then HB3.out HB3.out.size HB4.out⟩
    | some p =>
      have HP := Aside0.mk hp
      have hr : rowR f id = p.f3 := by unfold rowR; rw [hl]; simp only [hp]
      rw [hr] at HRL ⊢
      clear hg hl hp hr
      go_enter Try.func44, Try.ntmps44
      go_wp2_with (first
        | (go_at_call 20; (with_reducible refine (copy_calls _ f next id w w HD.out (Below.refl _ _) (HG.out.sizes id).1 (HG.out.sizes id).2).mono ?_); rintro e W2 ⟨cs, rfl, hM, hb2⟩; rw [HL.out] at hM ⊢; obtain ⟨A3, c3, A4, c4, rfl⟩ := k40_cellsM (x := x) hM; have HB2 := Aside0.mk (below_alloc hb2 (.cells #[.int .i64 x.f0, .string x.f1, .int .i64 x.f2, .slice A3 x.f3.length c3, .slice A4 x.f4.length c4] 40)); clear hM hb2)
        | (go_at_call 20; refine (copy_calls _ f next x.f2 w _ HD.out (below_alloc HB2.out _) (HG.out.sizes x.f2).1 (HG.out.sizes x.f2).2).mono ?_; rintro e W3 ⟨cs, rfl, hM, hb3⟩; rw [HP.out] at hM ⊢; obtain ⟨v3, vv4, hcs, hR3, hR4⟩ := k40_openM hM; obtain ⟨cs⟩ := cs; simp only at hcs; obtain ⟨B3, d3, rfl, hd3, hC3⟩ := Kd.R_reads hR3; obtain ⟨B4, d4, rfl, _, _⟩ := Kd.R_reads hR4; subst hcs; have HB23 := Aside0.mk hb3; have HC3 := Aside0.mk (show RdI W3 (.slice B3 p.f3.length d3) p.f3 from ⟨B3, d3, rfl, hd3, hC3⟩); have HB3 := Aside0.mk (below_alloc (below_then (below_alloc HB2.out _) (below_alloc HB2.out _).size hb3) (.cells #[.int .i64 p.f0, .string p.f1, .int .i64 p.f2, .slice B3 p.f3.length d3, .slice B4 p.f4.length d4] 40)); clear hM hb3 hR3 hR4 hC3 hd3)
        | fail)
      have HQ := Aside0.mk (HC3.out.below (below_alloc (Below.refl _ W3) (.cells #[.int .i64 p.f0, .string p.f1, .int .i64 p.f2, .slice B3 p.f3.length d3, .slice B4 p.f4.length d4] 40)))
      refine (index_calls _ p.f3 id _ HQ.out (by have := HRL.out; omega)).mono ?_
      rintro e W4 ⟨rfl, hb4⟩
      have HB4 := Aside0.mk hb4
      clear hb4
      go_wp2_with fail
      go_ret2
      exact ⟨_, rfl, HQ.out.below HB4.out, below_then HB3.out HB3.out.size HB4.out⟩
def plc1 (f : Nat → Option S40) (k : Int) : Int := if idxI (rowR f k) k < 0 then 0 else idxI (rowR f k) k + 1
def plc2 (f : Nat → Option S40) (k : Int) : Int := if idxI (rowR f k) k < 0 then 0 else (rowR f k).length - idxI (rowR f k) k
set_option maxHeartbeats 8000000 in
set_option maxRecDepth 100000 in
theorem place_calls (v : Value) (f : Nat → Option S40) (next id : Int) (w : World) (h : DocF w v f next) (hg : Good f next) :
    Calls Try.prog 22 #[v, .int .i64 id] w fun e w' => e = .returned (.tuple #[.int .i64 (plc1 f id), .int .i64 (plc2 f id)]) ∧ Below w.heap.size w w' := by
  have HC := Aside0.mk (row_calls v f next id w h hg)
  have hln := rowR_len hg id
  have hlt := idxI_lt (rowR f id) id
  unfold plc1 plc2
  obtain ⟨b, t, rfl, _, _⟩ := h
  obtain ⟨l, hl⟩ : ∃ l, l = rowR f id := ⟨_, rfl⟩
  rw [← hl] at HC hln hlt ⊢
  obtain ⟨i, hi⟩ : ∃ i, i = idxI l id := ⟨_, rfl⟩
  rw [← hi] at HC hlt ⊢
  clear hl hi hg
  by_cases c : i < 0
  · rw [if_pos c, if_pos c]
    have c1 : decide (i < 0) = true := decide_eq_true c
    clear c hln hlt
    go_enter Try.func22, Try.ntmps22
    go_wp2_with (first | (go_at_call 44; refine HC.out.mono ?_; rintro e W1 ⟨u, rfl, hR, hb⟩; have HB := Aside0.mk hb; obtain ⟨A, c, rfl, _, _⟩ := hR; clear hb) | fail)
    go_ret2
    exact ⟨rfl, HB.out⟩
  · rw [if_neg c, if_neg c]
    have c1 : decide (i < 0) = false := decide_eq_false c
    have e1 : wrap64 (i + 1) = i + 1 := by unfold wrap64; omega
    have e2 : wrap64 ((l.length : Int) - i) = (l.length : Int) - i := by unfold wrap64; omega
    have HE := Aside0.mk (And.intro e1 e2)
    clear c hln hlt e1 e2
    go_enter Try.func22, Try.ntmps22
    go_wp2_with (first | (go_at_call 44; refine HC.out.mono ?_; rintro e W1 ⟨u, rfl, hR, hb⟩; have HB := Aside0.mk hb; obtain ⟨A, c, rfl, _, _⟩ := hR; clear hb) | fail)
    go_ret2
    refine ⟨?_, HB.out⟩
    show Ending.returned (.tuple #[.int .i64 (wrap64 (i + 1)), .int .i64 (wrap64 ((l.length : Int) - i))]) = _
    rw [HE.out.1, HE.out.2]
end Go.Proofs.Ytpnlbmeeihbjaaa.P
end
section
set_option linter.unusedVariables false
set_option linter.unusedSimpArgs false
namespace Go.Proofs.Ytpnlbmeeihbjaaa.P
open Go.RowKit Go.Proofs.YtpnlbmeeihbjaaaW.PrintWords Go.Proofs.YtpnlbmeeihbjaaaW.PrintLast Go.Proofs.YtpnlbmeeihbjaaaW.PrintMore
attribute [local go_sem] max2_int min2_int max_two min_two max_three min_three max_four min_four
set_option linter.unusedVariables false
set_option linter.unusedSimpArgs false
section
variable {f : Nat → Option S40} {next : Int}
theorem up_none {k : Int} (hk : look f k = none) : upR f k = [] := by unfold upR; rw [ch_none k hk]; rfl
theorem up_stop (hg : Good f next) {k : Int} {x : S40} (hk : look f k = some x) (h2 : ¬ 0 < x.f2) : upR f k = [] := by
  by_cases e : k = 1
  · subst e
    obtain ⟨r, hr, hr0⟩ := hg.root
    rw [hk] at hr
    obtain rfl := Option.some.inj hr
    unfold upR
    rw [ch_step hg hk, hr0, ch_none 0 hg.zero]; rfl
  · obtain ⟨p, hp, _⟩ := hg.par k x hk e
    have := hg.dom _ p hp
    omega
theorem up_next (hg : Good f next) {k : Int} {x : S40} (hk : look f k = some x) (h2 : 0 < x.f2) : upR f k = x.f2 :: upR f x.f2 ∧ (ch f k).length = (ch f x.f2).length + 1 := by
  by_cases e : k = 1
  · subst e
    obtain ⟨r, hr, hr0⟩ := hg.root
    rw [hk] at hr
    obtain rfl := Option.some.inj hr
    omega
  · obtain ⟨p, hp, _⟩ := hg.par k x hk e
    refine ⟨?_, by rw [ch_step hg hk]; rfl⟩
    unfold upR
    rw [ch_step hg hk]
    show ch f x.f2 = _
    rw [ch_step hg hp]; rfl
theorem up_len (f : Nat → Option S40) (k : Int) : (upR f k).length = (ch f k).length - 1 := by unfold upR; simp
end
set_option maxHeartbeats 8000000 in
set_option maxRecDepth 100000 in
theorem up_calls (v : Value) (f : Nat → Option S40) (next id : Int) (w : World) (h : DocF w v f next) (hg : Good f next) :
    Calls Try.prog 16 #[v, .int .i64 id] w fun e w' => ∃ u, e = .returned u ∧ Kd.R (Kd.int .i64) 3 w' w.heap.size (fun _ => True) u (upR f id) ∧ Below w.heap.size w w' := by
  have HD := Aside0.mk h
  have HGD := Aside0.mk hg
  obtain ⟨b, t, rfl, _, _⟩ := h
  have hu40 := Try.underlying40
  have hu29 := Try.underlying29
  clear hg
  go_enter Try.func16, Try.ntmps16
  go_wp2_with fail
  refine (copy_calls _ f next id w w HD.out (Below.refl _ _) (HGD.out.sizes id).1 (HGD.out.sizes id).2).mono ?_
  rintro e W1 ⟨cs, rfl, hM, hb1⟩
  obtain ⟨A3, Ac3, A4, Ac4, rfl⟩ := k40_cellsM (x := (look f id).getD z40) hM
  obtain ⟨y, hy⟩ : ∃ y, y = (look f id).getD z40 := ⟨_, rfl⟩
  rw [← hy] at hM ⊢
  have HB1 := Aside0.mk hb1
  have HY := Aside0.mk hy
  clear hM hb1 hy
  go_wp2_with fail
  go_loopg [5, 6, 7] ((ch f id).length + 1) (fun kq v5 v6 v7 w' => ∃ (k : Int) (g : Nat) (l : List Int), v6 = .pointer (some ⟨g, 0, none⟩) ∧ v7 = .bool (look f k).isSome ∧ Aside0 (w.heap.size ≤ g) ∧ Aside0 (NBlk w' g ((look f k).getD z40)) ∧ Aside0 ((ch f k).length < kq) ∧ Aside0 (upR f id = l ++ upR f k) ∧ Aside0 (Kd.R (Kd.int .i64) 3 w' w.heap.size (fun j => j ≠ g) v5 l) ∧ Aside0 (Below w.heap.size w w') ∧ Aside0 (l.length + (ch f k).length ≤ 513))
  case atStart => exact ⟨id, W1.heap.size, [], rfl, rfl, ⟨HB1.out.size⟩, ⟨by rw [← HY.out]; exact ⟨_, _, _, _, blk_new _ _⟩⟩, ⟨by omega⟩, ⟨rfl⟩, ⟨Kd.R_nil _ _ _ _ _⟩, ⟨below_alloc HB1.out _⟩, ⟨by have := ch_le HGD.out id; simp; omega⟩⟩
  case round =>
    clear HY HB1
    obtain ⟨k, g, l, rfl, rfl, HG, HN, HK, HE, HR, HB, HLN⟩ := hrel
    cases gk with
    | zero => exact absurd HK.out (by omega)
    | succ n =>
      cases hl : look f k with
      | none =>
        have HL := Aside0.mk hl
        have hz : (none : Option S40).isSome = false := rfl
        clear hl
        go_wp2_with fail
        go_ret
        exact ⟨_, rfl, by rw [HE.out, up_none HL.out, List.append_nil]; exact Kd.R_mono HR.out (fun _ _ => trivial), HB.out⟩
      | some x =>
        have HL := Aside0.mk hl
        obtain ⟨B3, Bc3, B4, Bc4, hg⟩ := HN.out
        rw [hl] at hg
        have hg : wr.heap[g]? = some (.cells #[.int .i64 x.f0, .string x.f1, .int .i64 x.f2, .slice B3 x.f3.length Bc3, .slice B4 x.f4.length Bc4] 40 (0, 0)) := hg
        have hz : (some x).isSome = true := rfl
        have a2 := (blk_cell hg 2).trans (show _ = some (.int .i64 x.f2) from rfl)
        by_cases c : 0 < x.f2
        · have c1 : decide (0 < x.f2) = true := decide_eq_true c
          have HUN := Aside0.mk (up_next HGD.out hl c)
          have HC := Aside0.mk c
          have HG2 := Aside0.mk hg
          have HLT := Aside0.mk (blk_lt hg)
          clear hl hg c
          go_upto_region 6 with (first
            | ((with_reducible refine gate_builtin (b := .append) rfl ?_); at_builtin; refine Kd.R_append (Kd.int .i64) (w0 := w) w.heap.size rfl (.tmp 27) (.tmp 30) 29 3 (.int .i64 0) 8 rfl Try.underlying29 info3 rfl (by decide) (by decide) _ l x.f2 [.int .i64 x.f2] (fun j => j ≠ g) (fun _ => False) rfl rfl rfl (fun _ h => h.elim) (fun j hj => by have := HLT.out; omega) HR.out HB.out HB.out.size (by have := HLN.out; omega) ?_; intro v9 w9 hR hb9 hg9 _; have HR9 := Aside0.mk hR; have HB9 := Aside0.mk hb9; have HN9 := Aside0.mk ((hg9.block g HLT.out (fun e => HR.out.1 g e.symm rfl)).trans HG2.out); have HS9 := Aside0.mk hg9.size; clear hR hb9 hg9)
            | fail)
          have n0 := (blk_cell HN9.out 0).trans (show _ = some (.int .i64 x.f0) from rfl)
          have n1 := (blk_cell HN9.out 1).trans (show _ = some (.string x.f1) from rfl)
          have n2 := (blk_cell HN9.out 2).trans (show _ = some (.int .i64 x.f2) from rfl)
          have n3 := (blk_cell HN9.out 3).trans (show _ = some (.slice B3 x.f3.length Bc3) from rfl)
          have n4 := (blk_cell HN9.out 4).trans (show _ = some (.slice B4 x.f4.length Bc4) from rfl)
          clear a2
          go_wp2_with (first | (go_at_call 20; refine (copy_calls _ f next x.f2 w _ HD.out (below_alloc HB9.out _) (HGD.out.sizes x.f2).1 (HGD.out.sizes x.f2).2).mono ?_; rintro e W2 ⟨cs, rfl, hM, hb2⟩; obtain ⟨y, hy⟩ : ∃ y, y = (look f x.f2).getD z40 := ⟨_, rfl⟩; rw [← hy] at hM; obtain ⟨C3, Cc3, C4, Cc4, rfl⟩ := k40_cellsM (x := y) hM; have hg2 := blk_below (blk_new _ _) hb2; have b0 := (blk_cell hg2 0).trans (show _ = some _ from rfl); have y0 := blk_frozen hg2 0; have b1 := (blk_cell hg2 1).trans (show _ = some _ from rfl); have y1 := blk_frozen hg2 1; have b2 := (blk_cell hg2 2).trans (show _ = some _ from rfl); have y2 := blk_frozen hg2 2; have b3 := (blk_cell hg2 3).trans (show _ = some _ from rfl); have y3 := blk_frozen hg2 3; have b4 := (blk_cell hg2 4).trans (show _ = some _ from rfl); have y4 := blk_frozen hg2 4; have HGN := Aside0.mk hg2; have HB92 := Aside0.mk hb2; have HB2 := Aside0.mk (below_then (below_alloc HB9.out _) (below_alloc HB9.out _).size hb2); have HY := Aside0.mk hy; clear hg2 hb2 hM hy) | fail)
          go_roundg n
          case measure => omega
          case rel =>
            have hsz := HB9.out.size
            refine ⟨x.f2, w9.heap.size, l ++ [x.f2], rfl, rfl, ⟨hsz⟩, ⟨?_⟩, ⟨by have := HK.out; have := HUN.out.2; omega⟩, ⟨by rw [HE.out, HUN.out.1]; simp⟩, ⟨?_⟩, ⟨below_set (below_set (below_set (below_set (below_set HB2.out (by omega)) (by omega)) (by omega)) (by omega)) (by omega)⟩, ⟨by have := HLN.out; have := HUN.out.2; simp; omega⟩⟩
            · rw [← HY.out]
              refine ⟨C3, Cc3, C4, Cc4, ?_⟩
              refine blk_put (cs := #[.int .i64 y.f0, .string y.f1, .int .i64 y.f2, .slice C3 y.f3.length Cc3, .slice B4 x.f4.length Bc4]) ?_ 4 _ rfl
              refine blk_put (cs := #[.int .i64 y.f0, .string y.f1, .int .i64 y.f2, .slice B3 x.f3.length Bc3, .slice B4 x.f4.length Bc4]) ?_ 3 _ rfl
              refine blk_put (cs := #[.int .i64 y.f0, .string y.f1, .int .i64 x.f2, .slice B3 x.f3.length Bc3, .slice B4 x.f4.length Bc4]) ?_ 2 _ rfl
              refine blk_put (cs := #[.int .i64 y.f0, .string x.f1, .int .i64 x.f2, .slice B3 x.f3.length Bc3, .slice B4 x.f4.length Bc4]) ?_ 1 _ rfl
              refine blk_put (cs := #[.int .i64 x.f0, .string x.f1, .int .i64 x.f2, .slice B3 x.f3.length Bc3, .slice B4 x.f4.length Bc4]) ?_ 0 _ rfl
              exact HGN.out
            · have hlt : ∀ j, v9.ownBlock = some j → j < w9.heap.size := fun j e => Kd.R_lt HR9.out j e
              refine Kd.R_step (Kd.R_of_own (enc := Value.int .i64) (h1 := fun _ => rfl) (ok := fun j => j ≠ w9.heap.size) (Kd.own_of_R HR9.out) (fun j e => by have := hlt j e; omega)) (fun j hj hl => ?_)
              rw [set5_other _ _ _ _ _ _ _ j hj]
              have h1 := (below_alloc (Below.refl _ w9) (.cells #[.int .i64 x.f0, .string x.f1, .int .i64 x.f2, .slice B3 x.f3.length Bc3, .slice B4 x.f4.length Bc4] 40))
              exact (HB92.out.block j (by have := h1.size; omega)).trans (h1.block j hl)
        · have c1 : decide (0 < x.f2) = false := decide_eq_false c
          have HS := Aside0.mk (up_stop HGD.out hl c)
          clear hl hg c
          go_wp2_with fail
          go_ret
          exact ⟨_, rfl, by rw [HE.out, HS.out, List.append_nil]; exact Kd.R_mono HR.out (fun _ _ => trivial), HB.out⟩
set_option maxHeartbeats 8000000 in
set_option maxRecDepth 100000 in
theorem wdepth_calls (v : Value) (f : Nat → Option S40) (next id : Int) (w : World) (h : DocF w v f next) (hg : Good f next) :
    Calls Try.prog 18 #[v, .int .i64 id] w fun e w' => e = .returned (.int .i64 ((ch f id).length : Int)) ∧ Below w.heap.size w w' := by
  have HD := Aside0.mk h
  have HG := Aside0.mk hg
  have hle := ch_le hg id
  obtain ⟨b, t, rfl, _, _⟩ := h
  have hu40 := Try.underlying40
  cases hl : look f id with
  | none =>
    have HL := Aside0.mk hl
    rw [ch_none id hl]
    clear hg hl hle
    go_enter Try.func18, Try.ntmps18
    go_wp2_with (first | (go_at_call 20; refine (copy_calls _ f next id w w HD.out (Below.refl _ _) (HG.out.sizes id).1 (HG.out.sizes id).2).mono ?_; rintro e W2 ⟨cs, rfl, hM, hb2⟩; rw [HL.out] at hM ⊢; obtain ⟨A3, c3, A4, c4, rfl⟩ := k40_cellsM (x := z40) hM; have HB2 := Aside0.mk (below_alloc hb2 (.cells #[.int .i64 z40.f0, .string z40.f1, .int .i64 z40.f2, .slice A3 z40.f3.length c3, .slice A4 z40.f4.length c4] 40)); clear hM hb2) | fail)
    go_ret
    exact ⟨rfl, HB2.out⟩
  | some x =>
    have HL := Aside0.mk hl
    have HE : Aside0 ((upR f id).length + 1 = (ch f id).length ∧ (ch f id).length ≤ 512) := ⟨by rw [up_len]; have := ch_pos hg hl; omega, hle⟩
    obtain ⟨u, hu⟩ : ∃ u, u = upR f id := ⟨_, rfl⟩
    rw [← hu] at HE
    have HU := Aside0.mk hu
    obtain ⟨n, hn⟩ : ∃ n, n = (ch f id).length := ⟨_, rfl⟩
    rw [← hn] at HE ⊢
    clear hg hl hle hn hu
    go_enter Try.func18, Try.ntmps18
    go_wp2_with (first
      | (go_at_call 20; refine (copy_calls _ f next id w w HD.out (Below.refl _ _) (HG.out.sizes id).1 (HG.out.sizes id).2).mono ?_; rintro e W2 ⟨cs, rfl, hM, hb2⟩; rw [HL.out] at hM ⊢; obtain ⟨A3, c3, A4, c4, rfl⟩ := k40_cellsM (x := x) hM; have HB2 := Aside0.mk (below_alloc hb2 (.cells #[.int .i64 x.f0, .string x.f1, .int .i64 x.f2, .slice A3 x.f3.length c3, .slice A4 x.f4.length c4] 40)); clear hM hb2)
      | (go_at_call 16; refine (up_calls _ f next id _ (HD.out.below HB2.out) HG.out).mono ?_; rintro e W3 ⟨u3, rfl, hR, hb3⟩; rw [← HU.out] at hR; obtain ⟨A, c, rfl, hc, hC⟩ := Kd.R_reads hR; have HB3 := Aside0.mk (below_then HB2.out HB2.out.size hb3); clear hR hb3 hC hc)
      | fail)
    go_ret
    refine ⟨?_, HB3.out⟩
    have h1 := HE.out
    rw [show (n : Int) = wrap64 ((u.length : Int) + 1) from by unfold wrap64; omega]
    rfl
end Go.Proofs.Ytpnlbmeeihbjaaa.P
end
