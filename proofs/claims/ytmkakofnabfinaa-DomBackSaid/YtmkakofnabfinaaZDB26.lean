/- DomBack: for every input the law returns true, and each argument reads behind the call as it read before. -/
import Derived.Test.YtmkakofnabfinaaZDB6
import Derived.Test.YtmkakofnabfinaaZDB15
import Derived.Test.YtmkakofnabfinaaZDB21
import Derived.Test.YtmkakofnabfinaaZDB25
import Derived.Deep.LoopGhost
section
set_option linter.unusedVariables false
set_option linter.unusedSimpArgs false
namespace Go.Proofs.Ytmkakofnabfinaa.P
open Go.RowKit Go.Proofs.YtmkakofnabfinaaW.PrintWords Go.Proofs.YtmkakofnabfinaaW.PrintLast Go.Proofs.YtmkakofnabfinaaW.PrintMore
attribute [local go_sem] max2_int min2_int max_two min_two max_three min_three max_four min_four
set_option linter.unusedVariables false
set_option linter.unusedSimpArgs false
def nameB (s : ByteArray) : Bool := ((List.range' 0 s.size).all fun j => nameC j ((s.get! j).toNat : Int)) && (!s.toList.isEmpty && decide ((s.size : Int) ≤ 64))
theorem nameC_high (pos : Nat) (c : Int) (h : 128 ≤ c) : nameC pos c = false := by
  unfold nameC btw
  rw [show decide (c ≤ 122) = false from decide_eq_false (by omega), show (c == 45) = false from by simp; omega, show (c == 95) = false from by simp; omega, show decide (c ≤ 57) = false from decide_eq_false (by omega)]
  simp
theorem nameL_eq (s : ByteArray) : ∀ (m pos : Nat), s.size - pos < m → nameL s m pos = some (((List.range' pos (s.size - pos)).all fun j => nameC j ((s.get! j).toNat : Int)) && (!s.toList.isEmpty && decide ((s.size : Int) ≤ 64))) := by
  intro m
  induction m with
  | zero => intro pos hm; omega
  | succ m ih =>
    intro pos hm
    unfold nameL
    by_cases c : pos < s.size
    · rw [if_pos c]
      obtain ⟨n, hn⟩ : ∃ n, s.size - pos = n + 1 := ⟨s.size - pos - 1, by omega⟩
      rw [hn, List.range'_succ, List.all_cons]
      have hg := getb_at c
      rcases Nat.lt_or_ge (s[pos]'c).toNat 128 with h | h
      · rw [decode_ascii s pos c h, hg]
        simp only
        cases hc : nameC pos (((s[pos]'c).toNat : Nat) : Int) with
        | true =>
          rw [if_pos rfl, ih (pos + 1) (by omega), show s.size - (pos + 1) = n by omega]
          simp
        | false => simp
      · obtain ⟨h1, _⟩ := decode_high s pos c h
        rw [nameC_high pos _ (by omega), hg, nameC_high pos _ (by omega)]
        simp
    · rw [if_neg c, show s.size - pos = 0 by omega]
      simp
theorem nameL_ok (s : ByteArray) : nameL s (s.size + 1) 0 = some (nameB s) := by
  rw [nameL_eq s (s.size + 1) 0 (by omega)]
  rfl
def actE (f : Nat → Option S56) (next : Int) (a : S44) : Int :=
  if a.f0 = 0 then insE f next a.f1 a.f2 (nameB a.f4) (ch f a.f1).length
  else if a.f0 = 1 then remE f a.f1
  else if a.f0 = 2 then movE f a.f1 a.f2 a.f3 (decide (a.f1 ∈ ch f a.f2)) (ch f a.f2).length (talD f a.f1)
  else if a.f0 = 3 then setE f a.f1 a.f4 a.f5 (nameB a.f4)
  else if a.f0 = 4 then drpE f a.f1 a.f4
  else 0
def actF (f : Nat → Option S56) (next : Int) (a : S44) : Nat → Option S56 :=
  if actE f next a ≠ 0 then f
  else if a.f0 = 0 then insF f next a.f1 a.f2.toNat a.f4
  else if a.f0 = 1 then remF f a.f1 ((look f a.f1).getD z56).f2 (belR f a.f1)
  else if a.f0 = 2 then movF f a.f1 ((look f a.f1).getD z56).f2 a.f2 a.f3.toNat
  else if a.f0 = 3 then setF f a.f1 a.f4 a.f5
  else if a.f0 = 4 then drpF f a.f1 a.f4
  else f
def actN (f : Nat → Option S56) (next : Int) (a : S44) : Int := if a.f0 = 0 ∧ actE f next a = 0 then next + 1 else next
def actI (f : Nat → Option S56) (next : Int) (a : S44) : Int := if a.f0 = 0 ∧ actE f next a = 0 then next else 0
section
variable {f : Nat → Option S56} {next : Int}
theorem insE_zero {p i : Int} {nm : Bool} {dep : Int} (he : insE f next p i nm dep = 0) : ∃ y, look f p = some y ∧ 0 ≤ i ∧ i ≤ y.f3.length ∧ nm = true ∧ next < 1048576 ∧ dep < 512 := by
  unfold insE at he
  cases e : look f p with
  | none => rw [e] at he; cases he
  | some y =>
    rw [e] at he
    simp only at he
    split at he
    · cases he
    · rename_i h1
      split at he
      · cases he
      · rename_i h2
        split at he
        · cases he
        · rename_i h3
          exact ⟨y, rfl, by omega, by omega, by simpa using h2, by omega, by omega⟩
theorem remE_zero {id : Int} (he : remE f id = 0) : ∃ x, look f id = some x ∧ id ≠ 1 := by
  unfold remE at he
  cases e : look f id with
  | none => rw [e] at he; cases he
  | some x =>
    rw [e] at he
    simp only at he
    split at he
    · cases he
    · rename_i h1; exact ⟨x, rfl, h1⟩
theorem movE_zero {id q i : Int} {wt : Bool} {dep tl : Int} (he : movE f id q i wt dep tl = 0) : ∃ x z, look f id = some x ∧ look f q = some z ∧ id ≠ 1 ∧ wt = false ∧ 0 ≤ i ∧ i ≤ movK x z q ∧ wrap64 (dep + tl) ≤ 512 := by
  unfold movE at he
  cases e : look f id with
  | none => rw [e] at he; cases he
  | some x =>
    cases e2 : look f q with
    | none => rw [e, e2] at he; cases he
    | some z =>
      rw [e, e2] at he
      simp only at he
      split at he
      · cases he
      · rename_i h1
        split at he
        · cases he
        · rename_i h2
          split at he
          · cases he
          · rename_i h3
            have h1' : ¬ (id = 1) ∧ ¬ (wt = true) := by
              constructor
              · intro c; exact h1 (.inl c)
              · intro c; exact h1 (.inr c)
            exact ⟨x, z, rfl, rfl, h1'.1, by simpa using h1'.2, by omega, by omega, by omega⟩
theorem setE_zero {id : Int} {s v : ByteArray} {nm : Bool} (he : setE f id s v nm = 0) : ∃ x, look f id = some x ∧ nm = true ∧ v.size ≤ 1000 ∧ (hasA x.f4 s = true ∨ x.f4.length < 16) := by
  unfold setE at he
  cases e : look f id with
  | none => rw [e] at he; cases he
  | some x =>
    rw [e] at he
    simp only at he
    split at he
    · cases he
    · rename_i h1
      split at he
      · cases he
      · rename_i h2
        split at he
        · cases he
        · rename_i h3
          refine ⟨x, rfl, by simpa using h1, by omega, ?_⟩
          cases hh : hasA x.f4 s with
          | true => exact .inl rfl
          | false => exact .inr (by rcases Nat.lt_or_ge x.f4.length 16 with h4 | h4; exact h4; exact absurd ⟨hh, h4⟩ h3)
theorem drpE_zero {id : Int} {s : ByteArray} (he : drpE f id s = 0) : ∃ x, look f id = some x ∧ hasA x.f4 s = true := by
  unfold drpE at he
  cases e : look f id with
  | none => rw [e] at he; cases he
  | some x =>
    rw [e] at he
    simp only at he
    split at he
    · cases he
    · rename_i h1; exact ⟨x, rfl, by simpa using h1⟩
theorem movK_eq {x z : S56} {q : Int} (hl : z.f3.length ≤ 1048576) (hm : x.f2 = q → 1 ≤ z.f3.length) : movK x z q = if x.f2 = q then (z.f3.length : Int) - 1 else z.f3.length := by
  unfold movK
  split
  · rename_i e
    have := hm e
    unfold wrap64; omega
  · rfl
theorem lose_len {l : List Int} {id : Int} (hn : l.Nodup) (hm : id ∈ l) : (l.filter fun k => !(k == id)).length + 1 = l.length := by
  have e : (l.filter fun k => !(k == id)) = l.erase id := by
    rw [List.Nodup.erase_eq_filter hn]; rfl
  rw [e, List.length_erase_of_mem hm]
  have : 0 < l.length := List.length_pos_of_mem hm
  omega
theorem good_act (h : Good f next) (a : S44) : Good (actF f next a) (actN f next a) := by
  unfold actF actN
  by_cases he : actE f next a = 0
  · rw [if_neg (by simpa using he)]
    by_cases k0 : a.f0 = 0
    · rw [if_pos k0, if_pos ⟨k0, he⟩]
      unfold actE at he
      rw [if_pos k0] at he
      obtain ⟨y, hy, _, _, _, h1, h2⟩ := insE_zero he
      exact good_ins h hy h1 (by omega) _ _
    · rw [if_neg k0, show (if a.f0 = 0 ∧ actE f next a = 0 then next + 1 else next) = next from if_neg (fun c => k0 c.1)]
      unfold actE at he
      rw [if_neg k0] at he
      by_cases k1 : a.f0 = 1
      · rw [if_pos k1] at he ⊢
        obtain ⟨x, hx, h1⟩ := remE_zero he
        obtain ⟨p, hp, _⟩ := h.parent hx h1
        rw [hx]
        exact good_rem h hx h1 hp
      · rw [if_neg k1] at he ⊢
        by_cases k2 : a.f0 = 2
        · rw [if_pos k2] at he ⊢
          obtain ⟨x, z, hx, hz, h1, h2, _, _, h3⟩ := movE_zero he
          obtain ⟨p, hp, _⟩ := h.parent hx h1
          obtain ⟨t1, t2, t3, _⟩ := tal_eq h hx
          have hq := ch_le h a.f2
          rw [show wrap64 (((ch f a.f2).length : Int) + talD f a.f1) = (ch f a.f2).length + talD f a.f1 by unfold wrap64; omega] at h3
          rw [hx]
          exact good_mov h hx h1 hp hz (by simpa using h2) _ (fun c hc => by have := t1 c hc; omega)
        · rw [if_neg k2] at he ⊢
          by_cases k3 : a.f0 = 3
          · rw [if_pos k3] at he ⊢
            obtain ⟨x, hx, _, _, h1⟩ := setE_zero he
            exact good_set h hx _ _ h1
          · rw [if_neg k3] at he ⊢
            by_cases k4 : a.f0 = 4
            · rw [if_pos k4] at he ⊢
              obtain ⟨x, hx, _⟩ := drpE_zero he
              exact good_drp h hx _
            · rw [if_neg k4]; exact h
  · rw [if_pos he, show (if a.f0 = 0 ∧ actE f next a = 0 then next + 1 else next) = next from if_neg (fun c => he c.2)]
    exact h
theorem Good.sizes (h : Good f next) (k : Int) : ((look f k).getD z56).f3.length ≤ 1099511627776 ∧ ((look f k).getD z56).f4.length ≤ 1099511627776 := by
  cases e : look f k with
  | none => exact ⟨by show 0 ≤ _; omega, by show 0 ≤ _; omega⟩
  | some x =>
    have h1 := h.kids_le e
    have h2 := (h.att k x e).2
    exact ⟨by show x.f3.length ≤ _; omega, by show x.f4.length ≤ _; omega⟩
theorem Good.mono (h : Good f next) (k : Int) (s : ByteArray) : MonoA ((look f k).getD z56).f4 s := by
  cases e : look f k with
  | none => intro a b _ hb; exact absurd hb (by show ¬ b < 0; omega)
  | some x => exact (h.att k x e).1.mono s
end
end Go.Proofs.Ytmkakofnabfinaa.P
end
section
set_option linter.unusedVariables false
set_option linter.unusedSimpArgs false
namespace Go.Proofs.Ytmkakofnabfinaa.P
open Go.RowKit Go.Proofs.YtmkakofnabfinaaW.PrintWords Go.Proofs.YtmkakofnabfinaaW.PrintLast Go.Proofs.YtmkakofnabfinaaW.PrintMore
attribute [local go_sem] max2_int min2_int max_two min_two max_three min_three max_four min_four
set_option linter.unusedVariables false
set_option linter.unusedSimpArgs false
theorem S56_ext {a b : S56} (h0 : a.f0 = b.f0) (h1 : a.f1 = b.f1) (h2 : a.f2 = b.f2) (h3 : a.f3 = b.f3) (h4 : a.f4 = b.f4) : a = b := by
  cases a; cases b; simp only at h0 h1 h2 h3 h4; subst h0 h1 h2 h3 h4; rfl
theorem filter_same {l : List Int} {id : Int} (h : id ∉ l) : (l.filter fun k => !(k == id)) = l := by
  rw [List.filter_eq_self]
  intro a ha
  have : a ≠ id := fun e => h (e ▸ ha)
  simp [this]
theorem lose_gain {x : S56} {i : Nat} {id : Int} (h : id ∉ x.f3) : loseA id (gainA i id x) = x := by
  refine S56_ext rfl rfl rfl ?_ rfl
  show ((x.f3.take i ++ [id] ++ x.f3.drop i).filter fun k => !(k == id)) = x.f3
  rw [List.filter_append, List.filter_append, filter_same (fun hc => h (List.mem_of_mem_take hc)), filter_same (fun hc => h (List.mem_of_mem_drop hc))]
  simp
theorem gain_lose {x : S56} {i : Nat} {id : Int} (hn : x.f3.Nodup) (hi : i < x.f3.length) (he : x.f3[i] = id) : gainA i id (loseA id x) = x := by
  refine S56_ext rfl rfl rfl ?_ rfl
  show (x.f3.filter fun k => !(k == id)).take i ++ [id] ++ (x.f3.filter fun k => !(k == id)).drop i = x.f3
  have hs : x.f3 = x.f3.take i ++ (id :: x.f3.drop (i + 1)) := by
    conv => lhs; rw [← List.take_append_drop i x.f3, List.drop_eq_getElem_cons hi, he]
  have hnd := hn
  rw [hs] at hnd
  obtain ⟨n1, n2, n3⟩ := List.nodup_append.1 hnd
  obtain ⟨n4, n5⟩ := List.nodup_cons.1 n2
  have h1 : id ∉ x.f3.take i := fun hc => n3 id hc id List.mem_cons_self rfl
  have hf : (x.f3.filter fun k => !(k == id)) = x.f3.take i ++ x.f3.drop (i + 1) := by
    conv => lhs; rw [hs]
    rw [List.filter_append, filter_same h1, List.filter_cons]
    simp only [beq_self_eq_true, Bool.not_true, Bool.false_eq_true, if_false]
    rw [filter_same n4]
  have hl : (x.f3.take i).length = i := by rw [List.length_take]; omega
  rw [hf, List.take_append_of_le_length (by omega), List.take_of_length_le (by omega), List.drop_append_of_le_length (by omega), List.drop_of_length_le (by omega), List.nil_append, List.append_assoc]
  exact hs.symm
section
variable {f : Nat → Option S56} {next : Int}
theorem belR_leaf {id : Int} {x : S56} (hx : look f id = some x) (h3 : x.f3 = []) : belR f id = [id] := by
  have hb : belL f 1048577 [id] 0 = some [id] := by
    have key : ∀ n : Nat, belL f (n + 2) [id] 0 = some [id] := by
      intro n
      unfold belL
      rw [if_pos (by simp)]
      unfold belL
      have e : ((look f ([id].getD 0 0)).getD z56).f3 = [] := by show ((look f id).getD z56).f3 = []; rw [hx]; exact h3
      rw [e]; rfl
    exact key 1048575
  unfold belR; rw [hb]; rfl
theorem Good.fresh (h : Good f next) : look f next = none := by
  cases e : look f next with
  | none => rfl
  | some x => have := h.dom next x e; omega
theorem ins_rem (h : Good f next) {p i : Int} {tag : ByteArray} (he : insE f next p i (nameB tag) (ch f p).length = 0) :
    remE (insF f next p i.toNat tag) next = 0 ∧ ∀ j, look (remF (insF f next p i.toNat tag) next ((look (insF f next p i.toNat tag) next).getD z56).f2 (belR (insF f next p i.toNat tag) next)) j = look f j := by
  obtain ⟨y, hy, h1, h2, h3, h4, h5⟩ := insE_zero he
  have hl := look_ins h hy h4 i.toNat tag
  have hg := good_ins h hy h4 (by omega) i.toNat tag
  have hd := h.dom p y hy
  have hlo := h.lo
  have hx : look (insF f next p i.toNat tag) next = some (el next tag p) := by rw [hl, if_pos rfl]
  have hp : look (insF f next p i.toNat tag) p = some (gainA i.toNat next y) := by rw [hl, if_neg (by omega), if_pos rfl]
  refine ⟨by unfold remE; rw [hx]; show (if next = 1 then (2 : Int) else 0) = 0; rw [if_neg (by omega)], fun j => ?_⟩
  rw [hx]
  show look (remF (insF f next p i.toNat tag) next p (belR (insF f next p i.toNat tag) next)) j = look f j
  have hr := look_rem hg hx (show look (insF f next p i.toNat tag) (el next tag p).f2 = some (gainA i.toNat next y) from hp) j
  have hb := belR_leaf hx rfl
  obtain ⟨_, _, hm⟩ := belR_eq hg hx
  rw [hb] at hm
  have hnk : next ∉ y.f3 := fun hc => by
    obtain ⟨_, z, hz, _⟩ := h.kid p y next hy hc
    rw [h.fresh] at hz; cases hz
  refine hr.trans ?_
  by_cases c : j = next
  · rw [if_pos ((hm j).1 (by rw [c]; exact List.mem_cons_self)), c, h.fresh]
  · rw [if_neg (fun e => c (List.mem_singleton.1 ((hm j).2 e)))]
    by_cases c2 : j = p
    · rw [if_pos (show j = (el next tag p).f2 from c2), lose_gain hnk, c2, hy]
    · rw [if_neg (show ¬ j = (el next tag p).f2 from c2), hl, if_neg c, if_neg c2]
theorem mov_ch (h : Good f next) {F : Nat → Option S56} (hF : Good F next) {id : Int} (hid : ∃ x, look f id = some x) (hl : ∀ j, j ≠ id → (look F j).map (·.f2) = (look f j).map (·.f2)) :
    ∀ (n : Nat) (c : Int), (ch f c).length ≤ n → (id ∉ ch f c → ch F c = ch f c) ∧ (id ∈ ch f c → ∃ l, ch f c = l ++ ch f id ∧ ch F c = l ++ ch F id) := by
  intro n
  induction n with
  | zero =>
    intro c hn
    have e0 : ch f c = [] := List.eq_nil_of_length_eq_zero (by omega)
    refine ⟨fun hc => ?_, fun hc => by rw [e0] at hc; cases hc⟩
    cases e : look f c with
    | some x => have := ch_pos h e; omega
    | none =>
      by_cases ec : c = id
      · obtain ⟨x, hx⟩ := hid
        rw [ec, hx] at e; cases e
      · have h2 := hl c ec
        rw [e] at h2
        cases e2 : look F c with
        | none => rw [ch_none c e2, ch_none c e]
        | some z => rw [e2] at h2; cases h2
  | succ n ih =>
    intro c hn
    by_cases ec : c = id
    · subst ec
      obtain ⟨x, hx⟩ := hid
      exact ⟨fun hc => absurd (ch_self h hx) hc, fun _ => ⟨[], rfl, rfl⟩⟩
    · have h2 := hl c ec
      cases e : look f c with
      | none =>
        rw [e] at h2
        cases e2 : look F c with
        | none => rw [ch_none c e2, ch_none c e]; exact ⟨fun _ => rfl, fun hc => by cases hc⟩
        | some z => rw [e2] at h2; cases h2
      | some x =>
        rw [e] at h2
        cases e2 : look F c with
        | none => rw [e2] at h2; cases h2
        | some z =>
          rw [e2] at h2
          have h3 : z.f2 = x.f2 := Option.some.inj h2
          have s1 := ch_step h e
          have s2 := ch_step hF e2
          rw [h3] at s2
          rw [s1] at hn
          obtain ⟨i1, i2⟩ := ih x.f2 (by simpa using hn)
          refine ⟨fun hc => ?_, fun hc => ?_⟩
          · rw [s1] at hc
            rw [s1, s2, i1 (fun hd => hc (List.mem_cons_of_mem _ hd))]
          · rw [s1] at hc
            rcases List.mem_cons.1 hc with h4 | h4
            · exact absurd h4.symm ec
            · obtain ⟨l, l1, l2⟩ := i2 h4
              exact ⟨c :: l, by rw [s1, l1]; rfl, by rw [s2, l2]; rfl⟩
theorem mov_back (h : Good f next) {k : Int} {x y : S56} (hx : look f k = some x) (h1 : k ≠ 1) (hy : look f x.f2 = some y) (a : Nat) (ha : a < y.f3.length) (hak : y.f3[a] = k) :
    movE f k 1 0 (decide (k ∈ ch f 1)) (ch f 1).length (talD f k) = 0 ∧
    movE (movF f k x.f2 1 0) k x.f2 a (decide (k ∈ ch (movF f k x.f2 1 0) x.f2)) (ch (movF f k x.f2 1 0) x.f2).length (talD (movF f k x.f2 1 0) k) = 0 ∧
    Good (movF f k x.f2 1 0) next ∧ ((look (movF f k x.f2 1 0) k).getD z56).f2 = 1 ∧ ∀ j, look (movF (movF f k x.f2 1 0) k 1 x.f2 a) j = look f j := by
  obtain ⟨r, hr, hr0⟩ := h.root
  obtain ⟨p', hp', hkm, hnp, hne⟩ := h.parent hx h1
  rw [hy] at hp'
  obtain rfl := Option.some.inj hp'
  have hk1 : k ∉ ch f 1 := by rw [ch_root h]; simpa using h1
  have hyl := h.kids_le hy
  have hrl := h.kids_le hr
  have hypos : 1 ≤ y.f3.length := by omega
  obtain ⟨t1, t2, t3, c, hc, ht⟩ := tal_eq h hx
  have hck := ch_le h c
  have hdk := h.depc hx
  have hdp := ch_pos h hy
  have hr1 : (ch f 1).length = 1 := by rw [ch_root h]; rfl
  have hlim : ∀ c, k ∈ ch f c → ((ch f 1).length : Int) + ((ch f c).length - (ch f k).length + 1) ≤ 512 := fun c hc => by
    have := ch_le h c
    omega
  have hg := good_mov h hx h1 hy hr hk1 0 hlim
  have hl := look_mov h hx h1 hy hr hk1 0
  obtain ⟨F, hF⟩ : ∃ F, F = movF f k x.f2 1 0 := ⟨_, rfl⟩
  rw [← hF] at hg hl ⊢
  have e1 : movE f k 1 0 (decide (k ∈ ch f 1)) (ch f 1).length (talD f k) = 0 := by
    unfold movE
    rw [hx, hr]
    simp only
    rw [if_neg (by simp [h1, hk1])]
    have hkk := movK_eq (x := x) (z := r) (q := 1) hrl (fun e => by
      rw [e, hr] at hy
      obtain rfl := Option.some.inj hy
      omega)
    rw [hkk, if_neg (by
      split
      · rename_i e
        rw [e, hr] at hy
        obtain rfl := Option.some.inj hy
        omega
      · omega), if_neg (by rw [hr1]; unfold wrap64; omega)]
  have hFk : look F k = some (ownA 1 x) := by rw [hl, if_pos rfl]
  have hrel := mov_ch h hg ⟨x, hx⟩ (fun j hj => by
    rw [hl, if_neg hj]
    split
    · rename_i e; rw [e, hr]; simp only [Option.map_some]; split <;> rfl
    · split
      · rename_i e; rw [e, hy]; rfl
      · rfl)
  have hcp : ch F x.f2 = ch f x.f2 := (hrel _ x.f2 (Nat.le_refl _)).1 hnp
  have hnF : k ∉ ch F x.f2 := by rw [hcp]; exact hnp
  obtain ⟨z, hz, hz3⟩ : ∃ z, look F x.f2 = some z ∧ gainA a k (if (1 : Int) = x.f2 then loseA k z else z) = y := by
    by_cases e : x.f2 = 1
    · refine ⟨gainA 0 k (loseA k r), by rw [hl, if_neg hne, if_pos e, if_pos e], ?_⟩
      rw [if_pos e.symm]
      rw [e, hr] at hy
      obtain rfl := Option.some.inj hy
      rw [lose_gain (by simp [loseA, List.mem_filter]), gain_lose (h.nodup 1 r hr) ha hak]
    · refine ⟨loseA k y, by rw [hl, if_neg hne, if_neg e, if_pos rfl], ?_⟩
      rw [if_neg (Ne.symm e), gain_lose (h.nodup _ y hy) ha hak]
  obtain ⟨r1, hr1', hr3⟩ : ∃ r1, look F 1 = some r1 ∧ (x.f2 ≠ 1 → loseA k r1 = r) := by
    refine ⟨_, by rw [hl, if_neg (Ne.symm h1), if_pos rfl], fun e => ?_⟩
    rw [if_neg e]
    exact lose_gain (fun hc => e (h.id_par hx hr hc))
  refine ⟨e1, ?_, hg, by rw [hFk]; rfl, fun j => ?_⟩
  · unfold movE
    rw [hFk, hz]
    simp only
    rw [if_neg (by simp [h1, hnF])]
    have hzl := hg.kids_le hz
    have hlen : ((if (1 : Int) = x.f2 then loseA k z else z)).f3.length + 1 = y.f3.length := by
      rw [← hz3]; simp [gainA]; omega
    have hzk : (1 : Int) = x.f2 → k ∈ z.f3 := fun e => by
      obtain ⟨u, hu, hu2⟩ := hg.par k _ hFk h1
      have e2 : (ownA 1 x).f2 = x.f2 := e
      rw [e2, hz] at hu
      obtain rfl := Option.some.inj hu
      exact hu2
    have hkk := movK_eq (x := ownA 1 x) (z := z) (q := x.f2) hzl (fun e => List.length_pos_of_mem (hzk e))
    rw [hkk, if_neg (by
      show ¬ ((a : Int) < 0 ∨ (if (1 : Int) = x.f2 then (z.f3.length : Int) - 1 else z.f3.length) < (a : Int))
      split
      · rename_i e
        rw [if_pos e] at hlen
        have := lose_len (hg.nodup _ z hz) (hzk e)
        have e3 : (loseA k z).f3.length = (z.f3.filter fun q => !(q == k)).length := rfl
        omega
      · rename_i e
        rw [if_neg e] at hlen
        omega)]
    rw [if_neg (by
      obtain ⟨s1, s2, s3, c', hc', ht'⟩ := tal_eq hg hFk
      have hcf : k ∈ ch f c' := by
        refine Classical.byContradiction fun hno => ?_
        rw [(hrel _ c' (Nat.le_refl _)).1 hno] at hc'
        exact hno hc'
      obtain ⟨l, l1, l2⟩ := (hrel _ c' (Nat.le_refl _)).2 hcf
      have n1 : (ch f c').length = l.length + (ch f k).length := by rw [l1, List.length_append]
      have n2 : (ch F c').length = l.length + (ch F k).length := by rw [l2, List.length_append]
      have n3 := ch_le h c'
      rw [hcp]
      unfold wrap64
      omega)]
  · have hlb := look_mov hg hFk h1 (show look F (ownA 1 x).f2 = some r1 from hr1') hz hnF a j
    refine hlb.trans ?_
    by_cases c1 : j = k
    · rw [if_pos c1, c1, hx]
      exact congrArg some (S56_ext rfl rfl rfl rfl rfl)
    · rw [if_neg c1]
      by_cases c2 : j = x.f2
      · rw [if_pos c2, c2, hy]
        exact congrArg some hz3
      · rw [if_neg c2]
        by_cases c3 : j = 1
        · rw [if_pos (show j = (ownA 1 x).f2 from c3), c3, hr]
          exact congrArg some (hr3 (fun e => c2 (c3.trans e.symm)))
        · rw [if_neg (show ¬ j = (ownA 1 x).f2 from c3), hl, if_neg c1, if_neg c3, if_neg c2]
end
end Go.Proofs.Ytmkakofnabfinaa.P
end
section
set_option linter.unusedVariables false
set_option linter.unusedSimpArgs false
namespace Go.Proofs.Ytmkakofnabfinaa.P
open Go.RowKit Go.Proofs.YtmkakofnabfinaaW.PrintWords Go.Proofs.YtmkakofnabfinaaW.PrintLast Go.Proofs.YtmkakofnabfinaaW.PrintMore
attribute [local go_sem] max2_int min2_int max_two min_two max_three min_three max_four min_four
set_option linter.unusedVariables false
set_option linter.unusedSimpArgs false
section
variable {f : Nat → Option S56} {next : Int}
def Act3 (ok : Nat → Prop) (w : World) (v : Value) (F : Nat → Option S56) (N I E : Int) : Ending → World → Prop := fun e w' =>
  ∃ v', e = .returned (.tuple #[v', .int .i64 I, .int .i64 E]) ∧ DocO ok w' v' F N ∧ Below w.heap.size w w' ∧ (E ≠ 0 → v' = v)
def Act2 (ok : Nat → Prop) (w : World) (v : Value) (F : Nat → Option S56) (N E : Int) : Ending → World → Prop := fun e w' =>
  ∃ v', e = .returned (.tuple #[v', .int .i64 E]) ∧ DocO ok w' v' F N ∧ Below w.heap.size w w' ∧ (E ≠ 0 → v' = v)
theorem ins_act (ok : Nat → Prop) (v : Value) (p i : Int) (tag : ByteArray) (w : World) (hfresh : ∀ k, w.heap.size ≤ k → ok k) (h : DocO ok w v f next) (hg : Good f next) (E : Int) (hE : E = insE f next p i (nameB tag) (ch f p).length) :
    Calls Try.prog 14 #[v, .int .i64 p, .int .i64 i, .string tag] w (Act3 ok w v (if E ≠ 0 then f else insF f next p i.toNat tag) (if E = 0 then next + 1 else next) (if E = 0 then next else 0) E) := by
  by_cases he : E = 0
  · have he' := he
    rw [hE] at he'
    obtain ⟨y, hy, h1, h2, h3, h4, h5⟩ := insE_zero he'
    have h := ins_O ok (tag.size + 1) 600 v f next p i.toNat tag (ch f p).length y w hfresh h (by rw [nameL_ok, h3]) (depL_eq hg p) hy (by omega) (by have := hg.sizes p; rw [hy] at this; exact this) h4 h5
    rw [show ((i.toNat : Nat) : Int) = i by omega] at h
    refine h.mono ?_
    rintro e w' ⟨v', rfl, hd, hb⟩
    have hlo := hg.lo
    rw [show wrap64 (next + 1) = next + 1 by unfold wrap64; omega] at hd
    subst he
    exact ⟨v', by rw [if_pos rfl], by rw [if_neg (by simp), if_pos rfl]; exact hd, hb, fun c => absurd rfl c⟩
  · have h2 := ins_no (tag.size + 1) 600 v f next p i tag (nameB tag) (ch f p).length w h.doc (nameL_ok tag) (depL_eq hg p) (by rw [← hE]; exact he)
    rw [← hE] at h2
    refine h2.mono ?_
    rintro e w' ⟨rfl, hb⟩
    exact ⟨v, by rw [if_neg he], by rw [if_pos he, if_neg he]; exact h.below hb, hb, fun _ => rfl⟩
theorem rem_act (ok : Nat → Prop) (v : Value) (id : Int) (w : World) (hfresh : ∀ k, w.heap.size ≤ k → ok k) (h : DocO ok w v f next) (hg : Good f next) (E : Int) (hE : E = remE f id) :
    Calls Try.prog 25 #[v, .int .i64 id] w (Act2 ok w v (if E ≠ 0 then f else remF f id ((look f id).getD z56).f2 (belR f id)) next E) := by
  by_cases he : E = 0
  · have he' := he
    rw [hE] at he'
    obtain ⟨x, hx, h1⟩ := remE_zero he'
    obtain ⟨hr, _, _⟩ := belR_eq hg hx
    have hlen := belR_len hg hx
    refine (rem_O ok 1048577 v f next id x (belR f id) w hfresh h hx h1 hr (by omega) (hg.sizes _)).mono ?_
    rintro e w' ⟨v', rfl, hd, hb⟩
    subst he
    rw [hx]
    exact ⟨v', rfl, by rw [if_neg (by simp)]; exact hd, hb, fun c => absurd rfl c⟩
  · have h2 := rem_no v f next id w h.doc (by rw [← hE]; exact he)
    rw [← hE] at h2
    refine h2.mono ?_
    rintro e w' ⟨rfl, hb⟩
    exact ⟨v, rfl, by rw [if_pos he]; exact h.below hb, hb, fun _ => rfl⟩
theorem belL_none (id : Int) (h : look f id = none) (n : Nat) : belL f (n + 2) [id] 0 = some [id] := by
  unfold belL
  rw [if_pos (by simp)]
  unfold belL
  have e : ((look f ([id].getD 0 0)).getD z56).f3 = [] := by show ((look f id).getD z56).f3 = []; rw [h]; rfl
  rw [e]; rfl
theorem tall_act (v : Value) (id : Int) (w : World) (h : DocF w v f next) (hg : Good f next) : ∀ W : World, Below w.heap.size w W → Calls Try.prog 54 #[v, .int .i64 id] W fun e w' => e = .returned (.int .i64 (talD f id)) ∧ Below W.heap.size W w' := by
  have hd : ∀ k, (depL f 600 (look f k) 0).isSome = true := fun k => by rw [depL_eq hg k]; rfl
  cases hx : look f id with
  | none =>
    have hb : belL f 1048577 [id] 0 = some [id] := belL_none id hx 1048575
    have e : belR f id = [id] := by unfold belR; rw [hb]; rfl
    unfold talD
    rw [e]
    exact fun W hW => tall_calls 1048577 600 v f next id [id] W (h.below hW) hb (by show 1 ≤ _; omega) (fun k _ => hd k)
  | some x =>
    obtain ⟨hr, _, _⟩ := belR_eq hg hx
    have hlen := belR_len hg hx
    exact fun W hW => tall_calls 1048577 600 v f next id (belR f id) W (h.below hW) hr (by omega) (fun k _ => hd k)
theorem mov_act (ok : Nat → Prop) (v : Value) (id q i : Int) (w : World) (hfresh : ∀ k, w.heap.size ≤ k → ok k) (h : DocO ok w v f next) (hg : Good f next) (E : Int) (hE : E = movE f id q i (decide (id ∈ ch f q)) (ch f q).length (talD f id)) :
    Calls Try.prog 16 #[v, .int .i64 id, .int .i64 q, .int .i64 i] w (Act2 ok w v (if E ≠ 0 then f else movF f id ((look f id).getD z56).f2 q i.toNat) next E) := by
  by_cases he : E = 0
  · have he' := he
    rw [hE] at he'
    obtain ⟨x, z, hx, hz, h1, h2, h3, h4, h5⟩ := movE_zero he'
    obtain ⟨p, hp, hm, _⟩ := hg.parent hx h1
    have hmd : Good f next := hg
    have dq := hg.dom _ z hz
    have dp := hg.dom _ p hp
    have di := hg.dom _ x hx
    have hhi := hg.hi
    have hzl := hg.kids_le hz
    have hpl := hg.kids_le hp
    have hkk := movK_eq (x := x) (q := q) hzl (fun e => by
      rw [e, hz] at hp
      obtain rfl := Option.some.inj hp
      exact List.length_pos_of_mem hm)
    have l1 : ∀ j, look (movF1 f id x.f2) j = if j = x.f2 then some (loseA id p) else look f j := fun j => by
      unfold movF1; rw [look_put _ _ _ _ (by omega) (by omega), hp]; rfl
    have e1 : (look (movF1 f id x.f2) q).getD z56 = if x.f2 = q then loseA id z else z := by
      rw [l1]
      by_cases e : x.f2 = q
      · rw [if_pos e.symm, if_pos e]
        rw [e, hz] at hp
        rw [Option.some.inj hp]; rfl
      · rw [if_neg (Ne.symm e), if_neg e, hz]; rfl
    have hqi : q ≠ id := fun e => by
      have := ch_self hg hx
      rw [e] at h2
      rw [decide_eq_true this] at h2; cases h2
    obtain ⟨_, _, _, _, hne⟩ := hg.parent hx h1
    have l2 : ∀ j, look (movF2 f id x.f2 q i.toNat) j = if j = q then some (gainA i.toNat id (if x.f2 = q then loseA id z else z)) else look (movF1 f id x.f2) j := fun j => by
      unfold movF2; rw [look_put _ _ _ _ (by omega) (by omega), e1]
    have e2 : (look (movF2 f id x.f2 q i.toNat) id).getD z56 = x := by
      rw [l2, if_neg (Ne.symm hqi), l1, if_neg (Ne.symm hne), hx]; rfl
    have sx := hg.sizes id
    have sz := hg.sizes q
    rw [hx] at sx
    rw [hz] at sz
    have hlose : x.f2 = q → (loseA id z).f3.length + 1 = z.f3.length := fun e => by
      rw [e, hz] at hp
      obtain rfl := Option.some.inj hp
      exact lose_len (hg.nodup q z hz) hm
    have hmv := mov_O ok 600 v f next id q i.toNat (ch f q).length (talD f id) x z w hfresh h (by rw [witL_eq hg, h2]) (depL_eq hg q) (tall_act v id w h.doc hg) hx hz h1 (by omega) (by omega) (hg.sizes _)
      (by
        rw [e1]
        split
        · rename_i e; have := hlose e; exact ⟨by omega, sz.2⟩
        · exact sz)
      (by
        rw [e1]
        rw [hkk] at h4
        split
        · rename_i e; have := hlose e; rw [if_pos e] at h4; omega
        · rename_i e; rw [if_neg e] at h4; omega)
      (by rw [e2]; exact sx)
    rw [show ((i.toNat : Nat) : Int) = i by omega] at hmv
    refine hmv.mono ?_
    rintro e w' ⟨v', rfl, hd, hb⟩
    subst he
    rw [hx]
    exact ⟨v', rfl, by rw [if_neg (by simp)]; exact hd, hb, fun c => absurd rfl c⟩
  · have h2 := mov_no 600 v f next id q i (decide (id ∈ ch f q)) (ch f q).length (talD f id) w h.doc (witL_eq hg id q) (depL_eq hg q) (tall_act v id w h.doc hg) (by rw [← hE]; exact he)
    rw [← hE] at h2
    refine h2.mono ?_
    rintro e w' ⟨rfl, hb⟩
    exact ⟨v, rfl, by rw [if_pos he]; exact h.below hb, hb, fun _ => rfl⟩
theorem act2_of {ok : Nat → Prop} {w : World} {v : Value} {E : Int} {F : Nat → Option S56} {fn : Nat} {args : Array Value} (h : DocO ok w v f next) (hc : Calls Try.prog fn args w (ActPost ok w v E F next)) : Calls Try.prog fn args w (Act2 ok w v (if E ≠ 0 then f else F) next E) := by
  refine hc.mono ?_
  rintro e w' ⟨hb, ⟨he, rfl⟩ | ⟨he, v', rfl, hd⟩⟩
  · exact ⟨v, rfl, by rw [if_pos he]; exact h.below hb, hb, fun _ => rfl⟩
  · subst he
    exact ⟨v', rfl, by rw [if_neg (by simp)]; exact hd, hb, fun c => absurd rfl c⟩
theorem set_act (ok : Nat → Prop) (v : Value) (id : Int) (s t : ByteArray) (w : World) (hfresh : ∀ k, w.heap.size ≤ k → ok k) (h : DocO ok w v f next) (hg : Good f next) (ht : t.size ≤ 140737488355332) (E : Int) (hE : E = setE f id s t (nameB s)) :
    Calls Try.prog 62 #[v, .int .i64 id, .string s, .string t] w (Act2 ok w v (if E ≠ 0 then f else setF f id s t) next E) := by
  rw [hE]
  exact act2_of h (set_calls ok (s.size + 1) v f next id s t (nameB s) w hfresh h (nameL_ok s) (hg.sizes id) (hg.mono id s) ht)
theorem drp_act (ok : Nat → Prop) (v : Value) (id : Int) (s : ByteArray) (w : World) (hfresh : ∀ k, w.heap.size ≤ k → ok k) (h : DocO ok w v f next) (hg : Good f next) (E : Int) (hE : E = drpE f id s) :
    Calls Try.prog 63 #[v, .int .i64 id, .string s] w (Act2 ok w v (if E ≠ 0 then f else drpF f id s) next E) := by
  rw [hE]
  exact act2_of h (drp_calls ok v f next id s w hfresh h (hg.sizes id) (hg.mono id s))
end
end Go.Proofs.Ytmkakofnabfinaa.P
end
section
set_option linter.unusedVariables false
set_option linter.unusedSimpArgs false
namespace Go.Proofs.Ytmkakofnabfinaa.P
open Go.RowKit Go.Proofs.YtmkakofnabfinaaW.PrintWords Go.Proofs.YtmkakofnabfinaaW.PrintLast Go.Proofs.YtmkakofnabfinaaW.PrintMore
attribute [local go_sem] max2_int min2_int max_two min_two max_three min_three max_four min_four
set_option linter.unusedVariables false
set_option linter.unusedSimpArgs false
section
variable {f : Nat → Option S56} {next : Int}
theorem Act2.to3 {ok : Nat → Prop} {w w1 : World} {v : Value} {F : Nat → Option S56} {N E : Int} {e : Ending} {w' : World} (hb : Below w.heap.size w w1) (h : Act2 ok w1 v F N E e w') : ∃ v', e = .returned (.tuple #[v', .int .i64 E]) ∧ DocO ok w' v' F N ∧ Below w.heap.size w w' ∧ (E ≠ 0 → v' = v) := by
  obtain ⟨v', he, hd, hb', hv⟩ := h
  exact ⟨v', he, hd, below_then hb hb.size hb', hv⟩
set_option maxHeartbeats 16000000 in
set_option maxRecDepth 100000 in
theorem act_calls (ok : Nat → Prop) (v : Value) (k a b c : Int) (s t : ByteArray) (w : World) (hfresh : ∀ j : Nat, w.heap.size ≤ j → ok j) (h : DocO ok w v f next) (hg : Good f next) (ht : t.size ≤ 140737488355332) :
    Calls Try.prog 22 #[v, .agg #[.int .i64 k, .int .i64 a, .int .i64 b, .int .i64 c, .string s, .string t]] w (Act3 ok w v (actF f next ⟨k, a, b, c, s, t⟩) (actN f next ⟨k, a, b, c, s, t⟩) (actI f next ⟨k, a, b, c, s, t⟩) (actE f next ⟨k, a, b, c, s, t⟩)) := by
  have HB0 : Aside0 (Below w.heap.size w (w.alloc (.cells #[.int .i64 k, .int .i64 a, .int .i64 b, .int .i64 c, .string s, .string t] 44))) := ⟨below_alloc (Below.refl _ _) _⟩
  have HD : Aside0 (DocO ok (w.alloc (.cells #[.int .i64 k, .int .i64 a, .int .i64 b, .int .i64 c, .string s, .string t] 44)) v f next) := ⟨h.below HB0.out⟩
  have HFR : Aside0 (∀ j : Nat, (w.alloc (.cells #[.int .i64 k, .int .i64 a, .int .i64 b, .int .i64 c, .string s, .string t] 44)).heap.size ≤ j → ok j) := ⟨fun j hk => hfresh j (Nat.le_trans HB0.out.size hk)⟩
  have HG := Aside0.mk hg
  have HT := Aside0.mk ht
  have q0 := (blk_cell (blk_new w (.cells #[.int .i64 k, .int .i64 a, .int .i64 b, .int .i64 c, .string s, .string t] 44)) 0).trans (show _ = some (.int .i64 k) from rfl)
  have q1 := (blk_cell (blk_new w (.cells #[.int .i64 k, .int .i64 a, .int .i64 b, .int .i64 c, .string s, .string t] 44)) 1).trans (show _ = some (.int .i64 a) from rfl)
  have q2 := (blk_cell (blk_new w (.cells #[.int .i64 k, .int .i64 a, .int .i64 b, .int .i64 c, .string s, .string t] 44)) 2).trans (show _ = some (.int .i64 b) from rfl)
  have q3 := (blk_cell (blk_new w (.cells #[.int .i64 k, .int .i64 a, .int .i64 b, .int .i64 c, .string s, .string t] 44)) 3).trans (show _ = some (.int .i64 c) from rfl)
  have q4 := (blk_cell (blk_new w (.cells #[.int .i64 k, .int .i64 a, .int .i64 b, .int .i64 c, .string s, .string t] 44)) 4).trans (show _ = some (.string s) from rfl)
  have q5 := (blk_cell (blk_new w (.cells #[.int .i64 k, .int .i64 a, .int .i64 b, .int .i64 c, .string s, .string t] 44)) 5).trans (show _ = some (.string t) from rfl)
  have hu44 := Try.underlying44
  clear h hfresh hg ht
  obtain ⟨E, hE⟩ : ∃ E, E = actE f next ⟨k, a, b, c, s, t⟩ := ⟨_, rfl⟩
  obtain ⟨F, hF⟩ : ∃ F, F = actF f next ⟨k, a, b, c, s, t⟩ := ⟨_, rfl⟩
  obtain ⟨N, hN⟩ : ∃ N, N = actN f next ⟨k, a, b, c, s, t⟩ := ⟨_, rfl⟩
  obtain ⟨I, hI⟩ : ∃ I, I = actI f next ⟨k, a, b, c, s, t⟩ := ⟨_, rfl⟩
  rw [← hE, ← hF, ← hN, ← hI]
  unfold actF at hF
  unfold actN at hN
  unfold actI at hI
  rw [← hE] at hF hN hI
  unfold actE at hE
  simp only at hE hF hN hI
  by_cases k0 : k = 0
  · rw [if_pos k0] at hE hF
    have hN2 : N = if E = 0 then next + 1 else next := by rw [hN]; simp [k0]
    have hI2 : I = if E = 0 then next else 0 := by rw [hI]; simp [k0]
    have HE := Aside0.mk hE
    have HF := Aside0.mk hF
    have HN := Aside0.mk hN2
    have HI := Aside0.mk hI2
    clear hE hF hN hI hN2 hI2
    have d0 : (k == 0) = true := by simp [k0]
    clear k0
    have HC : Aside0 (Calls Try.prog 14 #[v, .int .i64 a, .int .i64 b, .string s] (w.alloc (.cells #[.int .i64 k, .int .i64 a, .int .i64 b, .int .i64 c, .string s, .string t] 44)) (fun e w' => ∃ v', e = .returned (.tuple #[v', .int .i64 I, .int .i64 E]) ∧ DocO ok w' v' F N ∧ Below w.heap.size w w' ∧ (E ≠ 0 → v' = v))) := ⟨(ins_act ok v a b s _ HFR.out HD.out HG.out E HE.out).mono (by
      rintro e w' ⟨v', he, hd, hb, hv⟩
      rw [HF.out, HN.out, HI.out]
      exact ⟨v', he, hd, below_then HB0.out HB0.out.size hb, hv⟩)⟩
    go_enter Try.func22, Try.ntmps22
    go_wp2_with (first | (go_at_call 14; (with_reducible refine HC.out.mono ?_); rintro e W1 ⟨v1, rfl, hd, hb, hv⟩; have HD1 := Aside0.mk hd; have HB1 := Aside0.mk hb; have HV1 := Aside0.mk hv; clear hd hb hv) | fail)
    go_ret3
    exact ⟨v1, rfl, HD1.out, HB1.out, HV1.out⟩
  rw [if_neg k0] at hE hF
  by_cases k1 : k = 1
  · rw [if_pos k1] at hE hF
    have hN2 : N = next := by rw [hN, if_neg (fun h => k0 h.1)]
    have hI2 : I = 0 := by rw [hI, if_neg (fun h => k0 h.1)]
    have HE := Aside0.mk hE
    have HF := Aside0.mk hF
    have HN := Aside0.mk hN2
    have HI := Aside0.mk hI2
    clear hE hF hN hI hN2 hI2
    have d0 : (k == 0) = false := by simp [k0]
    have d1 : (k == 1) = true := by simp [k1]
    clear k0 k1
    have HC : Aside0 (Calls Try.prog 25 #[v, .int .i64 a] (w.alloc (.cells #[.int .i64 k, .int .i64 a, .int .i64 b, .int .i64 c, .string s, .string t] 44)) (fun e w' => ∃ v', e = .returned (.tuple #[v', .int .i64 E]) ∧ DocO ok w' v' F N ∧ Below w.heap.size w w' ∧ (E ≠ 0 → v' = v))) := ⟨(rem_act ok v a _ HFR.out HD.out HG.out E HE.out).mono (by
      intro e w' hp
      rw [HF.out, HN.out]
      exact Act2.to3 HB0.out hp)⟩
    have hI3 := HI.out
    subst hI3
    go_enter Try.func22, Try.ntmps22
    go_wp2_with (first | (go_at_call 25; (with_reducible refine HC.out.mono ?_); rintro e W1 ⟨v1, rfl, hd, hb, hv⟩; have HD1 := Aside0.mk hd; have HB1 := Aside0.mk hb; have HV1 := Aside0.mk hv; clear hd hb hv) | fail)
    go_ret3
    exact ⟨v1, rfl, HD1.out, HB1.out, HV1.out⟩
  rw [if_neg k1] at hE hF
  by_cases k2 : k = 2
  · rw [if_pos k2] at hE hF
    have hN2 : N = next := by rw [hN, if_neg (fun h => k0 h.1)]
    have hI2 : I = 0 := by rw [hI, if_neg (fun h => k0 h.1)]
    have HE := Aside0.mk hE
    have HF := Aside0.mk hF
    have HN := Aside0.mk hN2
    have HI := Aside0.mk hI2
    clear hE hF hN hI hN2 hI2
    have d0 : (k == 0) = false := by simp [k0]
    have d1 : (k == 1) = false := by simp [k1]
    have d2 : (k == 2) = true := by simp [k2]
    clear k0 k1 k2
    have HC : Aside0 (Calls Try.prog 16 #[v, .int .i64 a, .int .i64 b, .int .i64 c] (w.alloc (.cells #[.int .i64 k, .int .i64 a, .int .i64 b, .int .i64 c, .string s, .string t] 44)) (fun e w' => ∃ v', e = .returned (.tuple #[v', .int .i64 E]) ∧ DocO ok w' v' F N ∧ Below w.heap.size w w' ∧ (E ≠ 0 → v' = v))) := ⟨(mov_act ok v a b c _ HFR.out HD.out HG.out E HE.out).mono (by
      intro e w' hp
      rw [HF.out, HN.out]
      exact Act2.to3 HB0.out hp)⟩
    have hI3 := HI.out
    subst hI3
    go_enter Try.func22, Try.ntmps22
    go_wp2_with (first | (go_at_call 16; (with_reducible refine HC.out.mono ?_); rintro e W1 ⟨v1, rfl, hd, hb, hv⟩; have HD1 := Aside0.mk hd; have HB1 := Aside0.mk hb; have HV1 := Aside0.mk hv; clear hd hb hv) | fail)
    go_ret3
    exact ⟨v1, rfl, HD1.out, HB1.out, HV1.out⟩
  rw [if_neg k2] at hE hF
  by_cases k3 : k = 3
  · rw [if_pos k3] at hE hF
    have hN2 : N = next := by rw [hN, if_neg (fun h => k0 h.1)]
    have hI2 : I = 0 := by rw [hI, if_neg (fun h => k0 h.1)]
    have HE := Aside0.mk hE
    have HF := Aside0.mk hF
    have HN := Aside0.mk hN2
    have HI := Aside0.mk hI2
    clear hE hF hN hI hN2 hI2
    have d0 : (k == 0) = false := by simp [k0]
    have d1 : (k == 1) = false := by simp [k1]
    have d2 : (k == 2) = false := by simp [k2]
    have d3 : (k == 3) = true := by simp [k3]
    clear k0 k1 k2 k3
    have HC : Aside0 (Calls Try.prog 62 #[v, .int .i64 a, .string s, .string t] (w.alloc (.cells #[.int .i64 k, .int .i64 a, .int .i64 b, .int .i64 c, .string s, .string t] 44)) (fun e w' => ∃ v', e = .returned (.tuple #[v', .int .i64 E]) ∧ DocO ok w' v' F N ∧ Below w.heap.size w w' ∧ (E ≠ 0 → v' = v))) := ⟨(set_act ok v a s t _ HFR.out HD.out HG.out HT.out E HE.out).mono (by
      intro e w' hp
      rw [HF.out, HN.out]
      exact Act2.to3 HB0.out hp)⟩
    have hI3 := HI.out
    subst hI3
    go_enter Try.func22, Try.ntmps22
    go_wp2_with (first | (go_at_call 62; (with_reducible refine HC.out.mono ?_); rintro e W1 ⟨v1, rfl, hd, hb, hv⟩; have HD1 := Aside0.mk hd; have HB1 := Aside0.mk hb; have HV1 := Aside0.mk hv; clear hd hb hv) | fail)
    go_ret3
    exact ⟨v1, rfl, HD1.out, HB1.out, HV1.out⟩
  rw [if_neg k3] at hE hF
  by_cases k4 : k = 4
  · rw [if_pos k4] at hE hF
    have hN2 : N = next := by rw [hN, if_neg (fun h => k0 h.1)]
    have hI2 : I = 0 := by rw [hI, if_neg (fun h => k0 h.1)]
    have HE := Aside0.mk hE
    have HF := Aside0.mk hF
    have HN := Aside0.mk hN2
    have HI := Aside0.mk hI2
    clear hE hF hN hI hN2 hI2
    have d0 : (k == 0) = false := by simp [k0]
    have d1 : (k == 1) = false := by simp [k1]
    have d2 : (k == 2) = false := by simp [k2]
    have d3 : (k == 3) = false := by simp [k3]
    have d4 : (k == 4) = true := by simp [k4]
    clear k0 k1 k2 k3 k4
    have HC : Aside0 (Calls Try.prog 63 #[v, .int .i64 a, .string s] (w.alloc (.cells #[.int .i64 k, .int .i64 a, .int .i64 b, .int .i64 c, .string s, .string t] 44)) (fun e w' => ∃ v', e = .returned (.tuple #[v', .int .i64 E]) ∧ DocO ok w' v' F N ∧ Below w.heap.size w w' ∧ (E ≠ 0 → v' = v))) := ⟨(drp_act ok v a s _ HFR.out HD.out HG.out E HE.out).mono (by
      intro e w' hp
      rw [HF.out, HN.out]
      exact Act2.to3 HB0.out hp)⟩
    have hI3 := HI.out
    subst hI3
    go_enter Try.func22, Try.ntmps22
    go_wp2_with (first | (go_at_call 63; (with_reducible refine HC.out.mono ?_); rintro e W1 ⟨v1, rfl, hd, hb, hv⟩; have HD1 := Aside0.mk hd; have HB1 := Aside0.mk hb; have HV1 := Aside0.mk hv; clear hd hb hv) | fail)
    go_ret3
    exact ⟨v1, rfl, HD1.out, HB1.out, HV1.out⟩
  rw [if_neg k4] at hE hF
  have hE0 : E = 0 := hE
  have hN2 : N = next := by rw [hN, if_neg (fun h => k0 h.1)]
  have hI2 : I = 0 := by rw [hI, if_neg (fun h => k0 h.1)]
  have hF2 : F = f := by rw [hF]; split <;> rfl
  subst hE0
  subst hN2
  subst hI2
  subst hF2
  have d0 : (k == 0) = false := by simp [k0]
  have d1 : (k == 1) = false := by simp [k1]
  have d2 : (k == 2) = false := by simp [k2]
  have d3 : (k == 3) = false := by simp [k3]
  have d4 : (k == 4) = false := by simp [k4]
  clear k0 k1 k2 k3 k4 hE hF hN hI
  go_enter Try.func22, Try.ntmps22
  go_wp2_with fail
  go_ret3
  exact ⟨v, rfl, HD.out, HB0.out, fun _ => rfl⟩
end
end Go.Proofs.Ytmkakofnabfinaa.P
end
section
set_option linter.unusedVariables false
set_option linter.unusedSimpArgs false
namespace Go.Proofs.Ytmkakofnabfinaa.P
open Go.RowKit Go.Proofs.YtmkakofnabfinaaW.PrintWords Go.Proofs.YtmkakofnabfinaaW.PrintLast Go.Proofs.YtmkakofnabfinaaW.PrintMore
attribute [local go_sem] max2_int min2_int max_two min_two max_three min_three max_four min_four
set_option linter.unusedVariables false
set_option linter.unusedSimpArgs false
theorem ints_refl (l : List Int) (hl : l.length ≤ 1099511627776) : ∀ (d i k : Nat), i + d = l.length → d < k → gouacheref01_Ints.l0 k l l (l.length : Int) (i : Int) = some true := by
  intro d
  induction d with
  | zero =>
    intro i k h hk
    obtain ⟨k, rfl⟩ : ∃ q, k = q + 1 := ⟨k - 1, by omega⟩
    simp only [gouacheref01_Ints.l0]
    rw [if_neg (by omega)]
  | succ d ih =>
    intro i k h hk
    obtain ⟨k, rfl⟩ : ∃ q, k = q + 1 := ⟨k - 1, by omega⟩
    simp only [gouacheref01_Ints.l0]
    rw [if_pos (by omega), if_pos (by omega), if_pos (by omega)]
    rw [show wrap64 ((i : Int) + 1) = ((i + 1 : Nat) : Int) by unfold wrap64; omega]
    simp only [ih (i + 1) k (by omega) (by omega)]
    simp; omega
theorem attrs_refl (a : Int) (b : ByteArray) (c : Int) (l : List Int) (m : List S64) (hl : m.length ≤ 1099511627776) : ∀ (d i k : Nat), i + d = m.length → d < k → gouacheref07_Same.l0 k (m.length : Int) (i : Int) a b c l m a b c l m = some true := by
  intro d
  induction d with
  | zero =>
    intro i k h hk
    obtain ⟨k, rfl⟩ : ∃ q, k = q + 1 := ⟨k - 1, by omega⟩
    simp only [gouacheref07_Same.l0]
    rw [if_neg (by omega)]
  | succ d ih =>
    intro i k h hk
    obtain ⟨k, rfl⟩ : ∃ q, k = q + 1 := ⟨k - 1, by omega⟩
    simp only [gouacheref07_Same.l0]
    rw [if_pos (by omega), if_pos (by omega), if_pos (by omega)]
    rw [show wrap64 ((i : Int) + 1) = ((i + 1 : Nat) : Int) by unfold wrap64; omega]
    simp only [ih (i + 1) k (by omega) (by omega)]
    simp; omega
theorem same_refl (a : Int) (b : ByteArray) (c : Int) (l : List Int) (m : List S64) (hl : l.length ≤ 1099511627776) (hm : m.length ≤ 1099511627776) : ∃ k, gouacheref07_Same.f k a b c l m a b c l m = some true := by
  refine ⟨l.length + m.length + 5, ?_⟩
  unfold gouacheref07_Same.f gouacheref01_Ints.f
  have h0 := ints_refl l hl l.length 0 (l.length + m.length + 5) (by omega) (by omega)
  rw [show ((0 : Nat) : Int) = 0 from rfl] at h0
  rw [if_pos rfl, if_pos rfl, if_pos rfl, if_pos rfl, h0]
  simp only [Option.bind_some, if_true]
  rw [show l.length + m.length + 5 = (l.length + m.length + 4) + 1 from rfl]
  simp only [gouacheref07_Same.j0]
  rw [if_neg (by simp)]
  exact attrs_refl a b c l m hm m.length 0 _ (by omega) (by omega)
set_option maxHeartbeats 16000000 in
set_option maxRecDepth 100000 in
theorem equal_calls (v v' : Value) (f f' : Nat → Option S56) (next next' : Int) (w : World) (h : DocF w v f next) (h' : DocF w v' f' next') (hg : Good f next) (he : ∀ j, 1 ≤ j → j < next → look f' j = look f j) :
    Calls Try.prog 28 #[v, v'] w fun e w' => e = .returned (.bool true) ∧ Below w.heap.size w w' := by
  have HD := Aside0.mk h
  have HD' := Aside0.mk h'
  have HG := Aside0.mk hg
  have HEQ := Aside0.mk he
  have hu56 := Try.underlying56
  have hlo := hg.lo
  have hhi := hg.hi
  clear h h' hg he
  go_enter Try.func28, Try.ntmps28
  go_wp2_with fail
  go_loopg [5] (next.toNat + 1) (fun kq v5 w' => ∃ (id : Nat), v5 = .int .i64 id ∧ Aside0 (id + kq = next.toNat + 2) ∧ Aside0 (1 ≤ id ∧ id ≤ next.toNat) ∧ Aside0 (Below w.heap.size w w'))
  case atStart => exact ⟨1, rfl, ⟨by omega⟩, ⟨by omega⟩, ⟨Below.refl _ _⟩⟩
  case round =>
    obtain ⟨id, rfl, HK, HI, HB⟩ := hrel
    cases gk with
    | zero => exact absurd HK.out (by have := HI.out; omega)
    | succ g0 =>
      have HDW := Aside0.mk (HD.out.below HB.out)
      by_cases c0 : (id : Int) < next
      · have c1 : decide ((id : Int) < next) = true := decide_eq_true c0
        have HI0 := Aside0.mk c0
        have HC1 : Aside0 (∀ W : World, Below wr.heap.size wr W → Calls Try.prog 29 #[v, .int .i64 (id : Int)] W (CopyPost W (look f id))) := ⟨fun W hW => copy_calls v f next id w W HD.out (below_then HB.out HB.out.size hW) (HG.out.sizes id).1 (HG.out.sizes id).2⟩
        have HC2 : Aside0 (∀ W : World, Below wr.heap.size wr W → Calls Try.prog 29 #[v', .int .i64 (id : Int)] W (CopyPost W (look f id))) := ⟨fun W hW => by
          have e := HEQ.out id (by have := HI.out; omega) c0
          have h := copy_calls v' f' next' id w W HD'.out (below_then HB.out HB.out.size hW) (by rw [e]; exact (HG.out.sizes id).1) (by rw [e]; exact (HG.out.sizes id).2)
          rw [e] at h
          exact h⟩
        have HSZ := Aside0.mk (HG.out.sizes id)
        clear c0
        obtain ⟨o, ho⟩ : ∃ o, o = look f id := ⟨_, rfl⟩
        rw [← ho] at HC1 HC2 HSZ
        obtain ⟨x, hx⟩ : ∃ x, x = o.getD z56 := ⟨_, rfl⟩
        rw [← hx] at HSZ
        have HX := Aside0.mk hx
        have HSAME := Aside0.mk (same_refl x.f0 x.f1 x.f2 x.f3 x.f4 HSZ.out.1 HSZ.out.2)
        clear ho hx
        go_upto_region 5 with (first
          | (go_at_call 27; refine (dnext_calls v f next wr HDW.out).mono ?_; rintro e W1 ⟨rfl, hb1⟩; have HB1 := Aside0.mk hb1; clear hb1)
          | (go_at_call 29; refine (HC1.out _ HB1.out).mono ?_; rintro e W2 ⟨cs, rfl, hM, hb2⟩; rw [← HX.out] at hM; obtain ⟨A3, c3, A4, c4, hcs, l3, g3, l4, g4⟩ := k56_open (k56.K_of_M hM); obtain ⟨cl⟩ := cs; simp only at hcs; subst hcs; have HC3 := Aside0.mk g3; have HC4 := Aside0.mk g4; have HLC := Aside0.mk (And.intro l3 l4); have HB2 := Aside0.mk (below_then HB1.out HB1.out.size hb2); clear hM hb2 g3 g4 l3 l4)
          | fail)
        have HB3 : Aside0 (Below wr.heap.size wr (W2.alloc (.cells #[.int .i64 x.f0, .string x.f1, .int .i64 x.f2, .slice A3 x.f3.length c3, .slice A4 x.f4.length c4] 56))) := ⟨below_alloc HB2.out _⟩
        have HG6 : Aside0 ((W2.alloc (.cells #[.int .i64 x.f0, .string x.f1, .int .i64 x.f2, .slice A3 x.f3.length c3, .slice A4 x.f4.length c4] 56)).heap[W2.heap.size]? = some (.cells #[.int .i64 x.f0, .string x.f1, .int .i64 x.f2, .slice A3 x.f3.length c3, .slice A4 x.f4.length c4] 56 (0, 0))) := ⟨blk_new _ _⟩
        have HA3 : Aside0 (Kd.C (Kd.int .i64) (W2.alloc (.cells #[.int .i64 x.f0, .string x.f1, .int .i64 x.f2, .slice A3 x.f3.length c3, .slice A4 x.f4.length c4] 56)) A3 x.f3.length x.f3) := ⟨Kd.C_below HC3.out (below_alloc (Below.refl _ _) _)⟩
        have HA4 : Aside0 (Kd.C k64 (W2.alloc (.cells #[.int .i64 x.f0, .string x.f1, .int .i64 x.f2, .slice A3 x.f3.length c3, .slice A4 x.f4.length c4] 56)) A4 x.f4.length x.f4) := ⟨Kd.C_below HC4.out (below_alloc (Below.refl _ _) _)⟩
        clear HC3 HC4
        generalize W2.alloc (.cells #[.int .i64 x.f0, .string x.f1, .int .i64 x.f2, .slice A3 x.f3.length c3, .slice A4 x.f4.length c4] 56) = W3 at HB3 HG6 HA3 HA4 ⊢
        generalize W2.heap.size = g6 at HG6 ⊢
        go_upto_region 6 with (first
          | (go_at_call 29; refine (HC2.out _ HB3.out).mono ?_; rintro e W4 ⟨cs, rfl, hM, hb4⟩; rw [← HX.out] at hM; obtain ⟨B3, d3, B4, d4, hcs, l3, g3, l4, g4⟩ := k56_open (k56.K_of_M hM); obtain ⟨cl⟩ := cs; simp only at hcs; subst hcs; have HC3 := Aside0.mk g3; have HC4 := Aside0.mk g4; have HLD := Aside0.mk (And.intro l3 l4); have HB4 := Aside0.mk hb4; clear hM hb4 g3 g4 l3 l4)
          | fail)
        have HB5 : Aside0 (Below W3.heap.size W3 (W4.alloc (.cells #[.int .i64 x.f0, .string x.f1, .int .i64 x.f2, .slice B3 x.f3.length d3, .slice B4 x.f4.length d4] 56))) := ⟨below_alloc HB4.out _⟩
        have HG8 : Aside0 ((W4.alloc (.cells #[.int .i64 x.f0, .string x.f1, .int .i64 x.f2, .slice B3 x.f3.length d3, .slice B4 x.f4.length d4] 56)).heap[W4.heap.size]? = some (.cells #[.int .i64 x.f0, .string x.f1, .int .i64 x.f2, .slice B3 x.f3.length d3, .slice B4 x.f4.length d4] 56 (0, 0))) := ⟨blk_new _ _⟩
        have HD3 : Aside0 (Kd.C (Kd.int .i64) (W4.alloc (.cells #[.int .i64 x.f0, .string x.f1, .int .i64 x.f2, .slice B3 x.f3.length d3, .slice B4 x.f4.length d4] 56)) B3 x.f3.length x.f3) := ⟨Kd.C_below HC3.out (below_alloc (Below.refl _ _) _)⟩
        have HD4 : Aside0 (Kd.C k64 (W4.alloc (.cells #[.int .i64 x.f0, .string x.f1, .int .i64 x.f2, .slice B3 x.f3.length d3, .slice B4 x.f4.length d4] 56)) B4 x.f4.length x.f4) := ⟨Kd.C_below HC4.out (below_alloc (Below.refl _ _) _)⟩
        clear HC3 HC4
        generalize W4.alloc (.cells #[.int .i64 x.f0, .string x.f1, .int .i64 x.f2, .slice B3 x.f3.length d3, .slice B4 x.f4.length d4] 56) = W5 at HB5 HG8 HD3 HD4 ⊢
        generalize W4.heap.size = g8 at HG8 ⊢
        have hg6 := blk_below HG6.out HB5.out
        have m0 := (blk_cell hg6 0).trans (show _ = some _ from rfl)
        have m1 := (blk_cell hg6 1).trans (show _ = some _ from rfl)
        have m2 := (blk_cell hg6 2).trans (show _ = some _ from rfl)
        have m3 := (blk_cell hg6 3).trans (show _ = some _ from rfl)
        have m4 := (blk_cell hg6 4).trans (show _ = some _ from rfl)
        have n0 := (blk_cell HG8.out 0).trans (show _ = some _ from rfl)
        have n1 := (blk_cell HG8.out 1).trans (show _ = some _ from rfl)
        have n2 := (blk_cell HG8.out 2).trans (show _ = some _ from rfl)
        have n3 := (blk_cell HG8.out 3).trans (show _ = some _ from rfl)
        have n4 := (blk_cell HG8.out 4).trans (show _ = some _ from rfl)
        have HCALL : Aside0 (Calls Try.prog 69 #[.agg #[.int .i64 x.f0, .string x.f1, .int .i64 x.f2, .slice A3 x.f3.length c3, .slice A4 x.f4.length c4], .agg #[.int .i64 x.f0, .string x.f1, .int .i64 x.f2, .slice B3 x.f3.length d3, .slice B4 x.f4.length d4]] W5 fun e w' => e = .returned (.bool true) ∧ Below W5.heap.size W5 w') := ⟨by
          obtain ⟨k, hk⟩ := HSAME.out
          exact gouacheref07_Same.calls k x.f0 x.f1 x.f2 A3 c3 x.f3 A4 c4 x.f4 x.f0 x.f1 x.f2 B3 d3 x.f3 B4 d4 x.f4 true W5 (Kd.C_below HA3.out HB5.out) HLC.out.1 (Kd.C_below HA4.out HB5.out) HLC.out.2 HD3.out HLD.out.1 HD4.out HLD.out.2 hk⟩
        clear hg6
        go_wp2_with (first | (go_at_call 69; (with_reducible refine HCALL.out.mono ?_); rintro e W6 ⟨rfl, hb6⟩; have HB6 := Aside0.mk (below_then (below_then HB3.out HB3.out.size HB5.out) (Nat.le_trans HB3.out.size HB5.out.size) hb6); clear hb6) | fail)
        go_roundg g0
        case measure => have := HK.out; omega
        case rel => exact ⟨id + 1, (by have := HI0.out; congr 1; unfold wrap64; omega), ⟨by have := HK.out; omega⟩, ⟨by have := HI.out; have := HI0.out; omega⟩, ⟨below_then HB.out HB.out.size HB6.out⟩⟩
      · have c1 : decide ((id : Int) < next) = false := decide_eq_false c0
        clear c0
        go_wp2_with (first | (go_at_call 27; refine (dnext_calls v f next wr HDW.out).mono ?_; rintro e W1 ⟨rfl, hb1⟩; have HB1 := Aside0.mk (below_then HB.out HB.out.size hb1); clear hb1) | fail)
        go_ret
        exact ⟨rfl, HB1.out⟩
end Go.Proofs.Ytmkakofnabfinaa.P
end
