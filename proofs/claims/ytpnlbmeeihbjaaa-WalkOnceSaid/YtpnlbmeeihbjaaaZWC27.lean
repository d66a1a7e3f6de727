/- WalkOnce: for every input the law returns true, and each argument reads behind the call as it read before. -/
import Derived.Test.YtpnlbmeeihbjaaaZWC18
import Derived.Test.YtpnlbmeeihbjaaaZWC22
import Derived.Test.YtpnlbmeeihbjaaaZWC26
section
set_option linter.unusedVariables false
set_option linter.unusedSimpArgs false
namespace Go.Proofs.Ytpnlbmeeihbjaaa.P
open Go.RowKit Go.Proofs.YtpnlbmeeihbjaaaW.PrintWords Go.Proofs.YtpnlbmeeihbjaaaW.PrintLast Go.Proofs.YtpnlbmeeihbjaaaW.PrintMore
attribute [local go_sem] max2_int min2_int max_two min_two max_three min_three max_four min_four
set_option linter.unusedVariables false
set_option linter.unusedSimpArgs false
structure Good (f : Nat → Option S40) (next : Int) : Prop where
  lo : 2 ≤ next
  hi : next ≤ 1048576
  dom : ∀ k x, look f k = some x → 1 ≤ k ∧ k < next
  num : ∀ k x, look f k = some x → x.f0 = k
  root : ∃ r, look f 1 = some r ∧ r.f2 = 0
  par : ∀ k x, look f k = some x → k ≠ 1 → ∃ p, look f x.f2 = some p ∧ k ∈ p.f3
  kid : ∀ k x c, look f k = some x → c ∈ x.f3 → c ≠ 1 ∧ ∃ y, look f c = some y ∧ y.f2 = k
  nodup : ∀ k x, look f k = some x → x.f3.Nodup
  dep : ∃ d : Int → Nat, d 1 = 1 ∧ ∀ k x, look f k = some x → d k ≤ 512 ∧ (k ≠ 1 → d k = d x.f2 + 1)
  att : ∀ k x, look f k = some x → SortA x.f4 ∧ x.f4.length ≤ 16
theorem look_put (f : Nat → Option S40) (n : Int) (o : Option S40) (j : Int) (h0 : 0 ≤ n) (h1 : n < 1048576) : look (putF f n o) j = if j = n then o else look f j := by
  unfold putF
  rw [if_pos ⟨h0, h1⟩]
  unfold look upd
  by_cases e : j = n
  · subst e; rw [if_pos ⟨h0, h1⟩, if_pos rfl, if_pos rfl]
  · rw [if_neg e]
    by_cases c : 0 ≤ j ∧ j < 1048576
    · rw [if_pos c, if_pos c, if_neg (by omega)]
    · rw [if_neg c, if_neg c]
theorem look_out (f : Nat → Option S40) (j : Int) (h : j < 0 ∨ 1048576 ≤ j) : look f j = none := by unfold look; rw [if_neg (by omega)]
section
variable {f : Nat → Option S40} {next : Int}
theorem Good.zero (h : Good f next) : look f 0 = none := by
  cases e : look f 0 with
  | none => rfl
  | some x => have := (h.dom 0 x e).1; omega
def upL (f : Nat → Option S40) : Nat → Int → List Int
  | 0, _ => []
  | n + 1, k => match look f k with
    | none => []
    | some x => k :: upL f n x.f2
def ch (f : Nat → Option S40) (k : Int) : List Int := upL f 513 k
theorem upL_none (n : Nat) (k : Int) (h : look f k = none) : upL f n k = [] := by cases n <;> simp [upL, h]
theorem upL_len (h : Good f next) : ∃ d : Int → Nat, (∀ k x, look f k = some x → 1 ≤ d k ∧ d k ≤ 512) ∧ (∀ k x, look f k = some x → k ≠ 1 → d k = d x.f2 + 1) ∧ d 1 = 1 ∧ ∀ n k x, look f k = some x → d k ≤ n → (upL f n k).length = d k ∧ ∀ m, d k ≤ m → upL f m k = upL f n k := by
  obtain ⟨d, d1, hd⟩ := h.dep
  have hpos : ∀ k x, look f k = some x → 1 ≤ d k := fun k x hk => by
    by_cases e : k = 1
    · rw [e, d1]; omega
    · have := (hd k x hk).2 e; omega
  refine ⟨d, fun k x hk => ⟨hpos k x hk, (hd k x hk).1⟩, fun k x hk => (hd k x hk).2, d1, ?_⟩
  intro n
  induction n with
  | zero => intro k x hk hn; have := hpos k x hk; omega
  | succ n ih =>
    intro k x hk hn
    by_cases e : k = 1
    · subst e
      obtain ⟨r, hr, hr0⟩ := h.root
      rw [hk] at hr
      obtain rfl := Option.some.inj hr
      refine ⟨by simp only [upL, hk, hr0]; rw [upL_none n 0 h.zero, d1]; rfl, fun m hm => ?_⟩
      obtain ⟨m, rfl⟩ : ∃ q, m = q + 1 := ⟨m - 1, by omega⟩
      simp only [upL, hk, hr0]
      rw [upL_none n 0 h.zero, upL_none m 0 h.zero]
    · have hdk := (hd k x hk).2 e
      obtain ⟨p, hp, _⟩ := h.par k x hk e
      obtain ⟨i1, i2⟩ := ih x.f2 p hp (by omega)
      refine ⟨by simp only [upL, hk, List.length_cons, i1]; omega, fun m hm => ?_⟩
      obtain ⟨m, rfl⟩ : ∃ q, m = q + 1 := ⟨m - 1, by omega⟩
      simp only [upL, hk]
      rw [i2 m (by omega)]
theorem ch_none (k : Int) (h : look f k = none) : ch f k = [] := upL_none _ k h
theorem ch_step (h : Good f next) {k : Int} {x : S40} (hk : look f k = some x) : ch f k = k :: ch f x.f2 := by
  obtain ⟨d, hd, hs, d1, hl⟩ := upL_len h
  unfold ch
  conv => lhs; unfold upL
  simp only [hk]
  by_cases e : k = 1
  · subst e
    obtain ⟨r, hr, hr0⟩ := h.root
    rw [hk] at hr
    obtain rfl := Option.some.inj hr
    rw [hr0, upL_none _ 0 h.zero, upL_none _ 0 h.zero]
  · obtain ⟨p, hp, _⟩ := h.par k x hk e
    have h1 := hs k x hk e
    have h2 := (hd k x hk).2
    rw [(hl 512 x.f2 p hp (by omega)).2 513 (by omega)]
theorem ch_root (h : Good f next) : ch f 1 = [1] := by
  obtain ⟨r, hr, hr0⟩ := h.root
  rw [ch_step h hr, hr0, ch_none 0 h.zero]
theorem ch_le (h : Good f next) (k : Int) : (ch f k).length ≤ 512 := by
  cases e : look f k with
  | none => rw [ch_none k e]; simp
  | some x =>
    obtain ⟨d, hd, hs, d1, hl⟩ := upL_len h
    have h2 := (hd k x e).2
    have := (hl 513 k x e (by omega)).1
    unfold ch; omega
theorem ch_pos (h : Good f next) {k : Int} {x : S40} (hk : look f k = some x) : 1 ≤ (ch f k).length := by rw [ch_step h hk]; simp
theorem ch_mem_look (h : Good f next) : ∀ (n : Nat) (k a : Int), (ch f k).length ≤ n → a ∈ ch f k → ∃ x, look f a = some x := by
  intro n
  induction n with
  | zero => intro k a hn ha; rw [List.eq_nil_of_length_eq_zero (by omega : (ch f k).length = 0)] at ha; cases ha
  | succ n ih =>
    intro k a hn ha
    cases e : look f k with
    | none => rw [ch_none k e] at ha; cases ha
    | some x =>
      rw [ch_step h e] at ha hn
      rcases List.mem_cons.1 ha with rfl | h1
      · exact ⟨x, e⟩
      · exact ih x.f2 a (by simpa using hn) h1
theorem ch_look (h : Good f next) {k a : Int} (ha : a ∈ ch f k) : ∃ x, look f a = some x := ch_mem_look h _ k a (Nat.le_refl _) ha
theorem ch_self (h : Good f next) {k : Int} {x : S40} (hk : look f k = some x) : k ∈ ch f k := by rw [ch_step h hk]; exact List.mem_cons_self
theorem ch_suffix (h : Good f next) : ∀ (n : Nat) (k a : Int), (ch f k).length ≤ n → a ∈ ch f k → ∃ l, ch f k = l ++ ch f a := by
  intro n
  induction n with
  | zero => intro k a hn ha; rw [List.eq_nil_of_length_eq_zero (by omega : (ch f k).length = 0)] at ha; cases ha
  | succ n ih =>
    intro k a hn ha
    cases e : look f k with
    | none => rw [ch_none k e] at ha; cases ha
    | some x =>
      have hs := ch_step h e
      rw [hs] at ha hn
      rcases List.mem_cons.1 ha with rfl | h1
      · exact ⟨[], rfl⟩
      · obtain ⟨l, hl⟩ := ih x.f2 a (by simpa using hn) h1
        exact ⟨k :: l, by rw [hs, hl]; rfl⟩
theorem ch_trans (h : Good f next) {k a b : Int} (ha : a ∈ ch f k) (hb : b ∈ ch f a) : b ∈ ch f k := by
  obtain ⟨l, hl⟩ := ch_suffix h _ k a (Nat.le_refl _) ha
  rw [hl]; exact List.mem_append_right _ hb
theorem ch_nodup (h : Good f next) : ∀ (n : Nat) (k : Int), (ch f k).length ≤ n → (ch f k).Nodup := by
  intro n
  induction n with
  | zero => intro k hn; rw [List.eq_nil_of_length_eq_zero (by omega : (ch f k).length = 0)]; exact List.nodup_nil
  | succ n ih =>
    intro k hn
    cases e : look f k with
    | none => rw [ch_none k e]; exact List.nodup_nil
    | some x =>
      have hs := ch_step h e
      rw [hs] at hn ⊢
      refine List.nodup_cons.2 ⟨fun hk => ?_, ih x.f2 (by simpa using hn)⟩
      obtain ⟨l, hl⟩ := ch_suffix h _ x.f2 k (Nat.le_refl _) hk
      have h1 : (ch f x.f2).length = l.length + (ch f k).length := by rw [hl, List.length_append]
      have h2 : (ch f k).length = (ch f x.f2).length + 1 := by rw [hs]; rfl
      omega
theorem ch_len_of (h : Good f next) {k a : Int} (ha : a ∈ ch f k) : (ch f a).length ≤ (ch f k).length := by
  obtain ⟨l, hl⟩ := ch_suffix h _ k a (Nat.le_refl _) ha
  rw [hl, List.length_append]; omega
theorem ch_has_root (h : Good f next) : ∀ (n : Nat) (k : Int) (x : S40), (ch f k).length ≤ n → look f k = some x → 1 ∈ ch f k := by
  intro n
  induction n with
  | zero => intro k x hn hk; have := ch_pos h hk; omega
  | succ n ih =>
    intro k x hn hk
    have hs := ch_step h hk
    by_cases e : k = 1
    · rw [hs, e]; exact List.mem_cons_self
    · obtain ⟨p, hp, _⟩ := h.par k x hk e
      rw [hs] at hn ⊢
      exact List.mem_cons_of_mem _ (ih x.f2 p (by simpa using hn) hp)
theorem depL_ch (h : Good f next) : ∀ (m : Nat) (k : Int) (c : Int), (ch f k).length < m → 0 ≤ c → c + (ch f k).length ≤ 1000000 → depL f m (look f k) c = some (c + (ch f k).length) := by
  intro m
  induction m with
  | zero => intro k c hm; omega
  | succ m ih =>
    intro k c hm h0 h1
    cases e : look f k with
    | none => rw [ch_none k e]; simp [depL]
    | some x =>
      have hs := ch_step h e
      rw [hs] at hm h1 ⊢
      simp only [depL, List.length_cons] at hm h1 ⊢
      rw [show wrap64 (c + 1) = c + 1 by unfold wrap64; omega, ih x.f2 (c + 1) (by omega) (by omega) (by omega)]
      congr 1; omega
theorem depL_eq (h : Good f next) (k : Int) : depL f 600 (look f k) 0 = some ((ch f k).length : Int) := by
  have := ch_le h k
  rw [depL_ch h 600 k 0 (by omega) (by omega) (by omega)]; simp
theorem depD_ch (h : Good f next) (k : Int) : depD f 600 k = (ch f k).length := by unfold depD; rw [depL_eq h k]; rfl
theorem witL_ch (h : Good f next) (a : Int) : ∀ (m : Nat) (k : Int), (ch f k).length < m → witL f a m (look f k) = some (decide (a ∈ ch f k)) := by
  intro m
  induction m with
  | zero => intro k hm; omega
  | succ m ih =>
    intro k hm
    cases e : look f k with
    | none => rw [ch_none k e]; simp [witL]
    | some x =>
      have hs := ch_step h e
      have hx := h.num k x e
      rw [hs] at hm ⊢
      simp only [witL, hx]
      by_cases c : k = a
      · rw [if_pos c, c]; simp
      · rw [if_neg c, ih x.f2 (by simpa using hm)]
        congr 1
        simp [Ne.symm c]
theorem witL_eq (h : Good f next) (a k : Int) : witL f a 600 (look f k) = some (decide (a ∈ ch f k)) := witL_ch h a 600 k (by have := ch_le h k; omega)
theorem below_kid (h : Good f next) {id k c : Int} {x : S40} (hk : look f k = some x) (hid : id ∈ ch f k) (hc : c ∈ x.f3) : id ∈ ch f c ∧ ∃ y, look f c = some y ∧ y.f2 = k := by
  obtain ⟨_, y, hy, hp⟩ := h.kid k x c hk hc
  exact ⟨by rw [ch_step h hy, hp]; exact List.mem_cons_of_mem _ hid, y, hy, hp⟩
structure BelS (f : Nat → Option S40) (id : Int) (l : List Int) (i : Nat) : Prop where
  nd : l.Nodup
  bel : ∀ c ∈ l, id ∈ ch f c
  fst : id ∈ l
  le : i ≤ l.length
  up : ∀ c ∈ l, c ≠ id → ∃ j, j < i ∧ ∃ y, look f c = some y ∧ l[j]? = some y.f2
  down : ∀ j c x, j < i → l[j]? = some c → look f c = some x → ∀ e ∈ x.f3, e ∈ l
theorem nodup_bound : ∀ (n : Nat) (l : List Int), l.Nodup → (∀ c ∈ l, 1 ≤ c ∧ c ≤ n) → l.length ≤ n
  | 0, l, _, hb => by
    cases l with
    | nil => simp
    | cons a r => have := hb a List.mem_cons_self; omega
  | n + 1, l, hn, hb => by
    by_cases e : ((n : Int) + 1) ∈ l
    · have h1 := nodup_bound n (l.erase ((n : Int) + 1)) (hn.erase _) (fun c hc => by
        have h2 := (List.Nodup.mem_erase_iff hn).1 hc
        have h3 := hb c h2.2
        have := h2.1
        omega)
      rw [List.length_erase_of_mem e] at h1
      omega
    · have h1 := nodup_bound n l hn (fun c hc => by
        have h3 := hb c hc
        have : c ≠ (n : Int) + 1 := fun h => e (h ▸ hc)
        omega)
      omega
theorem belS_step (h : Good f next) {id : Int} {l : List Int} {i : Nat} (hs : BelS f id l i) (hi : i < l.length) : BelS f id (l ++ ((look f (l.getD i 0)).getD z40).f3) (i + 1) := by
  have hli : l[i]? = some l[i] := List.getElem?_eq_getElem hi
  rw [show l.getD i 0 = l[i] by rw [List.getD_eq_getElem?_getD, hli]; rfl]
  have hmem : l[i] ∈ l := List.getElem_mem hi
  obtain ⟨x, hx⟩ : ∃ x, look f l[i] = some x := by
    have := hs.bel _ hmem
    cases e : look f l[i] with
    | none => rw [ch_none _ e] at this; cases this
    | some x => exact ⟨x, rfl⟩
  have e3 : ((look f l[i]).getD z40).f3 = x.f3 := by rw [hx]; rfl
  rw [e3]
  have hnew : ∀ c ∈ x.f3, c ∉ l := by
    intro c hc hcl
    obtain ⟨hb, y, hy, hp⟩ := below_kid h hx (hs.bel _ hmem) hc
    by_cases e : c = id
    · subst e
      have h1 := hs.bel _ hmem
      have h2 := ch_len_of h h1
      have h4 : (ch f c).length = (ch f l[i]).length + 1 := by rw [ch_step h hy, hp]; rfl
      omega
    · obtain ⟨j, hj, y', hy', hl⟩ := hs.up c hcl e
      rw [hy] at hy'
      obtain rfl := Option.some.inj hy'
      rw [hp] at hl
      have hj2 : j < l.length := by omega
      have : l[j] = l[i] := by rw [List.getElem?_eq_getElem hj2] at hl; exact Option.some.inj hl
      have := (List.getElem_inj hs.nd).1 this
      omega
  refine ⟨?_, ?_, List.mem_append_left _ hs.fst, by rw [List.length_append]; omega, ?_, ?_⟩
  · refine List.nodup_append.2 ⟨hs.nd, h.nodup _ x hx, fun a ha b hb e => ?_⟩
    subst e
    exact hnew a hb ha
  · intro c hc
    rcases List.mem_append.1 hc with h1 | h1
    · exact hs.bel c h1
    · exact (below_kid h hx (hs.bel _ hmem) h1).1
  · intro c hc hne
    rcases List.mem_append.1 hc with h1 | h1
    · obtain ⟨j, hj, y, hy, hl⟩ := hs.up c h1 hne
      exact ⟨j, by omega, y, hy, by rw [List.getElem?_append_left (by omega)]; exact hl⟩
    · obtain ⟨_, y, hy, hp⟩ := below_kid h hx (hs.bel _ hmem) h1
      exact ⟨i, by omega, y, hy, by rw [List.getElem?_append_left hi, hli, hp]⟩
  · intro j c y hj hl hy e he
    rcases Nat.lt_or_ge j i with h1 | h1
    · rw [List.getElem?_append_left (by omega)] at hl
      exact List.mem_append_left _ (hs.down j c y h1 hl hy e he)
    · have : j = i := by omega
      subst this
      rw [List.getElem?_append_left hi, hli] at hl
      obtain rfl := Option.some.inj hl
      rw [hx] at hy
      obtain rfl := Option.some.inj hy
      exact List.mem_append_right _ he
theorem belS_end (h : Good f next) {id : Int} {l : List Int} (hs : BelS f id l l.length) : ∀ (n : Nat) (c : Int), (ch f c).length ≤ n → id ∈ ch f c → c ∈ l := by
  intro n
  induction n with
  | zero => intro c hn hc; rw [List.eq_nil_of_length_eq_zero (by omega : (ch f c).length = 0)] at hc; cases hc
  | succ n ih =>
    intro c hn hc
    by_cases e : c = id
    · rw [e]; exact hs.fst
    · obtain ⟨y, hy⟩ : ∃ y, look f c = some y := by
        cases e : look f c with
        | none => rw [ch_none c e] at hc; cases hc
        | some y => exact ⟨y, rfl⟩
      have hst := ch_step h hy
      rw [hst] at hc hn
      have hc2 : id ∈ ch f y.f2 := by
        rcases List.mem_cons.1 hc with h1 | h1
        · exact absurd h1.symm e
        · exact h1
      by_cases e1 : c = 1
      · exfalso
        subst e1
        obtain ⟨r, hr, hr0⟩ := h.root
        rw [hy] at hr
        obtain rfl := Option.some.inj hr
        rw [hr0, ch_none 0 h.zero] at hc2
        cases hc2
      · obtain ⟨p, hp, hkp⟩ := h.par c y hy e1
        have hmem := ih y.f2 (by simpa using hn) hc2
        obtain ⟨j, hj, ej⟩ := List.getElem_of_mem hmem
        exact hs.down j y.f2 p hj (by rw [List.getElem?_eq_getElem hj, ej]) hp c hkp
theorem belL_all (h : Good f next) {id : Int} : ∀ (n : Nat) (l : List Int) (i : Nat), BelS f id l i → 1048576 - i < n → ∃ r, belL f n l i = some r ∧ BelS f id r r.length := by
  intro n
  induction n with
  | zero => intro l i hs hn; omega
  | succ n ih =>
    intro l i hs hn
    have hlen : l.length ≤ 1048576 := nodup_bound 1048576 l hs.nd (fun c hc => by
      cases e : look f c with
      | none => have := hs.bel c hc; rw [ch_none c e] at this; cases this
      | some x =>
        have := h.dom c x e
        have := h.hi
        omega)
    unfold belL
    by_cases c : i < l.length
    · rw [if_pos c]
      exact ih _ _ (belS_step h hs c) (by omega)
    · rw [if_neg c]
      have : i = l.length := by have := hs.le; omega
      subst this
      exact ⟨l, rfl, hs⟩
theorem belS_start (h : Good f next) {id : Int} {x : S40} (hx : look f id = some x) : BelS f id [id] 0 :=
  ⟨by simp, fun c hc => by rw [List.mem_singleton.1 hc]; exact ch_self h hx, List.mem_cons_self, by simp, fun c hc hne => absurd (List.mem_singleton.1 hc) hne, fun j c y hj => by omega⟩
def belR (f : Nat → Option S40) (id : Int) : List Int := (belL f 1048577 [id] 0).getD []
theorem belR_eq (h : Good f next) {id : Int} {x : S40} (hx : look f id = some x) : belL f 1048577 [id] 0 = some (belR f id) ∧ (belR f id).Nodup ∧ ∀ c, c ∈ belR f id ↔ id ∈ ch f c := by
  obtain ⟨r, hr, hs⟩ := belL_all h 1048577 [id] 0 (belS_start h hx) (by omega)
  have e : belR f id = r := by unfold belR; rw [hr]; rfl
  rw [e]
  exact ⟨hr, hs.nd, fun c => ⟨hs.bel c, fun hc => belS_end h hs _ c (Nat.le_refl _) hc⟩⟩
theorem belR_len (h : Good f next) {id : Int} {x : S40} (hx : look f id = some x) : (belR f id).length ≤ 1048576 := by
  obtain ⟨_, hnd, hm⟩ := belR_eq h hx
  refine nodup_bound 1048576 _ hnd (fun c hc => ?_)
  have h1 := (hm c).1 hc
  cases e : look f c with
  | none => rw [ch_none c e] at h1; cases h1
  | some y => have := h.dom c y e; have := h.hi; omega
end
end Go.Proofs.Ytpnlbmeeihbjaaa.P
end
section
set_option linter.unusedVariables false
set_option linter.unusedSimpArgs false
namespace Go.Proofs.Ytpnlbmeeihbjaaa.P
open Go.RowKit Go.Proofs.YtpnlbmeeihbjaaaW.PrintWords Go.Proofs.YtpnlbmeeihbjaaaW.PrintLast Go.Proofs.YtpnlbmeeihbjaaaW.PrintMore
attribute [local go_sem] max2_int min2_int max_two min_two max_three min_three max_four min_four
set_option linter.unusedVariables false
set_option linter.unusedSimpArgs false
theorem mem_gain {l : List Int} {i : Nat} {id c : Int} : c ∈ l.take i ++ [id] ++ l.drop i ↔ c = id ∨ c ∈ l := by
  conv => rhs; rw [← List.take_append_drop i l]
  simp only [List.mem_append, List.mem_singleton]
  constructor
  · rintro ((h | h) | h)
    · exact .inr (.inl h)
    · exact .inl h
    · exact .inr (.inr h)
  · rintro (h | h | h)
    · exact .inl (.inr h)
    · exact .inl (.inl h)
    · exact .inr h
theorem nodup_gain {l : List Int} {i : Nat} {id : Int} (h : l.Nodup) (hn : id ∉ l) : (l.take i ++ [id] ++ l.drop i).Nodup := by
  have hp : (l.take i ++ [id] ++ l.drop i).Perm (id :: l) := by
    rw [List.append_assoc]
    exact (List.perm_middle (a := id) (l₁ := l.take i) (l₂ := l.drop i)).trans (by rw [List.take_append_drop])
  exact hp.nodup_iff.2 (List.nodup_cons.2 ⟨hn, h⟩)
theorem mostL_le (f : Nat → Option S40) (m : Nat) : ∀ (l : List Int) (a : Int), (∀ c ∈ l, depD f m c ≤ (l.foldl (fun a k => max a (depD f m k)) a)) ∧ a ≤ l.foldl (fun a k => max a (depD f m k)) a ∧ (l.foldl (fun a k => max a (depD f m k)) a = a ∨ ∃ c ∈ l, l.foldl (fun a k => max a (depD f m k)) a = depD f m c)
  | [], a => ⟨fun c hc => (by cases hc), Int.le_refl _, .inl rfl⟩
  | x :: r, a => by
    obtain ⟨h1, h2, h3⟩ := mostL_le f m r (max a (depD f m x))
    simp only [List.foldl_cons]
    refine ⟨fun c hc => ?_, by omega, ?_⟩
    · rcases List.mem_cons.1 hc with rfl | hc
      · omega
      · exact h1 c hc
    · rcases h3 with h3 | ⟨c, hc, h3⟩
      · rw [h3]
        rcases Int.le_total a (depD f m x) with h4 | h4
        · right; exact ⟨x, List.mem_cons_self, by omega⟩
        · left; omega
      · right; exact ⟨c, List.mem_cons_of_mem _ hc, h3⟩
section
variable {f : Nat → Option S40} {next : Int}
def talD (f : Nat → Option S40) (id : Int) : Int := tallD f 600 (belR f id) id
theorem tal_eq (h : Good f next) {id : Int} {x : S40} (hx : look f id = some x) : (∀ c, id ∈ ch f c → ((ch f c).length : Int) - (ch f id).length + 1 ≤ talD f id) ∧ 0 ≤ talD f id ∧ talD f id ≤ 512 ∧ ∃ c, id ∈ ch f c ∧ talD f id = ((ch f c).length : Int) - (ch f id).length + 1 := by
  obtain ⟨_, _, hm⟩ := belR_eq h hx
  obtain ⟨h1, h2, h3⟩ := mostL_le f 600 (belR f id) 0
  have hid : id ∈ belR f id := (hm id).2 (ch_self h hx)
  have h4 := h1 id hid
  have hp := ch_pos h hx
  have hM : mostL f 600 (belR f id) = (belR f id).foldl (fun a k => max a (depD f 600 k)) 0 := rfl
  rw [← hM] at h1 h2 h3 h4
  have hup : mostL f 600 (belR f id) ≤ 512 := by
    rcases h3 with h3 | ⟨c, _, h3⟩
    · omega
    · rw [h3, depD_ch h]; have := ch_le h c; omega
  rw [depD_ch h] at h4
  have e : talD f id = mostL f 600 (belR f id) - (ch f id).length + 1 := by
    unfold talD tallD
    rw [depD_ch h]
    have := ch_le h id
    rw [show wrap64 (mostL f 600 (belR f id) - (ch f id).length) = mostL f 600 (belR f id) - (ch f id).length by unfold wrap64; omega]
    unfold wrap64; omega
  rw [e]
  refine ⟨fun c hc => ?_, by omega, by omega, ?_⟩
  · have := h1 c ((hm c).2 hc)
    rw [depD_ch h] at this
    omega
  · rcases h3 with h3 | ⟨c, hc, h3⟩
    · exact ⟨id, ch_self h hx, by omega⟩
    · rw [depD_ch h] at h3
      exact ⟨c, (hm c).1 hc, by omega⟩
theorem Good.depc (h : Good f next) {k : Int} {x : S40} (hk : look f k = some x) : (ch f k).length = (ch f x.f2).length + 1 := by rw [ch_step h hk]; rfl
theorem Good.id_par (h : Good f next) {k p : Int} {x y : S40} (hk : look f k = some x) (hp : look f p = some y) (hc : k ∈ y.f3) : x.f2 = p := by
  obtain ⟨_, z, hz, e⟩ := h.kid p y k hp hc
  rw [hk] at hz
  obtain rfl := Option.some.inj hz
  exact e
theorem Good.kids_le (h : Good f next) {k : Int} {x : S40} (hk : look f k = some x) : x.f3.length ≤ 1048576 :=
  nodup_bound 1048576 x.f3 (h.nodup k x hk) (fun c hc => by
    obtain ⟨_, y, hy, _⟩ := h.kid k x c hk hc
    have := h.dom c y hy; have := h.hi; omega)
theorem good_new (tag : ByteArray) : Good (newF tag) 2 := by
  have hl : ∀ j, look (newF tag) j = if j = 1 then some (el 1 tag 0) else none := fun j => by
    unfold newF
    rw [look_put _ _ _ _ (by omega) (by omega)]
    split
    · rfl
    · unfold look; split <;> rfl
  have hx : ∀ k x, look (newF tag) k = some x → k = 1 ∧ x = el 1 tag 0 := fun k x hk => by
    rw [hl] at hk
    split at hk
    · rename_i e; exact ⟨e, (Option.some.inj hk).symm⟩
    · cases hk
  refine ⟨by omega, by omega, fun k x hk => ?_, fun k x hk => ?_, ⟨el 1 tag 0, by rw [hl]; rfl, rfl⟩, fun k x hk hne => absurd (hx k x hk).1 hne, fun k x c hk hc => ?_, fun k x hk => ?_, ⟨fun _ => 1, rfl, fun k x hk => ⟨by show 1 ≤ 512; omega, fun hne => absurd (hx k x hk).1 hne⟩⟩, fun k x hk => ?_⟩
  · have := (hx k x hk).1; omega
  · obtain ⟨rfl, rfl⟩ := hx k x hk; rfl
  · obtain ⟨rfl, rfl⟩ := hx k x hk; cases hc
  · obtain ⟨rfl, rfl⟩ := hx k x hk; exact List.nodup_nil
  · obtain ⟨rfl, rfl⟩ := hx k x hk; exact ⟨List.Pairwise.nil, by show 0 ≤ 16; omega⟩
theorem look_ins (h : Good f next) {p : Int} {y : S40} (hp : look f p = some y) (hnx : next < 1048576) (i : Nat) (tag : ByteArray) (j : Int) :
    look (insF f next p i tag) j = if j = next then some (el next tag p) else if j = p then some (gainA i next y) else look f j := by
  have hd := h.dom p y hp
  have := h.lo
  unfold insF
  rw [look_put _ _ _ _ (by omega) (by omega), look_put _ _ _ _ (by omega) (by omega), hp]
  rfl
theorem good_ins (h : Good f next) {p : Int} {y : S40} (hp : look f p = some y) (hnx : next < 1048576) (hdp : (ch f p).length < 512) (i : Nat) (tag : ByteArray) : Good (insF f next p i tag) (next + 1) := by
  have hl := look_ins h hp hnx i tag
  have hd := h.dom p y hp
  have hlo := h.lo
  have hno : look f next = none := by
    cases e : look f next with
    | none => rfl
    | some x => have := h.dom next x e; omega
  have hnk : ∀ k x, look f k = some x → next ∉ x.f3 := fun k x hk hc => by
    obtain ⟨_, z, hz, _⟩ := h.kid k x next hk hc
    rw [hno] at hz; cases hz
  have hx : ∀ k x, look (insF f next p i tag) k = some x → (k = next ∧ x = el next tag p) ∨ (k ≠ next ∧ k = p ∧ x = gainA i next y) ∨ (k ≠ next ∧ k ≠ p ∧ look f k = some x) := fun k x hk => by
    rw [hl] at hk
    split at hk
    · rename_i e; exact .inl ⟨e, (Option.some.inj hk).symm⟩
    · rename_i e
      split at hk
      · rename_i e2; exact .inr (.inl ⟨e, e2, (Option.some.inj hk).symm⟩)
      · rename_i e2; exact .inr (.inr ⟨e, e2, hk⟩)
  have hold : ∀ k x, look f k = some x → ∃ x', look (insF f next p i tag) k = some x' ∧ x'.f2 = x.f2 ∧ ∀ c, c ∈ x.f3 → c ∈ x'.f3 := fun k x hk => by
    have hkn : k ≠ next := fun e => by rw [e, hno] at hk; cases hk
    by_cases e : k = p
    · subst e
      rw [hp] at hk
      obtain rfl := Option.some.inj hk
      exact ⟨gainA i next y, by rw [hl, if_neg hkn, if_pos rfl], rfl, fun c hc => mem_gain.2 (.inr hc)⟩
    · exact ⟨x, by rw [hl, if_neg hkn, if_neg e]; exact hk, rfl, fun c hc => hc⟩
  refine ⟨by omega, by omega, ?_, ?_, ?_, ?_, ?_, ?_, ?_, ?_⟩
  · intro k x hk
    rcases hx k x hk with ⟨e, _⟩ | ⟨_, e, _⟩ | ⟨_, _, e⟩
    · omega
    · omega
    · have := h.dom k x e; omega
  · intro k x hk
    rcases hx k x hk with ⟨e, rfl⟩ | ⟨_, e, rfl⟩ | ⟨_, _, e⟩
    · exact e.symm
    · rw [e]; exact h.num p y hp
    · exact h.num k x e
  · obtain ⟨r, hr, hr0⟩ := h.root
    obtain ⟨x', hx', e, _⟩ := hold 1 r hr
    exact ⟨x', hx', e.trans hr0⟩
  · intro k x hk hne
    rcases hx k x hk with ⟨e, rfl⟩ | ⟨_, e, rfl⟩ | ⟨_, _, e⟩
    · refine ⟨gainA i next y, by rw [hl, if_neg (by show p ≠ next; omega)]; exact if_pos rfl, ?_⟩
      rw [e]; exact mem_gain.2 (.inl rfl)
    · subst e
      obtain ⟨q, hq, hkq⟩ := h.par k y hp hne
      obtain ⟨q', hq', _, hm⟩ := hold _ q hq
      exact ⟨q', hq', hm k hkq⟩
    · obtain ⟨q, hq, hkq⟩ := h.par k x e hne
      obtain ⟨q', hq', _, hm⟩ := hold _ q hq
      exact ⟨q', hq', hm k hkq⟩
  · intro k x c hk hc
    rcases hx k x hk with ⟨e, rfl⟩ | ⟨_, e, rfl⟩ | ⟨_, _, e⟩
    · cases hc
    · subst e
      rcases mem_gain.1 hc with h1 | h1
      · subst h1
        exact ⟨by omega, el c tag k, by rw [hl, if_pos rfl], rfl⟩
      · obtain ⟨h2, z, hz, hz2⟩ := h.kid k y c hp h1
        obtain ⟨z', hz', e', _⟩ := hold c z hz
        exact ⟨h2, z', hz', e'.trans hz2⟩
    · obtain ⟨h2, z, hz, hz2⟩ := h.kid k x c e hc
      obtain ⟨z', hz', e', _⟩ := hold c z hz
      exact ⟨h2, z', hz', e'.trans hz2⟩
  · intro k x hk
    rcases hx k x hk with ⟨e, rfl⟩ | ⟨_, e, rfl⟩ | ⟨_, _, e⟩
    · exact List.nodup_nil
    · exact nodup_gain (h.nodup p y hp) (hnk p y hp)
    · exact h.nodup k x e
  · refine ⟨fun j => if j = next then (ch f p).length + 1 else (ch f j).length, by show (if (1 : Int) = next then _ else _) = 1; rw [if_neg (by omega), ch_root h]; rfl, fun k x hk => ?_⟩
    rcases hx k x hk with ⟨e, rfl⟩ | ⟨e0, e, rfl⟩ | ⟨e0, e1, e⟩
    · subst e
      simp only [if_pos]
      refine ⟨by omega, fun _ => ?_⟩
      rw [if_neg (show (el k tag p).f2 ≠ k by show p ≠ k; omega)]
      rfl
    · subst e
      simp only [if_neg e0]
      refine ⟨ch_le h k, fun hne => ?_⟩
      obtain ⟨q, hq, _⟩ := h.par k y hp hne
      have := h.dom _ q hq
      rw [if_neg (show (gainA i next y).f2 ≠ next by show y.f2 ≠ next; omega)]
      have := h.depc hp
      exact this
    · simp only [if_neg e0]
      refine ⟨ch_le h k, fun hne => ?_⟩
      obtain ⟨q, hq, _⟩ := h.par k x e hne
      have := h.dom _ q hq
      rw [if_neg (show x.f2 ≠ next by omega)]
      exact h.depc e
  · intro k x hk
    rcases hx k x hk with ⟨e, rfl⟩ | ⟨_, e, rfl⟩ | ⟨_, _, e⟩
    · exact ⟨List.Pairwise.nil, by show 0 ≤ 16; omega⟩
    · exact h.att p y hp
    · exact h.att k x e
end
end Go.Proofs.Ytpnlbmeeihbjaaa.P
end
section
set_option linter.unusedVariables false
set_option linter.unusedSimpArgs false
namespace Go.Proofs.Ytpnlbmeeihbjaaa.P
open Go.RowKit Go.Proofs.YtpnlbmeeihbjaaaW.PrintWords Go.Proofs.YtpnlbmeeihbjaaaW.PrintLast Go.Proofs.YtpnlbmeeihbjaaaW.PrintMore
attribute [local go_sem] max2_int min2_int max_two min_two max_three min_three max_four min_four
set_option linter.unusedVariables false
set_option linter.unusedSimpArgs false
section
variable {f : Nat → Option S40} {next : Int}
theorem look_drops : ∀ (r : List Int) (f : Nat → Option S40) (j : Int), (∀ c ∈ r, 0 ≤ c ∧ c < 1048576) → look (dropsF f r) j = if j ∈ r then none else look f j
  | [], f, j, _ => by simp [dropsF]
  | c :: r, f, j, hr => by
    have hc := hr c List.mem_cons_self
    have ih := look_drops r (putF f c none) j (fun c hc => hr c (List.mem_cons_of_mem _ hc))
    have e : dropsF f (c :: r) = dropsF (putF f c none) r := rfl
    rw [e, ih, look_put _ _ _ _ hc.1 hc.2]
    by_cases h1 : j ∈ r
    · rw [if_pos h1, if_pos (List.mem_cons_of_mem _ h1)]
    · rw [if_neg h1]
      by_cases h2 : j = c
      · rw [if_pos h2, if_pos (by rw [h2]; exact List.mem_cons_self)]
      · rw [if_neg h2, if_neg (by simp [h1, h2])]
theorem Good.parent (h : Good f next) {id : Int} {x : S40} (hx : look f id = some x) (h1 : id ≠ 1) : ∃ p, look f x.f2 = some p ∧ id ∈ p.f3 ∧ id ∉ ch f x.f2 ∧ x.f2 ≠ id := by
  obtain ⟨p, hp, hm⟩ := h.par id x hx h1
  have hn : id ∉ ch f x.f2 := fun hc => by
    have h2 := ch_len_of h hc
    have h3 := h.depc hx
    omega
  exact ⟨p, hp, hm, hn, fun e => hn (by rw [e]; exact ch_self h hx)⟩
theorem ch_kid (h : Good f next) {k : Int} {x : S40} (hk : look f k = some x) (a : Int) : a ∈ ch f k ↔ a = k ∨ a ∈ ch f x.f2 := by rw [ch_step h hk]; exact List.mem_cons
theorem look_rem (h : Good f next) {id : Int} {x p : S40} (hx : look f id = some x) (hp : look f x.f2 = some p) (j : Int) :
    look (remF f id x.f2 (belR f id)) j = if id ∈ ch f j then none else if j = x.f2 then some (loseA id p) else look f j := by
  obtain ⟨_, _, hm⟩ := belR_eq h hx
  have hd := h.dom _ p hp
  have hhi := h.hi
  unfold remF
  rw [look_drops _ _ _ (fun c hc => by
    have h1 := (hm c).1 hc
    cases e : look f c with
    | none => rw [ch_none c e] at h1; cases h1
    | some y => have := h.dom c y e; omega)]
  unfold movF1
  rw [look_put _ _ _ _ (by omega) (by omega), hp]
  by_cases c : id ∈ ch f j
  · rw [if_pos ((hm j).2 c), if_pos c]
  · rw [if_neg (fun e => c ((hm j).1 e)), if_neg c]; rfl
theorem good_rem (h : Good f next) {id : Int} {x p : S40} (hx : look f id = some x) (h1 : id ≠ 1) (hp : look f x.f2 = some p) : Good (remF f id x.f2 (belR f id)) next := by
  have hl := look_rem h hx hp
  have hcid : id ∈ ch f id := ch_self h hx
  have hk : ∀ k z, look (remF f id x.f2 (belR f id)) k = some z → id ∉ ch f k ∧ ∃ y, look f k = some y ∧ z.f0 = y.f0 ∧ z.f2 = y.f2 ∧ z.f4 = y.f4 ∧ z.f3.Nodup ∧ ∀ c, c ∈ z.f3 ↔ c ∈ y.f3 ∧ c ≠ id := fun k z hk => by
    rw [hl] at hk
    split at hk
    · cases hk
    · rename_i hn
      refine ⟨hn, ?_⟩
      split at hk
      · rename_i e
        obtain rfl := Option.some.inj hk
        exact ⟨p, by rw [e]; exact hp, rfl, rfl, rfl, List.Pairwise.filter _ (h.nodup _ p hp), fun c => by simp [loseA, List.mem_filter]⟩
      · rename_i e
        refine ⟨z, hk, rfl, rfl, rfl, h.nodup k z hk, fun c => ⟨fun hc => ⟨hc, fun ec => ?_⟩, fun hc => hc.1⟩⟩
        subst ec
        exact e (h.id_par hx hk hc).symm
  have hold : ∀ k y, look f k = some y → id ∉ ch f k → ∃ z, look (remF f id x.f2 (belR f id)) k = some z ∧ z.f2 = y.f2 ∧ ∀ c, c ∈ y.f3 → c ≠ id → c ∈ z.f3 := fun k y hy hn => by
    by_cases e : k = x.f2
    · subst e
      rw [hp] at hy
      obtain rfl := Option.some.inj hy
      exact ⟨loseA id p, by rw [hl, if_neg hn, if_pos rfl], rfl, fun c hc hne => by simp [loseA, List.mem_filter, hc, hne]⟩
    · exact ⟨y, by rw [hl, if_neg hn, if_neg e]; exact hy, rfl, fun c hc _ => hc⟩
  have hne : ∀ k, id ∉ ch f k → k ≠ id := fun k hn e => hn (by rw [e]; exact hcid)
  have hroot : id ∉ ch f 1 := by rw [ch_root h]; simpa using h1
  refine ⟨h.lo, h.hi, ?_, ?_, ?_, ?_, ?_, ?_, ?_, ?_⟩
  · intro k z hz
    obtain ⟨_, y, hy, _⟩ := hk k z hz
    exact h.dom k y hy
  · intro k z hz
    obtain ⟨_, y, hy, e, _⟩ := hk k z hz
    rw [e]; exact h.num k y hy
  · obtain ⟨r, hr, hr0⟩ := h.root
    obtain ⟨z, hz, e, _⟩ := hold 1 r hr hroot
    exact ⟨z, hz, e.trans hr0⟩
  · intro k z hz hk1
    obtain ⟨hn, y, hy, _, e2, _⟩ := hk k z hz
    obtain ⟨q, hq, hkq⟩ := h.par k y hy hk1
    obtain ⟨w, hw, _, hm⟩ := hold y.f2 q hq (fun hc => hn ((ch_kid h hy id).2 (.inr hc)))
    rw [e2]
    exact ⟨w, hw, hm k hkq (hne k hn)⟩
  · intro k z c hz hc
    obtain ⟨hn, y, hy, _, e2, _, _, hm⟩ := hk k z hz
    obtain ⟨hc1, hc2⟩ := (hm c).1 hc
    obtain ⟨h2, u, hu, hu2⟩ := h.kid k y c hy hc1
    obtain ⟨w, hw, e', _⟩ := hold c u hu (fun hcc => by
      rcases (ch_kid h hu id).1 hcc with h3 | h3
      · exact hc2 h3.symm
      · rw [hu2] at h3; exact hn h3)
    exact ⟨h2, w, hw, e'.trans hu2⟩
  · intro k z hz
    obtain ⟨_, y, hy, _, _, _, e, _⟩ := hk k z hz
    exact e
  · refine ⟨fun k => (ch f k).length, by show (ch f 1).length = 1; rw [ch_root h]; rfl, fun k z hz => ?_⟩
    obtain ⟨_, y, hy, _, e2, _⟩ := hk k z hz
    refine ⟨ch_le h k, fun _ => ?_⟩
    rw [e2]
    exact h.depc hy
  · intro k z hz
    obtain ⟨_, y, hy, _, _, e, _⟩ := hk k z hz
    rw [e]; exact h.att k y hy
theorem look_mov (h : Good f next) {id q : Int} {x p z : S40} (hx : look f id = some x) (h1 : id ≠ 1) (hp : look f x.f2 = some p) (hz : look f q = some z) (hn : id ∉ ch f q) (i : Nat) (j : Int) :
    look (movF f id x.f2 q i) j = if j = id then some (ownA q x) else if j = q then some (gainA i id (if x.f2 = q then loseA id z else z)) else if j = x.f2 then some (loseA id p) else look f j := by
  have d1 := h.dom _ x hx
  have d2 := h.dom _ p hp
  have d3 := h.dom _ z hz
  have hhi := h.hi
  obtain ⟨_, _, _, _, hne⟩ := h.parent hx h1
  have hqi : q ≠ id := fun e => hn (by rw [e]; exact ch_self h hx)
  have l1 : ∀ j, look (movF1 f id x.f2) j = if j = x.f2 then some (loseA id p) else look f j := fun j => by
    unfold movF1; rw [look_put _ _ _ _ (by omega) (by omega), hp]; rfl
  have e1 : (look (movF1 f id x.f2) q).getD z40 = if x.f2 = q then loseA id z else z := by
    rw [l1]
    by_cases e : x.f2 = q
    · rw [if_pos e.symm, if_pos e]
      rw [e, hz] at hp
      rw [Option.some.inj hp]; rfl
    · rw [if_neg (Ne.symm e), if_neg e, hz]; rfl
  have l2 : ∀ j, look (movF2 f id x.f2 q i) j = if j = q then some (gainA i id (if x.f2 = q then loseA id z else z)) else look (movF1 f id x.f2) j := fun j => by
    unfold movF2; rw [look_put _ _ _ _ (by omega) (by omega), e1]
  have e2 : (look (movF2 f id x.f2 q i) id).getD z40 = x := by
    rw [l2, if_neg (Ne.symm hqi), l1, if_neg (Ne.symm hne), hx]; rfl
  unfold movF
  rw [look_put _ _ _ _ (by omega) (by omega), e2, l2, l1]
theorem good_mov (h : Good f next) {id q : Int} {x p z : S40} (hx : look f id = some x) (h1 : id ≠ 1) (hp : look f x.f2 = some p) (hz : look f q = some z) (hn : id ∉ ch f q) (i : Nat)
    (hlim : ∀ c, id ∈ ch f c → ((ch f q).length : Int) + ((ch f c).length - (ch f id).length + 1) ≤ 512) : Good (movF f id x.f2 q i) next := by
  have hl := look_mov h hx h1 hp hz hn i
  have hcid : id ∈ ch f id := ch_self h hx
  obtain ⟨_, _, _, hnp, hne⟩ := h.parent hx h1
  have hqi : q ≠ id := fun e => hn (by rw [e]; exact hcid)
  have hz3 : id ∉ (if x.f2 = q then loseA id z else z).f3 := by
    split
    · simp [loseA, List.mem_filter]
    · rename_i e; exact fun hc => e (h.id_par hx hz hc)
  have hk : ∀ k u, look (movF f id x.f2 q i) k = some u → ∃ y, look f k = some y ∧ u.f0 = y.f0 ∧ u.f2 = (if k = id then q else y.f2) ∧ u.f4 = y.f4 ∧ u.f3.Nodup ∧ ∀ c, c ∈ u.f3 ↔ (c = id ∧ k = q) ∨ (c ≠ id ∧ c ∈ y.f3) := fun k u hk => by
    rw [hl] at hk
    split at hk
    · rename_i e
      obtain rfl := Option.some.inj hk
      subst e
      refine ⟨x, hx, rfl, by rw [if_pos rfl]; rfl, rfl, h.nodup _ x hx, fun c => ⟨fun hc => .inr ⟨fun e => ?_, hc⟩, fun hc => ?_⟩⟩
      · subst e
        exact hne (h.id_par hx hx hc)
      · rcases hc with ⟨_, e⟩ | ⟨_, hc⟩
        · exact absurd e.symm hqi
        · exact hc
    · rename_i e0
      split at hk
      · rename_i e
        obtain rfl := Option.some.inj hk
        subst e
        refine ⟨z, hz, by show (if x.f2 = k then loseA id z else z).f0 = _; split <;> rfl, by rw [if_neg e0]; show (if x.f2 = k then loseA id z else z).f2 = _; split <;> rfl, by show (if x.f2 = k then loseA id z else z).f4 = _; split <;> rfl, nodup_gain ?_ hz3, fun c => ?_⟩
        · split
          · exact List.Pairwise.filter _ (h.nodup _ z hz)
          · exact h.nodup _ z hz
        · refine mem_gain.trans ?_
          by_cases ec : c = id
          · subst ec; simp
          · simp only [ec, false_or, false_and, ne_eq, not_false_eq_true, true_and]
            split
            · simp [loseA, List.mem_filter, ec]
            · exact Iff.rfl
      · rename_i e
        split at hk
        · rename_i e2
          obtain rfl := Option.some.inj hk
          subst e2
          exact ⟨p, hp, rfl, by rw [if_neg e0]; rfl, rfl, List.Pairwise.filter _ (h.nodup _ p hp), fun c => by simp [loseA, List.mem_filter, e, And.comm]⟩
        · rename_i e2
          refine ⟨u, hk, rfl, by rw [if_neg e0], rfl, h.nodup k u hk, fun c => ⟨fun hc => .inr ⟨fun ec => ?_, hc⟩, fun hc => ?_⟩⟩
          · subst ec
            exact e2 (h.id_par hx hk hc).symm
          · rcases hc with ⟨_, ec⟩ | ⟨_, hc⟩
            · exact absurd ec e
            · exact hc
  have hold : ∀ k y, look f k = some y → ∃ u, look (movF f id x.f2 q i) k = some u := fun k y hy => by
    rw [hl]
    split
    · exact ⟨_, rfl⟩
    · split
      · exact ⟨_, rfl⟩
      · split
        · exact ⟨_, rfl⟩
        · exact ⟨y, hy⟩
  have hroot : id ∉ ch f 1 := by rw [ch_root h]; simpa using h1
  refine ⟨h.lo, h.hi, ?_, ?_, ?_, ?_, ?_, ?_, ?_, ?_⟩
  · intro k u hu
    obtain ⟨y, hy, _⟩ := hk k u hu
    exact h.dom k y hy
  · intro k u hu
    obtain ⟨y, hy, e, _⟩ := hk k u hu
    rw [e]; exact h.num k y hy
  · obtain ⟨r, hr, hr0⟩ := h.root
    obtain ⟨u, hu⟩ := hold 1 r hr
    obtain ⟨y, hy, _, e, _⟩ := hk 1 u hu
    rw [hr] at hy
    obtain rfl := Option.some.inj hy
    exact ⟨u, hu, by rw [e, if_neg (Ne.symm h1)]; exact hr0⟩
  · intro k u hu hk1
    obtain ⟨y, hy, _, e2, _⟩ := hk k u hu
    by_cases e : k = id
    · subst e
      rw [e2, if_pos rfl]
      obtain ⟨w, hw⟩ := hold q z hz
      obtain ⟨_, _, _, _, _, _, hm⟩ := hk q w hw
      exact ⟨w, hw, (hm k).2 (.inl ⟨rfl, rfl⟩)⟩
    · rw [e2, if_neg e]
      obtain ⟨v, hv, hkv⟩ := h.par k y hy hk1
      obtain ⟨w, hw⟩ := hold y.f2 v hv
      obtain ⟨v', hv', _, _, _, _, hm⟩ := hk y.f2 w hw
      rw [hv] at hv'
      obtain rfl := Option.some.inj hv'
      exact ⟨w, hw, (hm k).2 (.inr ⟨e, hkv⟩)⟩
  · intro k u c hu hc
    obtain ⟨y, hy, _, e2, _, _, hm⟩ := hk k u hu
    rcases (hm c).1 hc with ⟨rfl, rfl⟩ | ⟨hc1, hc2⟩
    · obtain ⟨w, hw⟩ := hold c x hx
      obtain ⟨_, _, _, e', _⟩ := hk c w hw
      exact ⟨h1, w, hw, by rw [e', if_pos rfl]⟩
    · obtain ⟨h2, v, hv, hv2⟩ := h.kid k y c hy hc2
      obtain ⟨w, hw⟩ := hold c v hv
      obtain ⟨v', hv', _, e', _⟩ := hk c w hw
      rw [hv] at hv'
      obtain rfl := Option.some.inj hv'
      exact ⟨h2, w, hw, by rw [e', if_neg hc1, hv2]⟩
  · intro k u hu
    obtain ⟨y, hy, _, _, _, e, _⟩ := hk k u hu
    exact e
  · refine ⟨fun k => if id ∈ ch f k then (ch f k).length - (ch f id).length + (ch f q).length + 1 else (ch f k).length, by show (if id ∈ ch f 1 then _ else _) = 1; rw [if_neg hroot, ch_root h]; rfl, fun k u hu => ?_⟩
    obtain ⟨y, hy, _, e2, _⟩ := hk k u hu
    show (if id ∈ ch f k then _ else _) ≤ 512 ∧ (k ≠ 1 → (if id ∈ ch f k then _ else _) = (if id ∈ ch f u.f2 then _ else _) + 1)
    by_cases hb : id ∈ ch f k
    · have hlk := hlim k hb
      have hle := ch_len_of h hb
      rw [if_pos hb]
      refine ⟨by omega, fun _ => ?_⟩
      by_cases e : k = id
      · rw [e2, if_pos e, if_neg hn, e]; omega
      · have hb2 : id ∈ ch f y.f2 := by
          rcases (ch_kid h hy id).1 hb with h3 | h3
          · exact absurd h3.symm e
          · exact h3
        have hle2 := ch_len_of h hb2
        have := h.depc hy
        rw [e2, if_neg e, if_pos hb2]; omega
    · rw [if_neg hb]
      refine ⟨ch_le h k, fun _ => ?_⟩
      have e : k ≠ id := fun e => hb (by rw [e]; exact hcid)
      have hb2 : id ∉ ch f y.f2 := fun hc => hb ((ch_kid h hy id).2 (.inr hc))
      rw [e2, if_neg e, if_neg hb2]
      exact h.depc hy
  · intro k u hu
    obtain ⟨y, hy, _, _, e, _⟩ := hk k u hu
    rw [e]; exact h.att k y hy
theorem good_att (h : Good f next) {id : Int} {x x' : S40} (hx : look f id = some x) (e0 : x'.f0 = x.f0) (e2 : x'.f2 = x.f2) (e3 : x'.f3 = x.f3) (ha : SortA x'.f4 ∧ x'.f4.length ≤ 16) : Good (putF f id (some x')) next := by
  have d := h.dom id x hx
  have hhi := h.hi
  have hl : ∀ j, look (putF f id (some x')) j = if j = id then some x' else look f j := fun j => look_put _ _ _ _ (by omega) (by omega)
  have hk : ∀ k u, look (putF f id (some x')) k = some u → ∃ y, look f k = some y ∧ u.f0 = y.f0 ∧ u.f2 = y.f2 ∧ u.f3 = y.f3 ∧ SortA u.f4 ∧ u.f4.length ≤ 16 := fun k u hk => by
    rw [hl] at hk
    split at hk
    · rename_i e
      obtain rfl := Option.some.inj hk
      exact ⟨x, by rw [e]; exact hx, e0, e2, e3, ha⟩
    · exact ⟨u, hk, rfl, rfl, rfl, h.att k u hk⟩
  have hold : ∀ k y, look f k = some y → ∃ u, look (putF f id (some x')) k = some u ∧ u.f2 = y.f2 ∧ u.f3 = y.f3 := fun k y hy => by
    rw [hl]
    split
    · rename_i e
      subst e
      rw [hx] at hy
      obtain rfl := Option.some.inj hy
      exact ⟨x', rfl, e2, e3⟩
    · exact ⟨y, hy, rfl, rfl⟩
  refine ⟨h.lo, h.hi, ?_, ?_, ?_, ?_, ?_, ?_, ?_, ?_⟩
  · intro k u hu
    obtain ⟨y, hy, _⟩ := hk k u hu
    exact h.dom k y hy
  · intro k u hu
    obtain ⟨y, hy, e, _⟩ := hk k u hu
    rw [e]; exact h.num k y hy
  · obtain ⟨r, hr, hr0⟩ := h.root
    obtain ⟨u, hu, e, _⟩ := hold 1 r hr
    exact ⟨u, hu, e.trans hr0⟩
  · intro k u hu hk1
    obtain ⟨y, hy, _, e, _⟩ := hk k u hu
    obtain ⟨q, hq, hm⟩ := h.par k y hy hk1
    obtain ⟨w, hw, _, ew⟩ := hold y.f2 q hq
    rw [e]
    exact ⟨w, hw, by rw [ew]; exact hm⟩
  · intro k u c hu hc
    obtain ⟨y, hy, _, e, e3', _⟩ := hk k u hu
    rw [e3'] at hc
    obtain ⟨h2, v, hv, hv2⟩ := h.kid k y c hy hc
    obtain ⟨w, hw, ew, _⟩ := hold c v hv
    exact ⟨h2, w, hw, ew.trans hv2⟩
  · intro k u hu
    obtain ⟨y, hy, _, _, e, _⟩ := hk k u hu
    rw [e]; exact h.nodup k y hy
  · refine ⟨fun k => (ch f k).length, by show (ch f 1).length = 1; rw [ch_root h]; rfl, fun k u hu => ?_⟩
    obtain ⟨y, hy, _, e, _⟩ := hk k u hu
    refine ⟨ch_le h k, fun _ => ?_⟩
    rw [e]
    exact h.depc hy
  · intro k u hu
    obtain ⟨y, hy, _, _, _, e⟩ := hk k u hu
    exact e
theorem getD_get (l : List S70) (i : Nat) (h : i < l.length) : l.getD i z70 = l[i] := by simp [List.getD_eq_getElem?_getD, List.getElem?_eq_getElem h]
theorem sort_same {l m : List S70} (h : l.map (·.f0) = m.map (·.f0)) (hl : SortA l) : SortA m := by
  have h1 : (l.map (·.f0)).Pairwise (fun a b => lessS a b = true) := List.pairwise_map.2 hl
  rw [h] at h1
  exact List.pairwise_map.1 h1
theorem map_set_same (l : List S70) (i : Nat) (v : ByteArray) : (l.set i ⟨(l.getD i z70).f0, v⟩).map (·.f0) = l.map (·.f0) := by
  rcases Nat.lt_or_ge i l.length with h | h
  · rw [List.map_set, getD_get l i h]
    apply List.ext_getElem (by simp)
    intro j h1 h2
    rw [List.getElem_set]
    split
    · rename_i e; subst e; simp
    · rfl
  · rw [List.set_eq_of_length_le h]
theorem sort_gain {l : List S70} (h : SortA l) (s : ByteArray) (v : ByteArray) (hn : hasA l s = false) : SortA (l.take (posA l s) ++ [⟨s, v⟩] ++ l.drop (posA l s)) := by
  obtain ⟨h1, h2⟩ := pos_split h s
  have hne : ∀ x ∈ l, x.f0 ≠ s := fun x hx e => by
    have := (hasA_mem h (s := s)).2 ⟨x, hx, e⟩
    rw [hn] at this; cases this
  have hw : SortA (l.take (posA l s) ++ l.drop (posA l s)) := by rw [List.take_append_drop]; exact h
  obtain ⟨w1, w2, w3⟩ := List.pairwise_append.1 hw
  refine List.pairwise_append.2 ⟨List.pairwise_append.2 ⟨w1, List.pairwise_singleton _ _, fun a ha b hb => ?_⟩, w2, fun a ha b hb => ?_⟩
  · rw [List.mem_singleton.1 hb]; exact h1 a ha
  · rcases List.mem_append.1 ha with h3 | h3
    · exact w3 a h3 b hb
    · rw [List.mem_singleton.1 h3]
      exact lessS_total b.f0 s (h2 b hb) (hne b (List.mem_of_mem_drop hb))
theorem good_set (h : Good f next) {id : Int} {x : S40} (hx : look f id = some x) (s v : ByteArray) (hl : hasA x.f4 s = true ∨ x.f4.length < 16) : Good (setF f id s v) next := by
  obtain ⟨hs, hle⟩ := h.att id x hx
  unfold setF
  rw [hx]
  refine good_att h hx rfl rfl rfl ?_
  show SortA (setA (posA x.f4 s) (hasA x.f4 s) s v x).f4 ∧ (setA (posA x.f4 s) (hasA x.f4 s) s v x).f4.length ≤ 16
  unfold setA
  cases hh : hasA x.f4 s with
  | true =>
    simp only [if_true]
    exact ⟨sort_same (map_set_same _ _ _).symm hs, by simpa using hle⟩
  | false =>
    rw [hh] at hl
    simp only [Bool.false_eq_true, if_false, false_or] at hl ⊢
    refine ⟨sort_same (map_set_same _ _ _).symm (sort_gain hs s _ hh), ?_⟩
    have := posA_le x.f4 s
    simp; omega
theorem good_drp (h : Good f next) {id : Int} {x : S40} (hx : look f id = some x) (s : ByteArray) : Good (drpF f id s) next := by
  obtain ⟨hs, hle⟩ := h.att id x hx
  unfold drpF
  rw [hx]
  refine good_att h hx rfl rfl rfl ⟨?_, ?_⟩
  · show SortA (x.f4.take (posA x.f4 s) ++ x.f4.drop (posA x.f4 s + 1))
    have hw : SortA (x.f4.take (posA x.f4 s) ++ x.f4.drop (posA x.f4 s)) := by rw [List.take_append_drop]; exact hs
    obtain ⟨w1, w2, w3⟩ := List.pairwise_append.1 hw
    have hsub : (x.f4.drop (posA x.f4 s + 1)).Sublist (x.f4.drop (posA x.f4 s)) := by
      rw [← List.drop_drop]; exact List.drop_sublist _ _
    exact List.pairwise_append.2 ⟨w1, w2.sublist hsub, fun a ha b hb => w3 a ha b (hsub.mem hb)⟩
  · show (x.f4.take (posA x.f4 s) ++ x.f4.drop (posA x.f4 s + 1)).length ≤ 16
    simp; omega
end
end Go.Proofs.Ytpnlbmeeihbjaaa.P
end
section
set_option linter.unusedVariables false
set_option linter.unusedSimpArgs false
namespace Go.Proofs.Ytpnlbmeeihbjaaa.P
open Go.RowKit Go.Proofs.YtpnlbmeeihbjaaaW.PrintWords Go.Proofs.YtpnlbmeeihbjaaaW.PrintLast Go.Proofs.YtpnlbmeeihbjaaaW.PrintMore
set_option linter.unusedVariables false
set_option linter.unusedSimpArgs false
def preL (f : Nat → Option S40) : Nat → Int → List Int
  | 0, _ => []
  | n + 1, k => match look f k with
    | none => []
    | some x => k :: x.f3.flatMap (preL f n)
def pre (f : Nat → Option S40) (k : Int) : List Int := preL f 513 k
section
variable {f : Nat → Option S40} {next : Int}
theorem flatMap_same {l : List Int} {g h : Int → List Int} (e : ∀ c ∈ l, g c = h c) : l.flatMap g = l.flatMap h := by
  induction l with
  | nil => rfl
  | cons a r ih => rw [List.flatMap_cons, List.flatMap_cons, e a List.mem_cons_self, ih (fun c hc => e c (List.mem_cons_of_mem _ hc))]
theorem kid_len (h : Good f next) {k c : Int} {x : S40} (hk : look f k = some x) (hc : c ∈ x.f3) : (ch f c).length = (ch f k).length + 1 := by
  obtain ⟨_, y, hy, hp⟩ := h.kid k x c hk hc
  rw [ch_step h hy, hp]; rfl
theorem preL_fuel (h : Good f next) : ∀ (n : Nat) (k : Int) (m : Nat), 513 ≤ n + (ch f k).length → 513 ≤ m + (ch f k).length → preL f n k = preL f m k := by
  intro n
  induction n with
  | zero => intro k m hn hm; have := ch_le h k; omega
  | succ n ih =>
    intro k m hn hm
    cases m with
    | zero => have := ch_le h k; omega
    | succ m =>
      unfold preL
      cases e : look f k with
      | none => rfl
      | some x =>
        show k :: x.f3.flatMap (preL f n) = k :: x.f3.flatMap (preL f m)
        rw [flatMap_same (fun c hc => ih c m (by have := kid_len h e hc; omega) (by have := kid_len h e hc; omega))]
theorem pre_none {k : Int} (h : look f k = none) : pre f k = [] := by unfold pre preL; rw [h]
theorem pre_step (h : Good f next) {k : Int} {x : S40} (hk : look f k = some x) : pre f k = k :: x.f3.flatMap (pre f) := by
  conv => lhs; unfold pre preL
  rw [hk]
  show k :: x.f3.flatMap (preL f 512) = _
  rw [flatMap_same (fun c hc => preL_fuel h 512 c 513 (by have := kid_len h hk hc; have := ch_pos h hk; omega) (by omega))]
  rfl
theorem pre_self (h : Good f next) {k : Int} {x : S40} (hk : look f k = some x) : k ∈ pre f k := by rw [pre_step h hk]; exact List.mem_cons_self
theorem pre_down (h : Good f next) : ∀ (n : Nat) (k c : Int), 512 - (ch f k).length < n → c ∈ pre f k → k ∈ ch f c := by
  intro n
  induction n with
  | zero => intro k c hn; omega
  | succ n ih =>
    intro k c hn hc
    cases e : look f k with
    | none => rw [pre_none e] at hc; cases hc
    | some x =>
      rw [pre_step h e] at hc
      rcases List.mem_cons.1 hc with rfl | h1
      · exact ch_self h e
      · obtain ⟨a, ha, hca⟩ := List.mem_flatMap.1 h1
        obtain ⟨_, y, hy, hp⟩ := h.kid k x a e ha
        have hl := kid_len h e ha
        have hle := ch_le h a
        have h2 := ih a c (by omega) hca
        refine ch_trans h h2 ?_
        rw [ch_step h hy, hp]
        exact List.mem_cons_of_mem _ (ch_self h e)
theorem pre_kid (h : Good f next) {p c : Int} {x : S40} (hp : look f p = some x) (hc : c ∈ x.f3) : (pre f c).Sublist (pre f p) := by
  rw [pre_step h hp]
  refine List.Sublist.cons _ ?_
  obtain ⟨a, b, e⟩ := List.append_of_mem hc
  rw [e, List.flatMap_append, List.flatMap_cons]
  exact (List.sublist_append_left _ _).trans (List.sublist_append_right _ _)
theorem pre_sub (h : Good f next) : ∀ (n : Nat) (k c : Int), (ch f c).length ≤ n → k ∈ ch f c → (pre f c).Sublist (pre f k) := by
  intro n
  induction n with
  | zero => intro k c hn hk; rw [List.eq_nil_of_length_eq_zero (by omega : (ch f c).length = 0)] at hk; cases hk
  | succ n ih =>
    intro k c hn hk
    by_cases e : c = k
    · rw [e]; exact List.Sublist.refl _
    · cases e1 : look f c with
      | none => rw [ch_none c e1] at hk; cases hk
      | some y =>
        have hst := ch_step h e1
        rw [hst] at hk hn
        have hk2 : k ∈ ch f y.f2 := by
          rcases List.mem_cons.1 hk with h1 | h1
          · exact absurd h1.symm e
          · exact h1
        by_cases c1 : c = 1
        · exfalso
          subst c1
          obtain ⟨r, hr, hr0⟩ := h.root
          rw [e1] at hr
          obtain rfl := Option.some.inj hr
          rw [hr0, ch_none 0 h.zero] at hk2
          cases hk2
        · obtain ⟨p, hp, hkp⟩ := h.par c y e1 c1
          exact (pre_kid h hp hkp).trans (ih k y.f2 (by simpa using hn) hk2)
theorem pre_mem (h : Good f next) (k c : Int) : c ∈ pre f k ↔ k ∈ ch f c := by
  refine ⟨pre_down h 513 k c (by omega), fun hk => ?_⟩
  cases e : look f c with
  | none => rw [ch_none c e] at hk; cases hk
  | some y => exact (pre_sub h _ k c (Nat.le_refl _) hk).subset (pre_self h e)
theorem ch_same (h : Good f next) {a b c : Int} (ha : a ∈ ch f c) (hb : b ∈ ch f c) (hl : (ch f a).length = (ch f b).length) : a = b := by
  obtain ⟨l, hla⟩ := ch_suffix h _ c a (Nat.le_refl _) ha
  obtain ⟨m, hmb⟩ := ch_suffix h _ c b (Nat.le_refl _) hb
  have e : ch f a = ch f b := (List.append_inj' (hla.symm.trans hmb) hl).2
  obtain ⟨x, hx⟩ := ch_look h ha
  obtain ⟨y, hy⟩ := ch_look h hb
  rw [ch_step h hx, ch_step h hy] at e
  exact (List.cons.inj e).1
theorem nodup_flat (h : Good f next) (n : Nat) (ih : ∀ c, (ch f c).length = n → (pre f c).Nodup) : ∀ (l : List Int), l.Nodup → (∀ c ∈ l, (ch f c).length = n) → (l.flatMap (pre f)).Nodup
  | [], _, _ => List.nodup_nil
  | a :: r, hn, hl => by
    rw [List.flatMap_cons]
    obtain ⟨ha, hr⟩ := List.nodup_cons.1 hn
    refine List.nodup_append.2 ⟨ih a (hl a List.mem_cons_self), nodup_flat h n ih r hr (fun c hc => hl c (List.mem_cons_of_mem _ hc)), fun u hu v hv e => ?_⟩
    subst e
    obtain ⟨b, hb, hub⟩ := List.mem_flatMap.1 hv
    have := ch_same h ((pre_mem h a u).1 hu) ((pre_mem h b u).1 hub) ((hl a List.mem_cons_self).trans (hl b (List.mem_cons_of_mem _ hb)).symm)
    exact ha (this ▸ hb)
theorem pre_nodup' (h : Good f next) : ∀ (n : Nat) (k : Int), 512 - (ch f k).length < n → (pre f k).Nodup := by
  intro n
  induction n with
  | zero => intro k hn; omega
  | succ n ih =>
    intro k hn
    cases e : look f k with
    | none => rw [pre_none e]; exact List.nodup_nil
    | some x =>
      rw [pre_step h e]
      refine List.nodup_cons.2 ⟨fun hk => ?_, nodup_flat h ((ch f k).length + 1) (fun c hc => ih c (by have := ch_le h c; omega)) x.f3 (h.nodup k x e) (fun c hc => kid_len h e hc)⟩
      obtain ⟨a, ha, hka⟩ := List.mem_flatMap.1 hk
      have h1 := ch_len_of h ((pre_mem h a k).1 hka)
      have h2 := kid_len h e ha
      omega
theorem pre_nodup (h : Good f next) (k : Int) : (pre f k).Nodup := pre_nodup' h 513 k (by omega)
theorem pre_look (h : Good f next) {k c : Int} (hc : c ∈ pre f k) : ∃ x, look f c = some x := by
  have := (pre_mem h k c).1 hc
  cases e : look f c with
  | none => rw [ch_none c e] at this; cases this
  | some x => exact ⟨x, rfl⟩
theorem pre_len (h : Good f next) (k : Int) : (pre f k).length ≤ 1048576 := nodup_bound 1048576 _ (pre_nodup h k) (fun c hc => by
  obtain ⟨x, hx⟩ := pre_look h hc
  have := h.dom c x hx
  have := h.hi
  omega)
theorem pre_all (h : Good f next) (c : Int) : c ∈ pre f 1 ↔ ∃ x, look f c = some x :=
  ⟨fun hc => pre_look h hc, fun ⟨x, hx⟩ => (pre_mem h 1 c).2 (ch_has_root h _ c x (Nat.le_refl _) hx)⟩
theorem idxOf_ne {c a : Int} {r : List Int} (e : c ≠ a) : (c :: r).idxOf a = r.idxOf a + 1 := by
  rw [List.idxOf_cons, show (c == a) = false by simpa using e]; rfl
theorem idxOf_same {c : Int} {r : List Int} : (c :: r).idxOf c = 0 := by
  rw [List.idxOf_cons, show (c == c) = true by simp]; rfl
def bef (l : List Int) (a b : Int) : Prop := [a, b].Sublist l
theorem bef_idx {l : List Int} (hn : l.Nodup) {a b : Int} (h : bef l a b) : l.idxOf a < l.idxOf b ∧ a ∈ l ∧ b ∈ l ∧ a ≠ b := by
  induction l with
  | nil => cases h
  | cons c r ih =>
    obtain ⟨hc, hr⟩ := List.nodup_cons.1 hn
    rcases h with _ | h | h
    · obtain ⟨h1, h2, h3, h4⟩ := ih hr (by assumption)
      have e1 : c ≠ a := fun e => hc (e ▸ h2)
      have e2 : c ≠ b := fun e => hc (e ▸ h3)
      refine ⟨?_, List.mem_cons_of_mem _ h2, List.mem_cons_of_mem _ h3, h4⟩
      rw [idxOf_ne e1, idxOf_ne e2]; omega
    · have hb : b ∈ r := by
        have h2 : [b].Sublist r := by assumption
        exact h2.subset List.mem_cons_self
      have e2 : a ≠ b := fun e => hc (e ▸ hb)
      refine ⟨?_, List.mem_cons_self, List.mem_cons_of_mem _ hb, e2⟩
      rw [idxOf_same, idxOf_ne e2]; omega
theorem bef_up (h : Good f next) {a b : Int} (hb : a ∈ ch f b) (hne : a ≠ b) : bef (pre f 1) a b := by
  obtain ⟨x, hx⟩ := ch_look h hb
  have h1 : (pre f a).Sublist (pre f 1) := pre_sub h _ 1 a (Nat.le_refl _) (ch_has_root h _ a x (Nat.le_refl _) hx)
  refine List.Sublist.trans ?_ h1
  have h2 := (pre_mem h a b).2 hb
  rw [pre_step h hx] at h2 ⊢
  rcases List.mem_cons.1 h2 with e | h3
  · exact absurd e.symm hne
  · exact List.Sublist.cons_cons _ (List.singleton_sublist.2 h3)
def rest (f : Nat → Option S40) (todo : List Int) : List Int := todo.reverse.flatMap (pre f)
theorem rest_nil : rest f [] = [] := rfl
theorem rest_one (k : Int) : rest f [k] = pre f k := by simp [rest]
theorem rest_none {l : List Int} {k : Int} (h : look f k = none) : rest f (l ++ [k]) = rest f l := by
  unfold rest
  rw [List.reverse_append]
  simp [pre_none h]
theorem rest_some (h : Good f next) {l : List Int} {k : Int} {x : S40} (hk : look f k = some x) : rest f (l ++ [k]) = k :: rest f (l ++ x.f3.reverse) := by
  unfold rest
  rw [List.reverse_append, List.reverse_append, List.reverse_reverse, List.flatMap_append, List.flatMap_append]
  simp [pre_step h hk]
end
end Go.Proofs.Ytpnlbmeeihbjaaa.P
end
section
set_option linter.unusedVariables false
set_option linter.unusedSimpArgs false
namespace Go.Proofs.Ytpnlbmeeihbjaaa.P
open Go.RowKit Go.Proofs.YtpnlbmeeihbjaaaW.PrintWords Go.Proofs.YtpnlbmeeihbjaaaW.PrintLast Go.Proofs.YtpnlbmeeihbjaaaW.PrintMore
set_option linter.unusedVariables false
set_option linter.unusedSimpArgs false
def upR (f : Nat → Option S40) (k : Int) : List Int := (ch f k).tail
def rowR (f : Nat → Option S40) (k : Int) : List Int := match look f k with
  | none => []
  | some x => match look f x.f2 with
    | some p => p.f3
    | none => [k]
def idxI (l : List Int) (k : Int) : Int := if k ∈ l then (l.idxOf k : Int) else -1
def cmpR (f : Nat → Option S40) (a b : Int) : Int := if look f a = none ∨ look f b = none ∨ a = b then 0 else if (pre f 1).idxOf a < (pre f 1).idxOf b then -1 else 1
section
variable {f : Nat → Option S40} {next : Int}
theorem idxI_mem {l : List Int} {k : Int} (h : k ∈ l) : idxI l k = (l.idxOf k : Int) := if_pos h
theorem idxI_no {l : List Int} {k : Int} (h : k ∉ l) : idxI l k = -1 := if_neg h
theorem rowR_none {k : Int} (h : look f k = none) : rowR f k = [] := by unfold rowR; rw [h]
theorem rowR_root (h : Good f next) : rowR f 1 = [1] := by
  obtain ⟨r, hr, hr0⟩ := h.root
  unfold rowR
  rw [hr]
  simp only [hr0, h.zero]
theorem rowR_kid (h : Good f next) {p k : Int} {x : S40} (hp : look f p = some x) (hk : k ∈ x.f3) : rowR f k = x.f3 := by
  obtain ⟨_, y, hy, hpy⟩ := h.kid p x k hp hk
  unfold rowR
  rw [hy]
  simp only [hpy, hp]
theorem rowR_cases (h : Good f next) {k : Int} {y : S40} (hk : look f k = some y) : (k = 1 ∧ rowR f k = [1]) ∨ (k ≠ 1 ∧ ∃ x, look f y.f2 = some x ∧ k ∈ x.f3 ∧ rowR f k = x.f3) := by
  by_cases e : k = 1
  · exact .inl ⟨e, by rw [e]; exact rowR_root h⟩
  · obtain ⟨p, hp, hkp⟩ := h.par k y hk e
    exact .inr ⟨e, p, hp, hkp, rowR_kid h hp hkp⟩
theorem rowR_nodup (h : Good f next) (k : Int) : (rowR f k).Nodup := by
  cases e : look f k with
  | none => rw [rowR_none e]; exact List.nodup_nil
  | some y =>
    rcases rowR_cases h e with ⟨_, hr⟩ | ⟨_, x, hx, _, hr⟩
    · rw [hr]; simp
    · rw [hr]; exact h.nodup _ x hx
theorem rowR_same (h : Good f next) {k c : Int} (hc : c ∈ rowR f k) : rowR f c = rowR f k ∧ ∃ y, look f c = some y := by
  cases e : look f k with
  | none => rw [rowR_none e] at hc; cases hc
  | some y =>
    rcases rowR_cases h e with ⟨rfl, hr⟩ | ⟨_, x, hx, _, hr⟩
    · rw [hr] at hc
      obtain rfl := List.mem_singleton.1 hc
      exact ⟨rfl, y, e⟩
    · rw [hr] at hc ⊢
      obtain ⟨_, z, hz, _⟩ := h.kid _ x c hx hc
      exact ⟨rowR_kid h hx hc, z, hz⟩
theorem rowR_len (h : Good f next) (k : Int) : (rowR f k).length ≤ 1048576 := nodup_bound 1048576 _ (rowR_nodup h k) (fun c hc => by
  obtain ⟨_, y, hy⟩ := rowR_same h hc
  have := h.dom c y hy
  have := h.hi
  omega)
theorem idx_none {k : Int} (hk : look f k = none) : idxI (rowR f k) k = -1 := by rw [rowR_none hk]; rfl
theorem cmp_bef (h : Good f next) {a b : Int} (hb : bef (pre f 1) a b) : cmpR f a b = -1 := by
  obtain ⟨h1, h2, h3, h4⟩ := bef_idx (pre_nodup h 1) hb
  obtain ⟨x, hx⟩ := (pre_all h a).1 h2
  obtain ⟨y, hy⟩ := (pre_all h b).1 h3
  unfold cmpR
  rw [if_neg (by rw [hx, hy]; simp [h4]), if_pos h1]
theorem cmp_up (h : Good f next) {a b : Int} (hb : a ∈ upR f b) : cmpR f a b = -1 := by
  unfold upR at hb
  have hm : a ∈ ch f b := List.mem_of_mem_tail hb
  refine cmp_bef h (bef_up h hm (fun e => ?_))
  subst e
  obtain ⟨x, hx⟩ := ch_look h hm
  have hn := ch_nodup h _ a (Nat.le_refl _)
  rw [ch_step h hx] at hb hn
  exact (List.nodup_cons.1 hn).1 hb
theorem cmp_some {a b : Int} (c : ¬ (look f a = none ∨ look f b = none ∨ a = b)) : cmpR f a b = if (pre f 1).idxOf a < (pre f 1).idxOf b then -1 else 1 := if_neg c
theorem cmp_no {a b : Int} (c : look f a = none ∨ look f b = none ∨ a = b) : cmpR f a b = 0 := if_pos c
end
end Go.Proofs.Ytpnlbmeeihbjaaa.P
end
