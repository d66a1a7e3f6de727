/- The law NthParses (layer 4): the row and its tied card: for every input the law returns true, and the argument reads behind the call as it read before. No condition of ours. -/
import Derived.Test.YtmfnnhmlekdbjaaDoorZNP7
import Derived.Test.YtmfnnhmlekdbjaaDoorZNP12
import Derived.Laws.RangeAny
import Derived.Lib.Strings
section
set_option linter.unusedVariables false
set_option linter.unusedSimpArgs false
namespace Go.Proofs.YtmfnnhmlekdbjaaDoor.P
open Go.RowKit Go.Proofs.YtmfnnhmlekdbjaaDoorW.PrintWords Go.Proofs.YtmfnnhmlekdbjaaDoorW.PrintLast Go.Proofs.YtmfnnhmlekdbjaaDoorW.PrintMore
open Go.Lib
set_option linter.unusedVariables false
set_option linter.unusedSimpArgs false
def L (s : ByteArray) : List UInt8 := s.data.toList
theorem L_len (s : ByteArray) : (L s).length = s.size := (Lib.size_eq s).symm
theorem L_toList (s : ByteArray) : s.toList = L s := Lib.toList_data s
theorem L_app (s t : ByteArray) : L (s ++ t) = L s ++ L t := by simp [L]
theorem L_ext (s : ByteArray) (i j : Nat) : L (s.extract i j) = ((L s).drop i).take (j - i) := by rw [Lib.extract_eq]; rfl
theorem L_tail (s : ByteArray) (i : Nat) : L (s.extract i s.size) = (L s).drop i := by
  rw [L_ext, List.take_of_length_le (by rw [List.length_drop, L_len]; exact Nat.le_refl _)]
theorem L_head (s : ByteArray) (i : Nat) : L (s.extract 0 i) = (L s).take i := by rw [L_ext]; simp
theorem bt_get {s : ByteArray} {i : Nat} (h : i < s.size) : bt s (i : Int) = (((L s)[i]'(by rw [L_len]; exact h)).toNat : Int) := by
  unfold bt
  rw [dif_pos (by rw [Int.toNat_natCast]; exact h)]
  rfl
theorem bt_zero {s : ByteArray} {c : UInt8} {r : List UInt8} (h : L s = c :: r) : bt s 0 = (c.toNat : Int) := by
  have hs : 0 < s.size := by rw [← L_len, h]; simp
  have := bt_get hs
  simp only [h, List.getElem_cons_zero] at this
  exact this
def dgt (c : UInt8) : Bool := decide (48 ≤ c.toNat) && decide (c.toNat ≤ 57)
def digN : List UInt8 → Int → Option Int
  | [], a => some a
  | c :: r, a => if dgt c = true then digN r (min (10 * a + ((c.toNat : Int) - 48)) 1000000) else none
def isSign (c : UInt8) : Bool := c == 43 || c == 45
def bodyN : List UInt8 → List UInt8
  | [] => []
  | c :: r => if isSign c = true then r else c :: r
def wholeV (l : List UInt8) : Int × Bool := match digN (bodyN l) 0 with
  | none => (0, false)
  | some n => if bodyN l = [] then (0, false) else (if l.head? = some 45 then -n else n, true)
theorem sign_no {c : UInt8} (h : isSign c = true) : dgt c = false := by
  simp [isSign] at h
  rcases h with rfl | rfl <;> decide
theorem digL_eq (s : ByteArray) : ∀ (m pos : Nat) (a : Int), s.size - pos < m → pos ≤ s.size → digL s m pos a = some (digN ((L s).drop pos) a) := by
  intro m
  induction m with
  | zero => intro pos a hm; omega
  | succ m ih =>
    intro pos a hm hp
    unfold digL
    by_cases c : pos < s.size
    · rw [if_pos c]
      have hl : pos < (L s).length := by rw [L_len]; exact c
      rw [List.drop_eq_getElem_cons hl]
      have hg : (L s)[pos] = s[pos]'c := rfl
      rw [hg]
      rcases Nat.lt_or_ge (s[pos]'c).toNat 128 with h | h
      · rw [decode_ascii s pos c h]
        have e : btw 48 57 (((s[pos]'c).toNat : Nat) : Int) = dgt (s[pos]'c) := by
          simp only [btw, dgt]
          congr 1 <;> exact decide_eq_decide.2 (by omega)
        show (if btw 48 57 (((s[pos]'c).toNat : Nat) : Int) = true then digL s m (pos + 1) (min (10 * a + ((((s[pos]'c).toNat : Nat) : Int) - 48)) 1000000) else some none) = _
        rw [e]
        unfold digN
        by_cases hd : dgt (s[pos]'c) = true
        · rw [if_pos hd, if_pos hd, ih (pos + 1) _ (by omega) (by omega)]
        · rw [if_neg hd, if_neg hd]
      · obtain ⟨h1, _⟩ := decode_high s pos c h
        rw [if_neg (by simp [btw]; omega)]
        unfold digN
        rw [if_neg (by simp only [dgt]; simp; omega)]
    · rw [if_neg c, List.drop_of_length_le (by rw [L_len]; omega)]
      rfl
theorem L_signsOff (s : ByteArray) : L (signsOff s) = (L s).dropWhile isSign := by
  have e : (fun c : UInt8 => ([43, 45] : List UInt8).contains c) = isSign := by
    funext c
    simp only [isSign, List.contains_cons, List.contains_nil, Bool.or_false]
  show List.dropWhile (fun c : UInt8 => ([43, 45] : List UInt8).contains c) (L s) = _
  rw [e]
theorem nil_iff (s : ByteArray) : s.toList = [] ↔ L s = [] := by rw [L_toList]
theorem numF_eq (s : ByteArray) (hs : s.size ≤ 140737488351232) : numF s = some (wholeV (L s)) := by
  unfold numF
  rw [if_pos hs, ← L_len s, ← L_len (signsOff s)]
  have hsz : (L (signsOff s)).length = (signsOff s).size := L_len _
  rw [digL_eq (signsOff s) _ 0 0 (by omega) (by omega), List.drop_zero]
  simp only [nil_iff]
  rw [L_signsOff]
  cases hl : L s with
  | nil => rfl
  | cons c r =>
    have hb := bt_zero hl
    by_cases hc : isSign c = true
    · rw [List.dropWhile_cons_of_pos hc]
      cases r with
      | nil =>
        have hbody : bodyN [c] = [] := by simp [bodyN, hc]
        rw [if_neg (by simp), if_pos (by simp)]
        unfold wholeV
        rw [hbody]
        rfl
      | cons d t =>
        by_cases hd : isSign d = true
        · have hle := (List.dropWhile_sublist isSign (l := t)).length_le
          rw [List.dropWhile_cons_of_pos hd, if_pos (by simp only [List.length_cons]; omega)]
          have hbody : bodyN (c :: d :: t) = d :: t := by simp [bodyN, hc]
          unfold wholeV
          rw [hbody]
          unfold digN
          rw [if_neg (by rw [sign_no hd]; decide)]
        · rw [List.dropWhile_cons_of_neg hd, if_neg (by simp only [List.length_cons]; omega), if_neg (by simp)]
          have hbody : bodyN (c :: d :: t) = d :: t := by simp [bodyN, hc]
          unfold wholeV
          rw [hbody]
          cases hdn : digN (d :: t) 0 with
          | none => rfl
          | some n =>
            show (if bt s 0 = 45 then some (-n, true) else some (n, true)) = some (if d :: t = [] then (0, false) else (if (c :: d :: t).head? = some 45 then -n else n, true))
            rw [if_neg (show ¬ d :: t = [] by simp), hb]
            by_cases h45 : c = 45
            · subst h45; simp
            · rw [if_neg (fun e => h45 (UInt8.toNat_inj.1 (by have h9 : c.toNat = 45 := (by omega); rw [h9]; rfl))), if_neg (by simpa using h45)]
    · rw [List.dropWhile_cons_of_neg hc, if_neg (by simp), if_neg (by simp)]
      have hbody : bodyN (c :: r) = c :: r := by simp [bodyN, hc]
      unfold wholeV
      rw [hbody]
      cases hdn : digN (c :: r) 0 with
      | none => rfl
      | some n =>
        show (if bt s 0 = 45 then some (-n, true) else some (n, true)) = some (if c :: r = [] then (0, false) else (if (c :: r).head? = some 45 then -n else n, true))
        rw [if_neg (show ¬ c :: r = [] by simp), hb]
        by_cases h45 : c = 45
        · subst h45; exact absurd rfl hc
        · rw [if_neg (fun e => h45 (UInt8.toNat_inj.1 (by have h9 : c.toNat = 45 := (by omega); rw [h9]; rfl))), if_neg (by simpa using h45)]
theorem ev_num (s : ByteArray) (hs : s.size ≤ 140737488351232) : nth_number.f s = some (wholeV (L s)) := numF_eq s hs
end Go.Proofs.YtmfnnhmlekdbjaaDoor.P
end
section
set_option linter.unusedVariables false
set_option linter.unusedSimpArgs false
namespace Go.Proofs.YtmfnnhmlekdbjaaDoor.P
open Go.RowKit Go.Proofs.YtmfnnhmlekdbjaaDoorW.PrintWords Go.Proofs.YtmfnnhmlekdbjaaDoorW.PrintLast Go.Proofs.YtmfnnhmlekdbjaaDoorW.PrintMore
open Go.Lib
set_option linter.unusedVariables false
set_option linter.unusedSimpArgs false
theorem w64_ {x : Int} (h0 : -9223372036854775808 ≤ x) (h1 : x ≤ 9223372036854775807) : wrap64 x = x := by unfold wrap64; omega
theorem Ev.ifp {α : Type} {p : Prop} [Decidable p] {g f : Nat → Option α} {r : α} (hp : p) (k : Ev g r) : Ev (fun n => if p then g n else f n) r := by simpa only [if_pos hp] using k
theorem Ev.ifn {α : Type} {p : Prop} [Decidable p] {g f : Nat → Option α} {r : α} (hp : ¬ p) (k : Ev f r) : Ev (fun n => if p then g n else f n) r := by simpa only [if_neg hp] using k
theorem Ev.is {α : Type} {g : Nat → Option α} {r s : α} (k : Ev g s) (h : s = r) : Ev g r := h ▸ k
theorem byte_of (c : UInt8) : (c.toNat : Int) ≤ 255 ∧ 0 ≤ (c.toNat : Int) := by have := c.toNat_lt; omega
def wholeT (neg : Bool) (ne : Bool) (o : Option Int) : Int × Bool := match o with
  | none => (0, false)
  | some n => (if neg = true then -n else n, ne)
theorem ev_wl (s : ByteArray) (neg : Bool) (hs : s.size ≤ 1000000000) : ∀ (d i : Nat) (a : Int), i + d = s.size → 0 ≤ a → a ≤ 1000000 →
    Ev (fun k => gouacheref02_Whole.l0 k s neg a (i : Int)) (wholeT neg (decide ((s.size : Int) > 0)) (digN ((L s).drop i) a)) := by
  intro d
  induction d with
  | zero =>
    intro i a hi h0 h1
    rw [List.drop_of_length_le (by rw [L_len]; omega)]
    refine Ev.step (fun k => by unfold gouacheref02_Whole.l0; exact rfl) ?_
    refine Ev.ifn (by omega) ?_
    cases neg with
    | true =>
      refine Ev.ifp rfl ?_
      rw [w64_ (by omega) (by omega)]
      exact Ev.now _
    | false => exact Ev.ifn (by decide) (Ev.now _)
  | succ d ih =>
    intro i a hi h0 h1
    have hlt : i < s.size := by omega
    have hl : i < (L s).length := by rw [L_len]; exact hlt
    have hb := bt_get hlt
    rw [List.drop_eq_getElem_cons hl]
    obtain ⟨c, hc⟩ : ∃ c, c = (L s)[i] := ⟨_, rfl⟩
    rw [← hc] at hb ⊢
    have hr := byte_of c
    refine Ev.step (fun k => by unfold gouacheref02_Whole.l0; exact rfl) ?_
    refine Ev.ifp (by omega) (Ev.ifp (by omega) ?_)
    have key : ∀ b : Bool, b = !dgt c → Ev (fun k => gouacheref02_Whole.j4 k s neg a (i : Int) b) (wholeT neg (decide ((s.size : Int) > 0)) (digN (c :: (L s).drop (i + 1)) a)) := by
      intro b hbb
      refine Ev.step (fun k => by unfold gouacheref02_Whole.j4; exact rfl) ?_
      unfold digN
      cases hd : dgt c with
      | false =>
        rw [hd] at hbb
        subst hbb
        refine Ev.ifp rfl ?_
        rw [if_neg (by decide)]
        exact Ev.now _
      | true =>
        rw [hd] at hbb
        subst hbb
        have hcc : 48 ≤ c.toNat ∧ c.toNat ≤ 57 := by simpa [dgt] using hd
        rw [if_pos rfl]
        refine Ev.ifn (by decide) (Ev.ifp (by omega) (Ev.ifp (by omega) ?_))
        rw [hb]
        have e1 : wrap64 (wrap64 (10 * a) + ((c.toNat : Int) - 48) % 256) = 10 * a + ((c.toNat : Int) - 48) := by unfold wrap64; omega
        have e2 : wrap64 ((i : Int) + 1) = ((i + 1 : Nat) : Int) := by unfold wrap64; omega
        rw [e1, e2]
        by_cases h : 10 * a + ((c.toNat : Int) - 48) > 1000000
        · refine Ev.ifp h ?_
          rw [show min (10 * a + ((c.toNat : Int) - 48)) 1000000 = 1000000 by omega]
          exact ih (i + 1) 1000000 (by omega) (by omega) (by omega)
        · refine Ev.ifn h ?_
          rw [show min (10 * a + ((c.toNat : Int) - 48)) 1000000 = 10 * a + ((c.toNat : Int) - 48) by omega]
          exact ih (i + 1) _ (by omega) (by omega) (by omega)
    rw [hb]
    by_cases h : (c.toNat : Int) < 48
    · exact Ev.ifp h (key true (by simp [dgt]; omega))
    · refine Ev.ifn h (key _ ?_)
      simp only [dgt]
      by_cases h2 : (c.toNat : Int) > 57
      · rw [decide_eq_true h2, decide_eq_true (show 48 ≤ c.toNat by omega), decide_eq_false (show ¬ c.toNat ≤ 57 by omega)]; rfl
      · rw [decide_eq_false h2, decide_eq_true (show 48 ≤ c.toNat by omega), decide_eq_true (show c.toNat ≤ 57 by omega)]; rfl
theorem ev_whole (s : ByteArray) (hs : s.size ≤ 1000000000) : Ev (fun k => gouacheref02_Whole.f k s) (wholeV (L s)) := by
  have two : ∀ (x : ByteArray) (neg : Bool), x.size ≤ 1000000000 → Ev (fun k => gouacheref02_Whole.j2 k x neg) (wholeT neg (decide ((x.size : Int) > 0)) (digN (L x) 0)) := fun x neg hx =>
    Ev.step (fun k => by unfold gouacheref02_Whole.j2; exact rfl) (by have := ev_wl x neg hx x.size 0 0 (by omega) (by omega) (by omega); simpa using this)
  unfold gouacheref02_Whole.f
  cases hl : L s with
  | nil =>
    have h0 : s.size = 0 := by rw [← L_len, hl]; rfl
    refine Ev.ifn (by omega) ?_
    refine Ev.step (fun k => by unfold gouacheref02_Whole.j0; exact rfl) (Ev.ifn (by omega) ?_)
    refine Ev.step (fun k => by unfold gouacheref02_Whole.j1; exact rfl) (Ev.ifn (by decide) ?_)
    refine Ev.is (two s false hs) ?_
    rw [hl]
    simp [wholeT, wholeV, digN, bodyN, h0]
  | cons c r =>
    have h1 : s.size = r.length + 1 := by rw [← L_len, hl]; rfl
    have hb := bt_zero hl
    have key : ∀ neg : Bool, neg = (c == 45) → Ev (fun k => gouacheref02_Whole.j0 k s neg) (wholeV (c :: r)) := by
      intro neg hn
      refine Ev.step (fun k => by unfold gouacheref02_Whole.j0; exact rfl) (Ev.ifp (by omega) (Ev.ifp (by omega) ?_))
      have one : ∀ b : Bool, b = isSign c → Ev (fun k => gouacheref02_Whole.j1 k s neg b) (wholeV (c :: r)) := by
        intro b hbb
        refine Ev.step (fun k => by unfold gouacheref02_Whole.j1; exact rfl) ?_
        cases hs' : isSign c with
        | true =>
          rw [hs'] at hbb
          subst hbb
          refine Ev.ifp rfl (Ev.ifp (by omega) ?_)
          have hx : L (s.extract 1 s.size) = r := by rw [L_tail, hl]; rfl
          refine Ev.is (two (s.extract 1 s.size) neg (by rw [← L_len, hx]; omega)) ?_
          have hz : (s.extract 1 s.size).size = r.length := by rw [← L_len, hx]
          rw [hx, hz]
          have hbody : bodyN (c :: r) = r := by simp [bodyN, hs']
          unfold wholeV
          rw [hbody]
          cases hd : digN r 0 with
          | none => rfl
          | some n =>
            show (if neg = true then -n else n, decide ((r.length : Int) > 0)) = if r = [] then (0, false) else (if (c :: r).head? = some 45 then -n else n, true)
            cases r with
            | nil =>
              obtain rfl := Option.some.inj hd
              simp
            | cons d t =>
              rw [if_neg (show ¬ d :: t = [] by simp), hn]
              have e : decide (((d :: t).length : Int) > 0) = true := decide_eq_true (by simp only [List.length_cons]; omega)
              rw [e]
              by_cases h45 : c = 45
              · subst h45; simp
              · rw [if_neg (by simpa using h45), if_neg (by simpa using h45)]
        | false =>
          rw [hs'] at hbb
          subst hbb
          refine Ev.ifn (by decide) ?_
          refine Ev.is (two s neg hs) ?_
          rw [hl, h1]
          have hbody : bodyN (c :: r) = c :: r := by simp [bodyN, hs']
          unfold wholeV
          rw [hbody]
          cases hd : digN (c :: r) 0 with
          | none => rfl
          | some n =>
            show (if neg = true then -n else n, decide (((r.length + 1 : Nat) : Int) > 0)) = if c :: r = [] then (0, false) else (if (c :: r).head? = some 45 then -n else n, true)
            rw [if_neg (show ¬ c :: r = [] by simp), hn, decide_eq_true (show ((r.length + 1 : Nat) : Int) > 0 by omega)]
            have h45 : c ≠ 45 := fun e => by subst e; cases hs'
            rw [if_neg (by simpa using h45), if_neg (by simpa using h45)]
      rw [hb]
      by_cases h45 : (c.toNat : Int) = 45
      · refine Ev.ifp h45 (one true ?_)
        have : c = 45 := UInt8.toNat_inj.1 (by have h9 : c.toNat = 45 := (by omega); rw [h9]; rfl)
        subst this; rfl
      · refine Ev.ifn h45 (one _ ?_)
        have n45 : c ≠ 45 := fun e => h45 (by subst e; rfl)
        unfold isSign
        rw [show (c == 45) = false by simpa using n45, Bool.or_false]
        by_cases h43 : c = 43
        · subst h43; rfl
        · rw [show (c == 43) = false by simpa using h43]
          simp only [beq_eq_false_iff_ne]
          exact fun e => h43 (UInt8.toNat_inj.1 (by have h9 : c.toNat = 43 := (by omega); rw [h9]; rfl))
    refine Ev.ifp (by omega) (Ev.ifp (by omega) (key _ ?_))
    rw [hb]
    by_cases h45 : c = 45
    · subst h45; rfl
    · rw [show (c == 45) = false by simpa using h45]
      simp only [beq_eq_false_iff_ne]
      exact fun e => h45 (UInt8.toNat_inj.1 (by have h9 : c.toNat = 45 := (by omega); rw [h9]; rfl))
end Go.Proofs.YtmfnnhmlekdbjaaDoor.P
end
section
set_option linter.unusedVariables false
set_option linter.unusedSimpArgs false
namespace Go.Proofs.YtmfnnhmlekdbjaaDoor.P
open Go.RowKit Go.Proofs.YtmfnnhmlekdbjaaDoorW.PrintWords Go.Proofs.YtmfnnhmlekdbjaaDoorW.PrintLast Go.Proofs.YtmfnnhmlekdbjaaDoorW.PrintMore
open Go.Lib
set_option linter.unusedVariables false
set_option linter.unusedSimpArgs false
def blankN : List UInt8 → List UInt8
  | [] => []
  | c :: r => if c = 32 then r else c :: r
def timesV (h : List UInt8) : Int × Bool := if h = [] ∨ h = [43] ∨ h = [45] then wholeV (h ++ [49]) else wholeV h
def moreT (c : UInt8) : List UInt8 → Int × Bool
  | [] => (0, false)
  | d :: q => if dgt d = true then wholeV (c :: d :: q) else (0, false)
def moreS : List UInt8 → Int × Bool
  | [] => (0, false)
  | c :: r => if isSign c = true then moreT c (blankN r) else (0, false)
def moreV (t : List UInt8) : Int × Bool := if t = [] then (0, true) else moreS (blankN t)
def cutL : List UInt8 → Option (List UInt8 × List UInt8)
  | [] => none
  | c :: r => if c = 110 then some ([], r) else (cutL r).map fun p => (c :: p.1, p.2)
def halfV (h t : List UInt8) : Int × Int × Bool := if (timesV h).2 = true ∧ (moreV t).2 = true then ((timesV h).1, (moreV t).1, true) else (0, 0, false)
def parseV (l : List UInt8) : Int × Int × Bool :=
  if l = [101, 118, 101, 110] then (2, 0, true)
  else if l = [111, 100, 100] then (2, 1, true)
  else match cutL l with
    | none => (0, (wholeV l).1, (wholeV l).2)
    | some p => halfV p.1 p.2
theorem u8_eq {c : UInt8} {n : Nat} (hn : n < 256) : ((c.toNat : Int) = (n : Int)) ↔ c = UInt8.ofNat n := by
  constructor
  · intro h
    have h9 : c.toNat = n := by omega
    apply UInt8.toNat_inj.1
    rw [h9, UInt8.toNat_ofNat']
    omega
  · rintro rfl
    rw [UInt8.toNat_ofNat']
    omega
theorem u8_eq32 {c : UInt8} : ((c.toNat : Int) = 32) ↔ c = 32 := u8_eq (n := 32) (by omega)
theorem u8_eq43 {c : UInt8} : ((c.toNat : Int) = 43) ↔ c = 43 := u8_eq (n := 43) (by omega)
theorem u8_eq45 {c : UInt8} : ((c.toNat : Int) = 45) ↔ c = 45 := u8_eq (n := 45) (by omega)
theorem u8_eq110 {c : UInt8} : ((c.toNat : Int) = 110) ↔ c = 110 := u8_eq (n := 110) (by omega)
theorem size_of {s : ByteArray} {l : List UInt8} (h : L s = l) : s.size = l.length := by rw [← L_len, h]
theorem blankN_len (l : List UInt8) : (blankN l).length ≤ l.length := by
  cases l with
  | nil => simp [blankN]
  | cons c r =>
    show (if c = 32 then r else c :: r).length ≤ _
    split <;> simp
theorem trim_blank (l : List UInt8) : Lib.trimPrefix l [32] = blankN l := by
  cases l with
  | nil => rfl
  | cons c r =>
    show (if ([32] : List UInt8).isPrefixOf (c :: r) = true then List.drop ([32] : List UInt8).length (c :: r) else c :: r) = (if c = 32 then r else c :: r)
    by_cases h : c = 32
    · subst h; simp [List.isPrefixOf]
    · rw [if_neg h, if_neg]
      simp only [List.isPrefixOf, Bool.and_true]
      simpa using fun e => h e.symm
theorem tp_eq (s : ByteArray) : ∃ t, strings_TrimPrefix.f s ⟨#[32]⟩ = some t ∧ L t = blankN (L s) := ⟨_, rfl, trim_blank _⟩
theorem rblank_eq (s : ByteArray) : ∃ t, gouacheref04_blank.f s = some t ∧ L t = blankN (L s) := by
  unfold gouacheref04_blank.f
  cases hl : L s with
  | nil =>
    have h0 : s.size = 0 := size_of hl
    rw [if_neg (by omega)]
    exact ⟨s, rfl, by rw [hl]; rfl⟩
  | cons c r =>
    have h0 := size_of hl
    rw [if_pos (by simp at h0; omega), if_pos (by simp at h0; omega), bt_zero hl]
    by_cases h : c = 32
    · rw [if_pos (u8_eq32.2 h), if_pos (by simp at h0; omega)]
      exact ⟨_, rfl, by rw [L_tail, hl, blankN, if_pos h]; rfl⟩
    · rw [if_neg (fun e => h (u8_eq32.1 e))]
      exact ⟨_, rfl, by rw [hl, blankN, if_neg h]⟩
theorem times_eq (s : ByteArray) (hs : s.size ≤ 1000000000) : nth_times.f s = some (timesV (L s)) := by
  have k : ∀ x : ByteArray, x.size ≤ 140737488351232 → ((nth_number.f x).bind fun bt => (some (bt.1, bt.2) : Option (Int × Bool))) = some (wholeV (L x)) := fun x hx => by rw [ev_num x hx]; rfl
  have a1 : L (s ++ (⟨#[49]⟩ : ByteArray)) = L s ++ [49] := L_app _ _
  unfold nth_times.f timesV
  simp only [L_toList]
  have hz : (s ++ (⟨#[49]⟩ : ByteArray)).size ≤ 140737488351232 := by rw [ByteArray.size_append]; show s.size + 1 ≤ _; omega
  by_cases h1 : L s = []
  · rw [if_pos h1, if_pos (by omega), k _ hz, a1, if_pos (.inl h1)]
  · rw [if_neg h1]
    by_cases h2 : L s = [43]
    · rw [if_pos h2, if_pos (by omega), k _ hz, a1, if_pos (.inr (.inl h2))]
    · rw [if_neg h2]
      by_cases h3 : L s = [45]
      · rw [if_pos h3, if_pos (by omega), k _ hz, a1, if_pos (.inr (.inr h3))]
      · rw [if_neg h3, k _ (by omega), if_neg (fun h => by rcases h with h | h | h; exact h1 h; exact h2 h; exact h3 h)]
theorem head_cat {s t : ByteArray} {c : UInt8} {r : List UInt8} (h : L s = c :: r) : L (s.extract 0 1 ++ t) = c :: L t := by
  rw [L_app, L_head, h]; rfl
theorem digit_eq (c : UInt8) : text_Digit.f (wrap32 (c.toNat : Int)) = some (dgt c) := by
  have hr := byte_of c
  have e : wrap32 (c.toNat : Int) = (c.toNat : Int) := by unfold wrap32; omega
  rw [e]
  unfold text_Digit.f
  congr 1
  simp only [btw, dgt]
  congr 1 <;> exact decide_eq_decide.2 (by omega)
theorem ev_more (s : ByteArray) (hs : s.size ≤ 1000000000) : Ev (fun k => nth_more.f k s) (moreV (L s)) := by
  unfold nth_more.f moreV
  simp only [L_toList]
  by_cases h1 : L s = []
  · rw [if_pos h1]; exact Ev.ifp h1 (Ev.now _)
  · rw [if_neg h1]
    refine Ev.ifn h1 ?_
    obtain ⟨t, ht, hlt⟩ := tp_eq s
    rw [ht]
    show Ev (fun k => if L t = [] then nth_more.j0 k t true else if 0 < (t.size : Int) then (if bt t 0 = 43 then nth_more.j0 k t false else nth_more.j0 k t (bt t 0 != 45)) else none) (moreS (blankN (L s)))
    rw [← hlt]
    have hts : t.size ≤ s.size := by rw [← L_len, hlt, ← L_len]; exact blankN_len _
    clear ht hlt h1
    cases hl : L t with
    | nil =>
      refine Ev.ifp rfl ?_
      exact Ev.step (fun k => by unfold nth_more.j0; exact rfl) (Ev.ifp rfl (Ev.now _))
    | cons c r =>
      have h0 := size_of hl
      simp only [List.length_cons] at h0
      refine Ev.ifn (by simp) (Ev.ifp (by omega) ?_)
      have key : ∀ b : Bool, b = !isSign c → Ev (fun k => nth_more.j0 k t b) (moreS (c :: r)) := by
        intro b hb
        refine Ev.step (fun k => by unfold nth_more.j0; exact rfl) ?_
        cases hs' : isSign c with
        | false =>
          rw [hs'] at hb
          subst hb
          rw [show moreS (c :: r) = (0, false) by show (if isSign c = true then moreT c (blankN r) else (0, false)) = _; rw [if_neg (by rw [hs']; decide)]]
          exact Ev.ifp rfl (Ev.now _)
        | true =>
          rw [hs'] at hb
          subst hb
          rw [show moreS (c :: r) = moreT c (blankN r) by show (if isSign c = true then moreT c (blankN r) else (0, false)) = _; rw [if_pos hs']]
          refine Ev.ifn (by decide) (Ev.ifp (by omega) ?_)
          obtain ⟨d, hd, hld⟩ := tp_eq (t.extract 1 t.size)
          rw [L_tail, hl] at hld
          rw [hd]
          show Ev (fun k => if d.toList = [] then some ((0 : Int), false) else if 0 < (d.size : Int) then ((text_Digit.f (wrap32 (bt d 0))).bind fun t103 => if t103 = true then (if (t.extract 0 1).size + d.size ≤ 9223372036854775807 then ((nth_number.f (t.extract 0 1 ++ d)).bind fun bt104 => some (bt104.1, bt104.2)) else none) else some (0, false)) else none) (moreT c (blankN r))
          have hld2 : L d = blankN r := hld
          have hds := size_of hld2
          have hbl := blankN_len r
          rw [← hld2] at hbl ⊢
          simp only [L_toList]
          cases hq : L d with
          | nil => exact Ev.ifp rfl (Ev.now _)
          | cons x q =>
            have h2 := size_of hq
            simp only [List.length_cons] at h2
            refine Ev.ifn (by simp) (Ev.ifp (by omega) ?_)
            rw [bt_zero hq, digit_eq]
            show Ev _ (if dgt x = true then wholeV (c :: x :: q) else (0, false))
            have h1s : (t.extract 0 1).size = 1 := by rw [← L_len, L_head, hl]; rfl
            have hcat := head_cat (t := d) hl
            rw [hq] at hcat
            have hcs := size_of hcat
            simp only [List.length_cons] at hcs
            have hqb : (L d).length ≤ r.length := hbl
            rw [hq] at hqb
            simp only [List.length_cons] at hqb
            simp only [Option.bind_some]
            cases hdg : dgt x with
            | false =>
              rw [if_neg Bool.false_ne_true]
              exact Ev.now _
            | true =>
              rw [if_pos rfl]
              refine Ev.ifp (by omega) ?_
              rw [ev_num _ (by omega), hcat]
              exact Ev.now _
      rw [bt_zero hl]
      by_cases h43 : c = 43
      · refine Ev.ifp (u8_eq43.2 h43) (key false ?_)
        subst h43; rfl
      · refine Ev.ifn (fun e => h43 (u8_eq43.1 e)) (key _ ?_)
        unfold isSign
        rw [show (c == 43) = false by simpa using h43, Bool.false_or]
        by_cases h45 : c = 45
        · subst h45; rfl
        · rw [show (c == 45) = false by simpa using h45]
          exact bne_iff_ne.mpr (fun e => h45 (u8_eq45.1 e))
end Go.Proofs.YtmfnnhmlekdbjaaDoor.P
end
