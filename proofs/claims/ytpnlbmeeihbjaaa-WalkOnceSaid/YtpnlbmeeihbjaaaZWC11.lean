/- WalkOnce: for every input the law returns true, and each argument reads behind the call as it read before. -/
import Derived.Test.YtpnlbmeeihbjaaaZWC9
import Derived.Deep.LoopGhost
import Derived.Laws.Cover1
section
set_option linter.unusedVariables false
set_option linter.unusedSimpArgs false
namespace Go.Proofs.Ytpnlbmeeihbjaaa.P
open Go.RowKit Go.Proofs.YtpnlbmeeihbjaaaW.PrintWords Go.Proofs.YtpnlbmeeihbjaaaW.PrintLast Go.Proofs.YtpnlbmeeihbjaaaW.PrintMore
attribute [local go_sem] max2_int min2_int max_two min_two max_three min_three max_four min_four
set_option linter.unusedVariables false
set_option linter.unusedSimpArgs false
def lessS (a b : ByteArray) : Bool := Op.bytesLess a.toList b.toList
def cmpS (a b : ByteArray) : Int := if lessS a b then -1 else if a.toList == b.toList then 0 else 1
theorem bb_two {w w1 w2 : World} (h : Below w.heap.size w w1) (k : Below w1.heap.size w1 w2) : Below w.heap.size w w2 := below_then h h.size k
theorem isnan_calls (s : ByteArray) (w : World) : Calls Try.prog 106 #[.string s] w fun e w' => e = .returned (.bool false) ∧ Below w.heap.size w w' := by
  go_enter Try.func106, Try.ntmps106
  go_wp2_with fail
  go_ret
  exact ⟨rfl, Below.refl _ _⟩
theorem cmp_calls (a b : ByteArray) (w : World) : Calls Try.prog 91 #[.string a, .string b] w fun e w' => e = .returned (.int .i64 (cmpS a b)) ∧ Below w.heap.size w w' := by
  obtain ⟨r, hr⟩ : ∃ r, r = cmpS a b := ⟨_, rfl⟩
  rw [← hr]
  unfold cmpS lessS at hr
  by_cases h1 : Op.bytesLess a.toList b.toList = true
  · rw [if_pos h1] at hr
    subst hr
    go_enter Try.func91, Try.ntmps91
    go_wp2_with fail
    refine (isnan_calls _ _).mono ?_
    rintro e W0 ⟨rfl, hb0⟩
    have HBA := Aside0.mk hb0
    clear hb0
    go_wp2_with fail
    refine (isnan_calls _ _).mono ?_
    rintro e W1 ⟨rfl, hb1⟩
    have HB1 := Aside0.mk hb1
    clear hb1
    go_wp2_with fail
    go_ret
    exact ⟨rfl, bb_two HBA.out HB1.out⟩
  · rw [if_neg h1] at hr
    have h1' : Op.bytesLess a.toList b.toList = false := by simpa using h1
    by_cases h2 : (a.toList == b.toList) = true
    · rw [if_pos h2] at hr
      subst hr
      clear h1
      go_enter Try.func91, Try.ntmps91
      go_wp2_with fail
      refine (isnan_calls _ _).mono ?_
      rintro e W0 ⟨rfl, hb0⟩
      have HBA := Aside0.mk hb0
      clear hb0
      go_wp2_with fail
      refine (isnan_calls _ _).mono ?_
      rintro e W1 ⟨rfl, hb1⟩
      have HB1 := Aside0.mk hb1
      clear hb1
      go_wp2_with fail
      go_ret
      exact ⟨rfl, bb_two HBA.out HB1.out⟩
    · rw [if_neg h2] at hr
      have h2' : (a.toList == b.toList) = false := by simpa using h2
      subst hr
      clear h1 h2
      go_enter Try.func91, Try.ntmps91
      go_wp2_with fail
      refine (isnan_calls _ _).mono ?_
      rintro e W0 ⟨rfl, hb0⟩
      have HBA := Aside0.mk hb0
      clear hb0
      go_wp2_with fail
      refine (isnan_calls _ _).mono ?_
      rintro e W1 ⟨rfl, hb1⟩
      have HB1 := Aside0.mk hb1
      clear hb1
      go_wp2_with fail
      go_ret
      exact ⟨rfl, bb_two HBA.out HB1.out⟩
theorem findc_calls (x y s : ByteArray) (w : World) : Calls Try.prog 90 #[.agg #[.string x, .string y], .string s] w fun e w' => e = .returned (.int .i64 (cmpS x s)) ∧ Below w.heap.size w w' := by
  have hu70 := Try.underlying70
  have HB : Aside0 (Below w.heap.size w (w.alloc (.cells #[.string x, .string y] 70))) := ⟨below_alloc (Below.refl _ _) _⟩
  go_enter Try.func90, Try.ntmps90
  go_wp2_with fail
  refine (cmp_calls _ _ _).mono ?_
  rintro e W1 ⟨rfl, hb1⟩
  have HB1 := Aside0.mk (bb_two HB.out hb1)
  clear hb1
  go_wp2_with fail
  go_ret
  exact ⟨rfl, HB1.out⟩
def posA (l : List S70) (s : ByteArray) : Nat := l.countP fun x => decide (cmpS x.f0 s < 0)
def hasA (l : List S70) (s : ByteArray) : Bool := decide (posA l s < l.length) && decide (cmpS (rd_T70 l (posA l s : Nat)).f0 s = 0)
def MonoA (l : List S70) (s : ByteArray) : Prop := ∀ a b, a ≤ b → b < l.length → cmpS (rd_T70 l (b : Nat)).f0 s < 0 → cmpS (rd_T70 l (a : Nat)).f0 s < 0
theorem countA : ∀ (l : List S70) (p : S70 → Bool) (i : Nat), i ≤ l.length → (∀ t, t < i → p (rd_T70 l (t : Nat)) = true) → (∀ t, i ≤ t → t < l.length → p (rd_T70 l (t : Nat)) = false) → l.countP p = i
  | [], p, i, hi, _, _ => by simp at hi; simp [hi]
  | a :: r, p, 0, _, _, h2 => by
    rw [List.countP_eq_zero]
    intro x hx
    obtain ⟨t, ht, rfl⟩ := List.getElem_of_mem hx
    have := h2 t (Nat.zero_le _) ht
    simp only [rd_T70, Int.toNat_natCast, List.getD_eq_getElem?_getD, List.getElem?_eq_getElem ht, Option.getD_some] at this
    simp [this]
  | a :: r, p, i + 1, hi, h1, h2 => by
    have ha : p a = true := by simpa [rd_T70] using h1 0 (Nat.succ_pos _)
    rw [List.countP_cons_of_pos ha, countA r p i (by simpa using hi) (fun t ht => by have := h1 (t + 1) (by omega); simpa [rd_T70, -Int.natCast_add] using this) (fun t h3 h4 => by have := h2 (t + 1) (by omega) (by simpa using h4); simpa [rd_T70, -Int.natCast_add] using this)]
set_option maxHeartbeats 4000000 in
set_option maxRecDepth 100000 in
theorem bsearch_calls (l : List S70) (A : Option Addr) (c : Nat) (s : ByteArray) (w0 w : World) (hC : Kd.C k70 w0 A l.length l) (hbw : Below w0.heap.size w0 w) (hl : l.length ≤ 1099511627776) (hm : MonoA l s) :
    Calls Try.prog 89 #[.slice A l.length c, .string s, .func (.func 90) #[] #[]] w fun e w' => e = .returned (.tuple #[.int .i64 (posA l s : Nat), .bool (hasA l s)]) ∧ Below w.heap.size w w' := by
  have HC := Aside0.mk hC
  have HBW := Aside0.mk hbw
  have M := Aside0.mk hm
  have hu70 := Try.underlying70
  have hu38 := Try.underlying38
  generalize hcnt : posA l s = cnt
  have CN : Aside0 (posA l s = cnt) := ⟨hcnt⟩
  have hfin0 : hasA l s = (decide (cnt < l.length) && decide (cmpS (rd_T70 l (cnt : Nat)).f0 s = 0)) := by unfold hasA; rw [hcnt]
  generalize hfin : hasA l s = fin at hfin0
  have FIN := Aside0.mk hfin0
  clear hC hbw hm hcnt hfin hfin0
  go_enter Try.func89, Try.ntmps89
  go_wp2_with fail
  go_loopg [9, 10] l.length (fun kx s9 s10 wr => ∃ lo hi : Nat, s9 = .int .i64 lo ∧ s10 = .int .i64 hi ∧ lo ≤ hi ∧ hi ≤ l.length ∧ hi - lo ≤ kx ∧ Aside0 (Below w.heap.size w wr) ∧
    Aside0 ((∀ t, t < lo → cmpS (rd_T70 l (t : Nat)).f0 s < 0) ∧ (∀ t, hi ≤ t → t < l.length → 0 ≤ cmpS (rd_T70 l (t : Nat)).f0 s)))
  case atStart => exact ⟨0, l.length, rfl, rfl, Nat.zero_le _, Nat.le_refl _, by omega, ⟨Below.refl _ _⟩, ⟨fun t ht => absurd ht (Nat.not_lt_zero _), fun t h1 h2 => by omega⟩⟩
  case round =>
    obtain ⟨lo, hi, rfl, rfl, hlh, hin, hg, S1, I⟩ := hrel
    by_cases hlt : lo < hi
    · obtain ⟨ad, rfl, k0, k1⟩ := at_T70 (Kd.C_below HC.out (below_then HBW.out HBW.out.size S1.out)) (((lo + hi) / 2 : Nat) : Int) (by omega) (by omega)
      rw [Int.toNat_natCast] at k0 k1
      generalize hy : rd_T70 l (((lo + hi) / 2 : Nat) : Int) = y at k0 k1
      have Y : Aside0 (rd_T70 l (((lo + hi) / 2 : Nat) : Int) = y) := ⟨hy⟩
      clear hy
      have q0 : (0 ≤ ((lo + hi) / 2 : Nat)) = True := eq_true (by omega)
      by_cases hyx : cmpS y.f0 s < 0
      · go_wp2_with (first | (go_at_call 90; refine (findc_calls _ _ _ _).mono ?_; rintro e W1 ⟨rfl, hb1⟩; have HB1 := Aside0.mk (below_then S1.out S1.out.size hb1); clear hb1) | fail)
        go_roundg (hi - ((lo + hi) / 2 + 1))
        case measure => omega
        case rel =>
          exact ⟨(lo + hi) / 2 + 1, hi, by rw [show ((lo : Int) + (hi : Int)) / 2 + 1 = (((lo + hi) / 2 + 1 : Nat) : Int) by omega], rfl, by omega, hin, Nat.le_refl _, HB1, ⟨fun t ht => M.out t ((lo + hi) / 2) (by omega) (by omega) (by rw [Y.out]; exact hyx), I.out.2⟩⟩
      · go_wp2_with (first | (go_at_call 90; refine (findc_calls _ _ _ _).mono ?_; rintro e W1 ⟨rfl, hb1⟩; have HB1 := Aside0.mk (below_then S1.out S1.out.size hb1); clear hb1) | fail)
        go_roundg ((lo + hi) / 2 - lo)
        case measure => omega
        case rel =>
          exact ⟨lo, (lo + hi) / 2, rfl, by rw [show ((lo : Int) + (hi : Int)) / 2 = (((lo + hi) / 2 : Nat) : Int) by omega], by omega, by omega, Nat.le_refl _, HB1, ⟨I.out.1, fun t ht htn => Int.not_lt.1 fun h => by have := M.out ((lo + hi) / 2) t ht htn h; rw [Y.out] at this; omega⟩⟩
    · obtain rfl : hi = lo := by omega
      have ecnt : cnt = hi := by
        rw [← CN.out]
        exact countA l _ hi hin (fun t ht => decide_eq_true (I.out.1 t ht)) (fun t h3 h4 => decide_eq_false (by have := I.out.2 t h3 h4; omega))
      subst ecnt
      by_cases hn : cnt < l.length
      · obtain ⟨ad, rfl, k0, k1⟩ := at_T70 (Kd.C_below HC.out (below_then HBW.out HBW.out.size S1.out)) (cnt : Int) (by omega) (by omega)
        rw [Int.toNat_natCast] at k0 k1
        generalize hy : rd_T70 l (cnt : Int) = y at k0 k1
        have Y : Aside0 (rd_T70 l (cnt : Int) = y) := ⟨hy⟩
        clear hy
        by_cases hyx : cmpS y.f0 s = 0
        · go_wp2_with (first | (go_at_call 90; refine (findc_calls _ _ _ _).mono ?_; rintro e W1 ⟨rfl, hb1⟩; have HB1 := Aside0.mk (below_then S1.out S1.out.size hb1); clear hb1) | fail)
          go_ret2
          exact ⟨by rw [FIN.out, Y.out]; simp [hn, hyx], HB1.out⟩
        · go_wp2_with (first | (go_at_call 90; refine (findc_calls _ _ _ _).mono ?_; rintro e W1 ⟨rfl, hb1⟩; have HB1 := Aside0.mk (below_then S1.out S1.out.size hb1); clear hb1) | fail)
          go_ret2
          exact ⟨by rw [FIN.out, Y.out]; simp [hn, hyx], HB1.out⟩
      · go_wp2_with fail
        go_ret2
        exact ⟨by rw [FIN.out]; simp [hn], S1.out⟩
end Go.Proofs.Ytpnlbmeeihbjaaa.P
end
section
set_option linter.unusedVariables false
set_option linter.unusedSimpArgs false
namespace Go.Proofs.Ytpnlbmeeihbjaaa.P
open Go.RowKit Go.Proofs.YtpnlbmeeihbjaaaW.PrintWords Go.Proofs.YtpnlbmeeihbjaaaW.PrintLast Go.Proofs.YtpnlbmeeihbjaaaW.PrintMore
attribute [local go_sem] max2_int min2_int max_two min_two max_three min_three max_four min_four
set_option linter.unusedVariables false
set_option linter.unusedSimpArgs false
set_option maxRecDepth 100000 in
theorem find_calls (l : List S70) (A : Option Addr) (c : Nat) (s : ByteArray) (w0 w : World) (hC : Kd.C k70 w0 A l.length l) (hbw : Below w0.heap.size w0 w) (hl : l.length ≤ 1099511627776) (hm : MonoA l s) :
    Calls Try.prog 62 #[.slice A l.length c, .string s] w fun e w' => e = .returned (.tuple #[.int .i64 (posA l s : Nat), .bool (hasA l s)]) ∧ Below w.heap.size w w' := by
  have HH := Aside0.mk (And.intro hC (And.intro hbw (And.intro hl hm)))
  clear hC hbw hl hm
  generalize hcnt : posA l s = cnt
  generalize hfin : hasA l s = fin
  have HE := Aside0.mk (And.intro hcnt hfin)
  clear hcnt hfin
  go_enter Try.func62, Try.ntmps62
  go_wp2_with fail
  refine (bsearch_calls l A c s w0 w HH.out.1 HH.out.2.1 HH.out.2.2.1 HH.out.2.2.2).mono ?_
  rintro e W1 ⟨rfl, hb1⟩
  rw [HE.out.1, HE.out.2]
  have HB1 := Aside0.mk hb1
  clear hb1
  go_wp2_with fail
  go_ret2
  exact ⟨rfl, HB1.out⟩
def attrV (l : List S70) (s : ByteArray) : ByteArray × Bool := if hasA l s then ((rd_T70 l (posA l s : Nat)).f1, true) else (⟨#[]⟩, false)
theorem hasA_lt {l : List S70} {s : ByteArray} (h : hasA l s = true) : posA l s < l.length := by
  unfold hasA at h
  simp only [Bool.and_eq_true, decide_eq_true_eq] at h
  exact h.1
end Go.Proofs.Ytpnlbmeeihbjaaa.P
end
