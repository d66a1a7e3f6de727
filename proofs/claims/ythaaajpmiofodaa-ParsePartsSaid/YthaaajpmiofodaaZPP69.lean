/- ParseParts: for every input the law returns true, and each argument reads behind the call as it read before. -/
import Derived.Test.YthaaajpmiofodaaZPP66
import Derived.Test.YthaaajpmiofodaaZPP67
import Derived.WalkSpells
section
set_option linter.unusedVariables false
set_option linter.unusedSimpArgs false
namespace Go.Proofs.Ythaaajpmiofodaa.P
open Go.RowKit Go.Proofs.YthaaajpmiofodaaW.PrintWords Go.Proofs.YthaaajpmiofodaaW.PrintLast Go.Proofs.YthaaajpmiofodaaW.PrintMore
attribute [local go_sem] max2_int min2_int max_two min_two max_three min_three max_four min_four
set_option linter.unusedVariables false
set_option linter.unusedSimpArgs false
def okN (P : Nat → Prop) (w : World) : Nat → Prop := fun k => P k ∨ w.heap.size ≤ k
set_option maxHeartbeats 2000000 in
theorem clone_calls0 (P : Nat → Prop) (A : Option Addr) (c : Nat) (l : List S45) (w : World) (hl : Kd.F k45 w P A l.length l) (hP : ∀ k, P k → k < w.heap.size) (hs : l.length * 72 ≤ 140737488351232) :
    Calls Try.prog 35 #[.slice A l.length c] w fun e w' => ∃ v, e = .returned v ∧ Kd.N k45 45 w' w.heap.size (okN P w) v l ∧ Below w.heap.size w w' := by
  have hnil : ∀ (w : World) (a : Option Addr) (n c n' c' : Nat), (binOp .eql 25 (.slice a n c) (.slice none n' c')).run Try.prog w = .ok (.bool a.isNone) w := fun w a n c n' c' => Lib.run_eql_slice_nil w _ _ a n c n' c' Try.underlying25
  rcases A with _ | ad
  · have h0 : l = [] := by
      rcases List.eq_nil_or_concat l with h | ⟨l', x, h⟩
      · exact h
      · obtain ⟨ad, _, e, _⟩ := Kd.C_get (Kd.F_now hl) z45 0 (by omega) (by rw [h]; simp)
        cases e
    subst h0
    clear hl hs hP
    go_enter Try.func35, Try.ntmps35
    go_wp2
    go_ret
    exact ⟨_, rfl, Kd.N_nil _ _ _ _ _, Below.refl _ _⟩
  · have HL := Aside0.mk hl
    have HS := Aside0.mk hs
    have HP := Aside0.mk hP
    clear hl hs hP
    go_enter Try.func35, Try.ntmps35
    go_wp2_with (first
      | ((with_reducible refine gate_dst (N := 5) rfl ?_); refine Kd.N_lit k45 (w0 := w) w.heap.size 45 ?hg (N' := 5) ?hd (xs := ([] : List S45)) (inner := []) (ok := okN P w) (okp := okN P w) ?hr ?hp (fun _ hk => hk) (.inr (Nat.le_refl _)) (Below.refl _ _) (Nat.le_refl _) (by simp) ?_; (case hd => rfl); (case hg => rfl); (case hr => first | (go_simp; done) | (go_simp; rfl)); (case hp => exact (Reps.none _ _)); intro v1 w1 ho hb hg hat; have HO := Aside0.mk ho; have HB := Aside0.mk hb; clear ho hb hg hat)
      | ((with_reducible refine gate_builtin (b := .append) (xs := #[.tmp 5, .tmp 6]) rfl ?_); at_builtin; refine Kd.N_append_rows k45 (w0 := w) w.heap.size rfl (.tmp 5) (.tmp 6) 25 45 (.agg #[(.int .i64 0), (.string ⟨#[]⟩), (.string ⟨#[]⟩), (.bool false), (.bool false), (.slice none 0 0)]) 72 rfl Try.underlying25 info45 rfl (by decide) (by omega) v1 [] l _ _ _ (okN P w) P rfl rfl HO.out (Kd.F_below HL.out HB.out) ?ok1 ?fr HB.out HB.out.size (by have := HS.out; simp; omega) ?_; (case ok1 => exact fun k hk => ⟨.inl hk, fun e => absurd (Kd.N_base HO.out k e.symm) (Nat.not_le.2 (HP.out k hk))⟩); (case fr => exact fun k hk => .inr (Nat.le_trans HB.out.size hk)); intro v2 w2 ho2 hb2 hg hat; have HO2 := Aside0.mk ho2; have HB2 := Aside0.mk hb2; clear ho2 hb2 hg hat))
    go_ret
    exact ⟨_, rfl, by simpa using HO2.out, HB2.out⟩
theorem clone_calls (P : Nat → Prop) (A : Option Addr) (n c : Nat) (l : List S45) (w : World) (hl : Kd.F k45 w P A l.length l) (hP : ∀ k, P k → k < w.heap.size) (hs : l.length * 72 ≤ 140737488351232) (hn : l.length = n) :
    Calls Try.prog 35 #[.slice A n c] w fun e w' => ∃ v, e = .returned v ∧ Kd.N k45 45 w' w.heap.size (okN P w) v l ∧ Below w.heap.size w w' := by
  subst hn
  exact clone_calls0 P A c l w hl hP hs
end Go.Proofs.Ythaaajpmiofodaa.P
end
section
set_option linter.unusedVariables false
set_option linter.unusedSimpArgs false
namespace Go.Proofs.Ythaaajpmiofodaa.P
open Go.RowKit Go.Proofs.YthaaajpmiofodaaW.PrintWords Go.Proofs.YthaaajpmiofodaaW.PrintLast Go.Proofs.YthaaajpmiofodaaW.PrintMore
attribute [local go_sem] max2_int min2_int max_two min_two max_three min_three max_four min_four
set_option linter.unusedVariables false
set_option linter.unusedSimpArgs false
def isSp (x : S45) : Bool := x.f0.f0 == 13
def trimBack (l : List S45) : List S45 := (l.reverse.dropWhile isSp).reverse
def trimS (l : List S45) : List S45 := trimBack (l.dropWhile isSp)
theorem trimBack_snoc_sp (l : List S45) (x : S45) (h : isSp x = true) : trimBack (l ++ [x]) = trimBack l := by simp [trimBack, h]
theorem trimBack_snoc (l : List S45) (x : S45) (h : isSp x = false) : trimBack (l ++ [x]) = l ++ [x] := by simp [trimBack, h]
theorem trim_closure (x : S45) (A : Option Addr) (c : Nat) (w : World) :
    Calls Try.prog 42 #[.agg (cells45 x A c)] w fun e w' => e = .returned (.bool (isSp x)) ∧ Below w.heap.size w w' := by
  unfold cells45
  go_enter Try.func42, Try.ntmps42
  go_wp2
  go_ret
  exact ⟨rfl, below_alloc (Below.refl _ _) _⟩
theorem elem45 {W : World} {A : Option Addr} {n : Nat} {l : List S45} (h : Kd.C k45 W A n l) (i : Nat) (hi : i < n) : ∃ ad A5 c5, A = some ad ∧
    W.cell? (ad.add (i * 6)) = some (.int .i64 (rd_T45 l i).f0.f0) ∧ W.cell? ⟨(ad.add (i * 6)).block, (ad.add (i * 6)).off + 1, none⟩ = some (.string (rd_T45 l i).f0.f1) ∧ W.cell? ⟨(ad.add (i * 6)).block, (ad.add (i * 6)).off + 2, none⟩ = some (.string (rd_T45 l i).f0.f2) ∧
    W.cell? ⟨(ad.add (i * 6)).block, (ad.add (i * 6)).off + 3, none⟩ = some (.bool (rd_T45 l i).f0.f3) ∧ W.cell? ⟨(ad.add (i * 6)).block, (ad.add (i * 6)).off + 4, none⟩ = some (.bool (rd_T45 l i).f0.f4) ∧ W.cell? ⟨(ad.add (i * 6)).block, (ad.add (i * 6)).off + 5, none⟩ = some (.slice A5 (rd_T45 l i).f1.length c5) ∧
    (rd_T45 l i).f1.length ≤ c5 ∧ Kd.C k45 W A5 (rd_T45 l i).f1.length (rd_T45 l i).f1 := by
  have := at_T45 h i (by omega) (by omega)
  simpa only [Int.toNat_natCast] using this
theorem first45 {W : World} {A : Option Addr} {l : List S45} (h : Kd.C k45 W A l.length l) (hp : 0 < l.length) : ∃ ad A5 c5, A = some ad ∧
    W.cell? ad = some (.int .i64 (rd_T45 l 0).f0.f0) ∧ W.cell? ⟨ad.block, ad.off + 1, none⟩ = some (.string (rd_T45 l 0).f0.f1) ∧ W.cell? ⟨ad.block, ad.off + 2, none⟩ = some (.string (rd_T45 l 0).f0.f2) ∧
    W.cell? ⟨ad.block, ad.off + 3, none⟩ = some (.bool (rd_T45 l 0).f0.f3) ∧ W.cell? ⟨ad.block, ad.off + 4, none⟩ = some (.bool (rd_T45 l 0).f0.f4) ∧ W.cell? ⟨ad.block, ad.off + 5, none⟩ = some (.slice A5 (rd_T45 l 0).f1.length c5) ∧
    (rd_T45 l 0).f1.length ≤ c5 ∧ Kd.C k45 W A5 (rd_T45 l 0).f1.length (rd_T45 l 0).f1 := by
  obtain ⟨ad, A5, c5, e, h⟩ := elem45 h 0 hp
  exact ⟨ad, A5, c5, e, h⟩
theorem head45 {l : List S45} (h : 0 < l.length) : l = rd_T45 l 0 :: l.drop 1 := by
  cases l with
  | nil => simp at h
  | cons x t => rfl
theorem take45 {l : List S45} {p : Nat} (h : p < l.length) : l.take (p + 1) = l.take p ++ [rd_T45 l (p : Nat)] := by
  rw [List.take_succ_eq_append_getElem h]
  simp [rd_T45, List.getD_eq_getElem?_getD, h]
theorem hN_up {w w1 w2 : World} {P : Nat → Prop} {v : Value} {l : List S45} (h : Kd.N k45 45 w2 w1.heap.size (okN P w1) v l) (hb : Below w.heap.size w w1) : Kd.N k45 45 w2 w.heap.size (okN P w) v l :=
  Kd.N_mono (Kd.N_lower h hb.size) (fun k hk => hk.imp id (Nat.le_trans hb.size))
set_option maxHeartbeats 4000000 in
theorem trim_calls (P : Nat → Prop) (A : Option Addr) (c : Nat) (l : List S45) (w : World) (hl : Kd.F k45 w P A l.length l) (hc : l.length ≤ c) (hP : ∀ k, P k → k < w.heap.size) (hs : l.length * 72 ≤ 140737488351232) :
    Calls Try.prog 23 #[.slice A l.length c] w fun e w' => ∃ v, e = .returned v ∧ Kd.N k45 45 w' w.heap.size (okN P w) v (trimS l) ∧ Below w.heap.size w w' := by
  have HL := Aside0.mk hl
  have HS := Aside0.mk hs
  have HP := Aside0.mk hP
  have HC := Aside0.mk hc
  clear hl hs hP hc
  go_enter Try.func23, Try.ntmps23
  go_wp2
  go_loopg [0] l.length (fun gg s0 wr => ∃ (m : List S45) (A1 : Option Addr) (c1 : Nat), s0 = .slice A1 m.length c1 ∧ Aside0 (m.length ≤ c1) ∧ m.length ≤ gg ∧ Aside0 (m.length ≤ l.length) ∧ Aside0 (Kd.F k45 wr P A1 m.length m) ∧ Aside0 (m.dropWhile isSp = l.dropWhile isSp) ∧ Aside0 (Below w.heap.size w wr))
  case atStart => exact ⟨l, A, c, rfl, HC, Nat.le_refl _, ⟨Nat.le_refl _⟩, HL, ⟨rfl⟩, ⟨Below.refl _ _⟩⟩
  case round =>
    obtain ⟨m, A1, c1, rfl, HC1, hg, HM, HF, HD, HB⟩ := hrel
    have hs : m.length * 72 ≤ 140737488351232 := Nat.le_trans (Nat.mul_le_mul_right _ HM.out) HS.out
    by_cases hpos : 0 < m.length
    · obtain ⟨ad, A5, c5, rfl, h0, h1, h2, h3, h4, h5, hl5, hi5⟩ := first45 (Kd.F_now HF.out) hpos
      obtain ⟨A2, c2, hcut, hF2, hC2⟩ := Kd.F_tail 25 45 .i64 Try.underlying25 info45 HF.out HC1.out hpos
      have hcall := fun W => trim_closure (rd_T45 m 0) A5 c5 W
      have hm : m = rd_T45 m 0 :: m.drop 1 := head45 hpos
      generalize hx : rd_T45 m 0 = x at h0 h1 h2 h3 h4 h5 hcall hm
      have hlen : m.length ≤ 9223372036854775807 := by omega
      have HD2 := Aside0.mk (show (x :: m.drop 1).dropWhile isSp = l.dropWhile isSp by rw [← hm]; exact HD.out)
      have HF2 := Aside0.mk hF2
      have HC2 := Aside0.mk hC2
      have HS2 := Aside0.mk hs
      have HMM := Aside0.mk hm
      clear hx hl5 hi5 hF2 hC2 hs hm
      cases hq : isSp x with
      | true =>
        rw [hq] at hcall
        have HCL := Aside0.mk hcall
        have HQ := Aside0.mk hq
        clear hcall hq
        go_wp2_with (go_at_call 42; refine (HCL.out _).mono ?_; rintro e w1 ⟨rfl, hb⟩)
        go_roundg (m.drop 1).length
        case measure => rw [List.length_drop]; omega
        case rel => exact ⟨m.drop 1, A2, c2, by rw [List.length_drop], HC2, Nat.le_refl _, ⟨by rw [List.length_drop]; have := HM.out; omega⟩, ⟨Kd.F_below HF2.out hb⟩, ⟨by rw [← HD2.out]; simp [HQ.out]⟩, ⟨below_step HB.out hb⟩⟩
      | false =>
        have HT := Aside0.mk (show trimS l = trimBack m by unfold trimS; rw [← HD2.out]; simp only [List.dropWhile_cons, hq, Bool.false_eq_true, if_false]; rw [← HMM.out])
        rw [hq] at hcall
        have HCL := Aside0.mk hcall
        clear hcall hq hcut
        go_wp2_with (go_at_call 42; refine (HCL.out _).mono ?_; rintro e w1 ⟨rfl, hb⟩)
        clear h0 h1 h2 h3 h4 h5 HF2 HC2 HCL
        replace HF := Aside0.mk (Kd.F_below HF.out hb)
        replace HB := Aside0.mk (below_step HB.out hb)
        clear hb
        go_loopg [4] m.length (fun gg s4 w2 => ∃ n : Nat, s4 = .int .i64 n ∧ Aside0 (n ≤ m.length) ∧ n ≤ gg ∧ Aside0 (trimBack (m.take n) = trimBack m) ∧ Aside0 (Kd.F k45 w2 P (some ad) m.length m) ∧ Aside0 (Below w.heap.size w w2))
        case atStart => exact ⟨m.length, rfl, ⟨Nat.le_refl _⟩, Nat.le_refl _, ⟨by rw [List.take_length]⟩, HF, HB⟩
        case round =>
          clear HF HB
          obtain ⟨n, rfl, HN, hg2, HTB, HF, HB⟩ := hrel
          obtain ⟨hcut, hF3, hC3⟩ := Kd.F_upto 25 45 .i64 Try.underlying25 info45 HF.out HC1.out n HN.out
          have HF3 := Aside0.mk hF3
          have HC3 := Aside0.mk hC3
          clear hF3 hC3
          have HCLN := Aside0.mk (fun W (h : Kd.F k45 W P (some ad) (m.take n).length (m.take n)) (hP : ∀ k, P k → k < W.heap.size) => clone_calls P (some ad) n c1 (m.take n) W h hP (by have := HS2.out; have := HN.out; rw [List.length_take]; omega) (by have := HN.out; rw [List.length_take]; omega))
          have hwp : ∀ W, Below w.heap.size w W → ∀ k, P k → k < W.heap.size := fun W hb k hk => Nat.lt_of_lt_of_le (HP.out k hk) hb.size
          have HWP := Aside0.mk hwp
          clear hwp
          by_cases hn : 0 < n
          · obtain ⟨p, rfl⟩ : ∃ p, n = p + 1 := ⟨n - 1, by omega⟩
            rw [show (((p + 1 : Nat) : Int)) = (p : Int) + 1 by omega] at hcut
            obtain ⟨_, A5, c5, e5, h0, h1, h2, h3, h4, h5, hl5, hi5⟩ := elem45 (Kd.F_now HF.out) p (by have := HN.out; omega)
            cases e5
            have hcall := fun W => trim_closure (rd_T45 m (p : Nat)) A5 c5 W
            have htk : m.take (p + 1) = m.take p ++ [rd_T45 m (p : Nat)] := take45 (by have := HN.out; omega)
            generalize hx : rd_T45 m (p : Nat) = y at h0 h1 h2 h3 h4 h5 hcall htk
            have hpl : p < m.length := by have := HN.out; omega
            have HTK := Aside0.mk htk
            clear hx hl5 hi5 htk
            cases hq : isSp y with
            | true =>
              rw [hq] at hcall
              have HCL := Aside0.mk hcall
              have HQ := Aside0.mk hq
              clear hcall hq
              go_wp2_with (go_at_call 42; refine (HCL.out _).mono ?_; rintro e w3 ⟨rfl, hb⟩)
              go_roundg p
              case measure => omega
              case rel => exact ⟨p, by go_num, ⟨Nat.le_of_lt hpl⟩, Nat.le_refl _, ⟨by rw [← HTB.out, HTK.out, trimBack_snoc_sp _ _ HQ.out]⟩, ⟨Kd.F_below HF.out hb⟩, ⟨below_step HB.out hb⟩⟩
            | false =>
              have HR := Aside0.mk (show trimS l = m.take (p + 1) by rw [HT.out, ← HTB.out, HTK.out, trimBack_snoc _ _ hq])
              rw [hq] at hcall
              have HCL := Aside0.mk hcall
              clear hcall hq
              go_wp2_with (first | (go_at_call 42; refine (HCL.out _).mono ?_; rintro e w3 ⟨rfl, hb⟩) | (go_at_call 35; refine (HCLN.out _ (Kd.F_below HF3.out hb) (HWP.out _ (below_step HB.out hb))).mono ?_; rintro e w4 ⟨v, rfl, hN, hb4⟩))
              go_ret
              exact ⟨v, rfl, by rw [HR.out]; exact hN_up hN (below_step HB.out hb), below_step (below_step HB.out hb) hb4⟩
          · obtain rfl : n = 0 := by omega
            have HR := Aside0.mk (show trimS l = m.take 0 by rw [HT.out, ← HTB.out]; rfl)
            have HF0 := Aside0.mk (show Kd.F k45 _ P (some ad) ([] : List S45).length ([] : List S45) from HF3.out)
            have HCL0 := Aside0.mk (fun W (h : Kd.F k45 W P (some ad) ([] : List S45).length ([] : List S45)) (hP : ∀ k, P k → k < W.heap.size) => clone_calls P (some ad) 0 c1 [] W h hP (by simp) rfl)
            clear hcut HF3
            go_wp2_with (go_at_call 35; refine (HCL0.out _ HF0.out (HWP.out _ HB.out)).mono ?_; rintro e w4 ⟨v, rfl, hN, hb4⟩)
            go_ret
            exact ⟨v, rfl, by rw [HR.out]; exact hN_up hN HB.out, below_step HB.out hb4⟩
    · have hz : m.length = 0 := by omega
      obtain rfl := List.eq_nil_of_length_eq_zero hz
      have HT := Aside0.mk (show trimS l = [] by unfold trimS; rw [← HD.out]; rfl)
      have HCLN := Aside0.mk (fun W (h : Kd.F k45 W P A1 ([] : List S45).length ([] : List S45)) (hP : ∀ k, P k → k < W.heap.size) => clone_calls P A1 0 c1 [] W h hP (by simp) rfl)
      obtain ⟨hcut, _, _⟩ := Kd.F_upto 25 45 .i64 Try.underlying25 info45 HF.out HC1.out 0 (Nat.zero_le _)
      clear hpos hz hs hg
      go_wp2
      refine wp_loop_rounds 1 ?_
      rw [rounds_succ]
      go_wp2_with (go_at_call 35; refine (HCLN.out _ HF.out (fun k hk => Nat.lt_of_lt_of_le (HP.out k hk) HB.out.size)).mono ?_; rintro e w4 ⟨v, rfl, hN, hb4⟩)
      go_ret
      exact ⟨v, rfl, by rw [HT.out]; exact hN_up hN HB.out, below_step HB.out hb4⟩
end Go.Proofs.Ythaaajpmiofodaa.P
end
section
set_option linter.unusedVariables false
set_option linter.unusedSimpArgs false
namespace Go.Proofs.Ythaaajpmiofodaa.P
open Go.RowKit Go.Proofs.YthaaajpmiofodaaW.PrintWords Go.Proofs.YthaaajpmiofodaaW.PrintLast Go.Proofs.YthaaajpmiofodaaW.PrintMore
attribute [local go_sem] max2_int min2_int max_two min_two max_three min_three max_four min_four
set_option linter.unusedVariables false
set_option linter.unusedSimpArgs false
def skipF (ks : List Int) : Nat → List S45 → List S45
  | 0, _ => []
  | k + 1, l => if l = [] then [] else if hasKind ks (rd_T45 l 0).f0.f0 then skipF ks k (l.drop 1)
    else if (rd_T45 l 0).f0.f0 = 3 then skipF ks k (l.drop (min (firstS l [17, 23] + 1) l.length)) else l
def skipS (ks : List Int) (l : List S45) : List S45 := skipF ks (l.length + 1) l
theorem skipF_any (ks : List Int) : ∀ (k k' : Nat) (l : List S45), l.length < k → l.length < k' → skipF ks k l = skipF ks k' l
  | 0, _, _, h, _ => absurd h (by omega)
  | _ + 1, 0, _, _, h => absurd h (by omega)
  | k + 1, k' + 1, l, h, h' => by
    unfold skipF
    by_cases e : l = []
    · rw [if_pos e, if_pos e]
    · have hp : 0 < l.length := List.length_pos_iff.2 e
      rw [if_neg e, if_neg e, skipF_any ks k k' (l.drop 1) (by rw [List.length_drop]; omega) (by rw [List.length_drop]; omega),
        skipF_any ks k k' (l.drop (min (firstS l [17, 23] + 1) l.length)) (by rw [List.length_drop]; omega) (by rw [List.length_drop]; omega)]
theorem skipS_nil (ks : List Int) : skipS ks [] = [] := rfl
theorem skipS_hit (ks : List Int) (l : List S45) (hp : 0 < l.length) (h : hasKind ks (rd_T45 l 0).f0.f0 = true) : skipS ks l = skipS ks (l.drop 1) := by
  unfold skipS
  rw [skipF, if_neg (List.length_pos_iff.1 hp), if_pos h]
  exact skipF_any _ _ _ _ (by rw [List.length_drop]; omega) (by omega)
theorem skipS_at (ks : List Int) (l : List S45) (hp : 0 < l.length) (h : hasKind ks (rd_T45 l 0).f0.f0 = false) (h3 : (rd_T45 l 0).f0.f0 = 3) : skipS ks l = skipS ks (l.drop (min (firstS l [17, 23] + 1) l.length)) := by
  unfold skipS
  rw [skipF, if_neg (List.length_pos_iff.1 hp), if_neg (by simp [h]), if_pos h3]
  exact skipF_any _ _ _ _ (by rw [List.length_drop]; omega) (by omega)
theorem skipS_stop (ks : List Int) (l : List S45) (hp : 0 < l.length) (h : hasKind ks (rd_T45 l 0).f0.f0 = false) (h3 : ¬ (rd_T45 l 0).f0.f0 = 3) : skipS ks l = l := by
  unfold skipS
  rw [skipF, if_neg (List.length_pos_iff.1 hp), if_neg (by simp [h]), if_neg h3]
theorem firstS_le (l : List S45) (ks : List Int) : firstS l ks ≤ l.length := List.findIdx_le_length
theorem lits_C {W : World} {g : Nat} (xs : List Int) (hb : W.heap[g]? = some (.cells (xs.map (Value.int .i64)).toArray 3 (0, 0))) (hl : xs.length ≤ 9223372036854775807) : Kd.C (Kd.int .i64) W (some ⟨g, 0, none⟩) xs.length xs := by
  refine Kd.C_of_reads (enc := Value.int .i64) (d := (0 : Int)) (h1 := fun _ => rfl) ⟨rfl, hl, fun _ => ⟨_, rfl, fun j hj => ?_⟩⟩
  rw [show (Addr.add ⟨g, 0, none⟩ j) = ⟨g, j, none⟩ by simp [Addr.add]; omega]
  rw [blk_cell hb j]
  simp [List.getD_eq_getElem?_getD, hj]
theorem F_nil45 (W : World) (P : Nat → Prop) : Kd.F k45 W P none 0 ([] : List S45) := Kd.N_F (Kd.N_nil k45 45 W 0 P)
theorem F_empty45 {W : World} {P : Nat → Prop} {A1 : Option Addr} : Kd.F k45 W P A1 0 ([] : List S45) := Kd.F_imp (F_nil45 W P) (fun _ h => ⟨rfl, by omega, fun h => absurd h (by omega)⟩)
theorem skip_first (l : List S45) (A : Option Addr) (c g : Nat) (W : World) (h : Kd.C k45 W A l.length l) (hc : l.length ≤ c) (hs : l.length * 72 ≤ 140737488351232) (xs : List Int) (hx : xs.length * 8 ≤ 140737488351232) (n : Nat) (hn : xs.length = n) (hb : W.heap[g]? = some (.cells (xs.map (Value.int .i64)).toArray 3 (0, 0))) :
    Calls Try.prog 34 #[.slice A l.length c, .slice (some ⟨g, 0, none⟩) n n] W fun e w' => e = .returned (.int .i64 (firstS l xs : Nat)) ∧ Below W.heap.size W w' := by
  subst hn
  exact parse_first.calls A c l _ _ xs _ W h hc (lits_C xs hb (by omega)) (Nat.le_refl _) (by unfold parse_first.f; rw [if_pos ⟨hs, hx⟩])
set_option maxHeartbeats 4000000 in
theorem skip_calls (P : Nat → Prop) (A : Option Addr) (c : Nat) (l : List S45) (A1 : Option Addr) (c1 : Nat) (ks : List Int) (n1 : Nat) (w : World) (hl : Kd.F k45 w P A l.length l) (hc : l.length ≤ c) (hs : l.length * 72 ≤ 140737488351232)
    (hk : Kd.C (Kd.int .i64) w A1 ks.length ks) (hkc : ks.length ≤ c1) (hks : ks.length * 8 ≤ 140737488351232) (hn : ks.length = n1) :
    Calls Try.prog 33 #[.slice A l.length c, .slice A1 n1 c1] w fun e w' => ∃ A2 c2, e = .returned (.slice A2 (skipS ks l).length c2) ∧ (skipS ks l).length ≤ c2 ∧ Kd.F k45 w' P A2 (skipS ks l).length (skipS ks l) ∧ Below w.heap.size w w' := by
  subst hn
  have HL := Aside0.mk hl
  have HS := Aside0.mk hs
  have HC := Aside0.mk hc
  have HK := Aside0.mk hk
  have HKC := Aside0.mk hkc
  have HKS := Aside0.mk hks
  have HCT := Aside0.mk (fun (x : Int) W (hb : Below w.heap.size w W) => slices_Contains_int_int.calls (ks.length + 1) A1 c1 ks x (hasKind ks x) W (Kd.C_below hk hb) hkc (contains_f ks x hks _ (by omega)))
  clear hl hs hc hk hkc hks
  go_enter Try.func33, Try.ntmps33
  go_wp2
  go_loopg [0] l.length (fun gg s0 wr => ∃ (m : List S45) (B : Option Addr) (d : Nat), s0 = .slice B m.length d ∧ Aside0 (m.length ≤ d) ∧ m.length ≤ gg ∧ Aside0 (m.length ≤ l.length) ∧ Aside0 (Kd.F k45 wr P B m.length m) ∧ Aside0 (skipS ks m = skipS ks l) ∧ Aside0 (Below w.heap.size w wr))
  case atStart => exact ⟨l, A, c, rfl, HC, Nat.le_refl _, ⟨Nat.le_refl _⟩, HL, ⟨rfl⟩, ⟨Below.refl _ _⟩⟩
  case round =>
    obtain ⟨m, B, d, rfl, HD, hg, HM, HF, HE, HB⟩ := hrel
    have hs : m.length * 72 ≤ 140737488351232 := Nat.le_trans (Nat.mul_le_mul_right _ HM.out) HS.out
    by_cases hpos : 0 < m.length
    · obtain ⟨ad, A5, c5, rfl, h0, h1, h2, h3, h4, h5, hl5, hi5⟩ := first45 (Kd.F_now HF.out) hpos
      have hhit := skipS_hit ks m hpos
      have hat := skipS_at ks m hpos
      have hstop := skipS_stop ks m hpos
      obtain ⟨A2, c2, hcut, hF2, hC2⟩ := Kd.F_tail 25 45 .i64 Try.underlying25 info45 HF.out HD.out hpos
      have hfl := firstS_le m [17, 23]
      have hcall := fun W (hb : Below w.heap.size w W) => HCT.out (rd_T45 m 0).f0.f0 W hb
      generalize hx : rd_T45 m 0 = x at h0 h1 h2 h3 h4 h5 hcall hhit hat hstop
      have hlen : m.length ≤ 4611686018427387904 := by omega
      have HF2 := Aside0.mk hF2
      have HC2 := Aside0.mk hC2
      have HS2 := Aside0.mk hs
      clear hx hl5 hi5 hF2 hC2 hs
      cases hq : hasKind ks x.f0.f0 with
      | true =>
        have HI := Aside0.mk (hhit hq)
        rw [hq] at hcall
        have HCL := Aside0.mk hcall
        clear hcall hq hhit hat hstop hfl
        go_wp2_with (go_at_call 48; refine (HCL.out _ HB.out).mono ?_; rintro e w1 ⟨rfl, ⟨dn, rfl⟩⟩)
        go_roundg (m.drop 1).length
        case measure => rw [List.length_drop]; omega
        case rel => exact ⟨m.drop 1, A2, c2, by rw [List.length_drop], HC2, Nat.le_refl _, ⟨by rw [List.length_drop]; have := HM.out; omega⟩, ⟨Kd.F_below HF2.out (pw_below_drewN (Below.refl _ _) _)⟩, ⟨by rw [← HI.out]; exact HE.out⟩, ⟨below_step HB.out (pw_below_drewN (Below.refl _ _) _)⟩⟩
      | false =>
        rw [hq] at hcall
        have HCL := Aside0.mk hcall
        by_cases hq3 : x.f0.f0 = 3
        · have HI := Aside0.mk (hat hq hq3)
          clear hcall hcut hhit hat hstop hq
          generalize x.f0.f0 = kx at h0 HCL hq3
          subst hq3
          by_cases hmin : firstS m [17, 23] + 1 ≤ m.length
          · rw [Nat.min_eq_left hmin] at HI
            obtain ⟨A3, c3, hcut3, hF3, hC3⟩ := Kd.F_rest 25 45 .i64 Try.underlying25 info45 HF.out HD.out (firstS m [17, 23] + 1) hmin
            rw [show ((firstS m [17, 23] + 1 : Nat) : Int) = (firstS m [17, 23] : Nat) + 1 by omega] at hcut3
            have HF3 := Aside0.mk hF3
            have HC3 := Aside0.mk hC3
            clear hF3 hC3
            go_wp2_with (first | (go_at_call 48; refine (HCL.out _ HB.out).mono ?_; rintro e w1 ⟨rfl, ⟨dn, rfl⟩⟩) | (go_at_call 34; refine (skip_first m (some ad) d _ _ (Kd.C_alloc (Kd.C_below (Kd.F_now HF.out) (pw_below_drewN (Below.refl _ _) _)) _) HD.out HS2.out [17, 23] (by decide) 2 rfl (heap_alloc_new _ _)).mono ?_; rintro e w2 ⟨rfl, hb2⟩))
            go_roundg (m.drop (firstS m [17, 23] + 1)).length
            case measure => rw [List.length_drop]; omega
            case rel => exact ⟨m.drop (firstS m [17, 23] + 1), A3, c3, by rw [List.length_drop], HC3, Nat.le_refl _, ⟨by rw [List.length_drop]; have := HM.out; omega⟩, ⟨Kd.F_below HF3.out (below_then (below_alloc (pw_below_drewN (Below.refl _ _) _) _) (by simp) hb2)⟩, ⟨by rw [← HI.out]; exact HE.out⟩, ⟨below_then (below_alloc (pw_below_drewN HB.out _) _) (Nat.le_trans HB.out.size (by simp)) hb2⟩⟩
          · rw [Nat.min_eq_right (by omega), List.drop_length] at HI
            go_wp2_with (first | (go_at_call 48; refine (HCL.out _ HB.out).mono ?_; rintro e w1 ⟨rfl, ⟨dn, rfl⟩⟩) | (go_at_call 34; refine (skip_first m (some ad) d _ _ (Kd.C_alloc (Kd.C_below (Kd.F_now HF.out) (pw_below_drewN (Below.refl _ _) _)) _) HD.out HS2.out [17, 23] (by decide) 2 rfl (heap_alloc_new _ _)).mono ?_; rintro e w2 ⟨rfl, hb2⟩))
            all_goals go_roundg 0
            all_goals first | omega | exact ⟨[], _, _, rfl, ⟨Nat.zero_le _⟩, Nat.le_refl _, ⟨Nat.zero_le _⟩, ⟨F_empty45⟩, ⟨by rw [← HI.out]; exact HE.out⟩, ⟨below_then (below_alloc (pw_below_drewN HB.out _) _) (Nat.le_trans HB.out.size (by simp)) hb2⟩⟩
        · have HI := Aside0.mk (hstop hq hq3)
          clear hcall hcut hhit hat hstop hq
          generalize x.f0.f0 = kx at h0 HCL hq3
          go_wp2_with (go_at_call 48; refine (HCL.out _ HB.out).mono ?_; rintro e w1 ⟨rfl, ⟨dn, rfl⟩⟩)
          go_ret
          have he : skipS ks l = m := by rw [← HE.out]; exact HI.out
          exact ⟨some ad, d, by rw [he]; rfl, by rw [he]; exact HD.out, by rw [he]; exact Kd.F_below HF.out (pw_below_drewN (Below.refl _ _) _), pw_below_drewN HB.out _⟩
    · have hz : m.length = 0 := by omega
      obtain rfl := List.eq_nil_of_length_eq_zero hz
      have he : skipS ks l = [] := by rw [← HE.out]; rfl
      clear hpos hz hs hg
      go_wp2
      go_ret
      exact ⟨none, 0, by rw [he]; rfl, by rw [he]; exact Nat.le_refl _, by rw [he]; exact F_nil45 _ _, HB.out⟩
end Go.Proofs.Ythaaajpmiofodaa.P
end
section
set_option linter.unusedVariables false
set_option linter.unusedSimpArgs false
namespace Go.Proofs.Ythaaajpmiofodaa.P
open Go.RowKit Go.Proofs.YthaaajpmiofodaaW.PrintWords Go.Proofs.YthaaajpmiofodaaW.PrintLast Go.Proofs.YthaaajpmiofodaaW.PrintMore
attribute [local go_sem] max2_int min2_int max_two min_two max_three min_three max_four min_four
set_option linter.unusedVariables false
set_option linter.unusedSimpArgs false
def lastIs (l : List S45) (kind : Int) (s : ByteArray) : Bool := decide (0 < l.length) && ((rd_T45 l ((l.length - 1 : Nat) : Int)).f0.f0 == kind && ((foldS (rd_T45 l ((l.length - 1 : Nat) : Int)).f0.f1).toList == s.toList))
def okTexts (l : List S45) : Prop := ∀ x, x ∈ l → x.f0.f1.size ≤ 140737488351232
theorem rd45_mem (l : List S45) (j : Nat) (h : j < l.length) : rd_T45 l (j : Int) ∈ l := by
  have : rd_T45 l (j : Int) = l[j] := by simp [rd_T45, List.getD_eq_getElem?_getD, h]
  rw [this]
  exact List.getElem_mem h
theorem trimS_mem (l : List S45) (x : S45) (h : x ∈ trimS l) : x ∈ l := by
  unfold trimS trimBack at h
  have h1 := List.dropWhile_sublist (p := isSp) (l := (l.dropWhile isSp).reverse)
  have h2 := h1.subset (by simpa using h)
  exact (List.dropWhile_sublist (p := isSp) (l := l)).subset (by simpa using h2)
theorem trimS_len (l : List S45) : (trimS l).length ≤ l.length := by
  unfold trimS trimBack
  rw [List.length_reverse]
  have h1 := (List.dropWhile_sublist (p := isSp) (l := (l.dropWhile isSp).reverse)).length_le
  have h2 := (List.dropWhile_sublist (p := isSp) (l := l)).length_le
  rw [List.length_reverse] at h1
  omega
set_option maxHeartbeats 4000000 in
theorem ends_calls (P : Nat → Prop) (A : Option Addr) (c : Nat) (l : List S45) (kind : Int) (s : ByteArray) (n : Nat) (w : World) (hl : Kd.F k45 w P A l.length l) (hc : l.length ≤ c) (hP : ∀ k, P k → k < w.heap.size) (hs : l.length * 72 ≤ 140737488351232) (ht : okTexts l) (hn : l.length = n) :
    Calls Try.prog 52 #[.slice A n c, .int .i64 kind, .string s] w fun e w' => Below w.heap.size w w' ∧
      ((lastIs l kind s = false ∧ e = .returned (.tuple #[.slice A l.length c, .bool false])) ∨ (lastIs l kind s = true ∧ ∃ v, e = .returned (.tuple #[v, .bool true]) ∧ Kd.N k45 45 w' w.heap.size (okN P w) v (trimS (l.take (l.length - 1))))) := by
  subst hn
  by_cases hpos : 0 < l.length
  · obtain ⟨p, hp⟩ : ∃ p, l.length = p + 1 := ⟨l.length - 1, by omega⟩
    have hlast : lastIs l kind s = ((rd_T45 l (p : Nat)).f0.f0 == kind && ((foldS (rd_T45 l (p : Nat)).f0.f1).toList == s.toList)) := by
      unfold lastIs
      rw [decide_eq_true hpos, Bool.true_and, show l.length - 1 = p by omega]
    obtain ⟨ad, A5, c5, rfl, h0, h1, h2, h3, h4, h5, hl5, hi5⟩ := elem45 (Kd.F_now hl) p (by omega)
    have hx := ht _ (rd45_mem l p (by omega))
    obtain ⟨hcut, hF, hC⟩ := Kd.F_upto3 25 45 .i64 Try.underlying25 info45 hl hc p (by omega)
    have HT := Aside0.mk (fun W (hb : Below w.heap.size w W) => trim_calls P (some ad) p (l.take p) W (Kd.F_below hF hb) hC (fun k hk => Nat.lt_of_lt_of_le (hP k hk) hb.size) (by rw [List.length_take]; omega))
    have htl : (l.take p).length = p := by rw [List.length_take]; omega
    rw [htl] at HT
    generalize rd_T45 l (p : Nat) = x at h0 h1 h2 h3 h4 h5 hlast hx
    have HX := Aside0.mk (fun W => text_Fold.calls x.f0.f1 (foldS x.f0.f1) W (by unfold text_Fold.f; rw [if_pos hx]))
    have HLA := Aside0.mk hlast
    have HL1 := Aside0.mk (show l.length - 1 = p by omega)
    have HLL := Aside0.mk hp
    have hlen : l.length ≤ 4611686018427387904 := by omega
    rw [hp] at hlen hcut ⊢
    rw [show l.take (p + 1 - 1) = l.take p by rfl]
    have hpp : (0 : Int) ≤ (p : Int) := by omega
    have hnl : ¬ (p : Int) < 0 := by omega
    clear hl hc hP hs ht hF hC hx hlast hpos hl5 hi5 htl hp
    cases hk : (x.f0.f0 == kind) with
    | false =>
      have HV := Aside0.mk (show lastIs l kind s = false by rw [HLA.out, hk]; rfl)
      have hkb : (x.f0.f0 != kind) = true := by simpa using hk
      clear hcut
      go_enter Try.func52, Try.ntmps52
      go_wp2
      go_ret2
      exact ⟨Below.refl _ _, .inl ⟨HV.out, rfl⟩⟩
    | true =>
      have hkb : (x.f0.f0 != kind) = false := by simpa using hk
      cases hf : ((foldS x.f0.f1).toList == s.toList) with
      | false =>
        have HV := Aside0.mk (show lastIs l kind s = false by rw [HLA.out, hk, hf]; rfl)
        have hfb : ((foldS x.f0.f1).toList != s.toList) = true := by simpa using hf
        clear hcut
        go_enter Try.func52, Try.ntmps52
        go_wp2_with (go_at_call 51; refine (HX.out _).mono ?_; rintro e w1 ⟨rfl, hb⟩)
        go_ret2
        exact ⟨hb, .inl ⟨HV.out, rfl⟩⟩
      | true =>
        have HV := Aside0.mk (show lastIs l kind s = true by rw [HLA.out, hk, hf]; rfl)
        have hfb : ((foldS x.f0.f1).toList != s.toList) = false := by simpa using hf
        go_enter Try.func52, Try.ntmps52
        go_wp2_with (first | (go_at_call 51; refine (HX.out _).mono ?_; rintro e w1 ⟨rfl, hb⟩) | (go_at_call 23; refine (HT.out _ hb).mono ?_; rintro e w2 ⟨v, rfl, hN, hb2⟩))
        go_ret2
        exact ⟨below_step hb hb2, .inr ⟨HV.out, v, rfl, hN_up hN hb⟩⟩
  · have h0 : l = [] := List.eq_nil_of_length_eq_zero (by omega)
    subst h0
    clear hl hc hP hs ht hpos
    go_enter Try.func52, Try.ntmps52
    go_wp2
    go_ret2
    exact ⟨Below.refl _ _, .inl ⟨rfl, rfl⟩⟩
theorem trim_in (P : Nat → Prop) (b : World) (A : Option Addr) (c n : Nat) (l : List S45) (W : World) (hb : b.heap.size ≤ W.heap.size) (hl : Kd.F k45 W (okN P b) A l.length l) (hc : l.length ≤ c) (hs : l.length * 72 ≤ 140737488351232) (hn : l.length = n) :
    Calls Try.prog 23 #[.slice A n c] W fun e w' => ∃ v, e = .returned v ∧ Kd.N k45 45 w' b.heap.size (okN P b) v (trimS l) ∧ Below W.heap.size W w' := by
  subst hn
  refine (trim_calls _ A c l W (Kd.F_bound hl) hc (fun k hk => hk.2) hs).mono ?_
  rintro e w' ⟨v, rfl, hN, hb'⟩
  exact ⟨v, rfl, Kd.N_mono (Kd.N_lower hN hb) (fun k hk => hk.elim (fun h => h.1) (fun h => .inr (Nat.le_trans hb h))), hb'⟩
theorem ends_in (P : Nat → Prop) (b : World) (A : Option Addr) (c : Nat) (l : List S45) (kind : Int) (s : ByteArray) (n : Nat) (W : World) (hb : b.heap.size ≤ W.heap.size) (hl : Kd.F k45 W (okN P b) A l.length l) (hc : l.length ≤ c) (hs : l.length * 72 ≤ 140737488351232) (ht : okTexts l) (hn : l.length = n) :
    Calls Try.prog 52 #[.slice A n c, .int .i64 kind, .string s] W fun e w' => Below W.heap.size W w' ∧
      ((lastIs l kind s = false ∧ e = .returned (.tuple #[.slice A l.length c, .bool false])) ∨ (lastIs l kind s = true ∧ ∃ v, e = .returned (.tuple #[v, .bool true]) ∧ Kd.N k45 45 w' b.heap.size (okN P b) v (trimS (l.take (l.length - 1))))) := by
  refine (ends_calls _ A c l kind s n W (Kd.F_bound hl) hc (fun k hk => hk.2) hs ht hn).mono ?_
  rintro e w' ⟨hb', h | ⟨h1, v, h2, hN⟩⟩
  · exact ⟨hb', .inl h⟩
  · exact ⟨hb', .inr ⟨h1, v, h2, Kd.N_mono (Kd.N_lower hN hb) (fun k hk => hk.elim (fun h => h.1) (fun h => .inr (Nat.le_trans hb h)))⟩⟩
end Go.Proofs.Ythaaajpmiofodaa.P
end
section
set_option linter.unusedVariables false
set_option linter.unusedSimpArgs false
namespace Go.Proofs.Ythaaajpmiofodaa.P
open Go.RowKit Go.Proofs.YthaaajpmiofodaaW.PrintWords Go.Proofs.YthaaajpmiofodaaW.PrintLast Go.Proofs.YthaaajpmiofodaaW.PrintMore
attribute [local go_sem] max2_int min2_int max_two min_two max_three min_three max_four min_four
set_option linter.unusedVariables false
set_option linter.unusedSimpArgs false
def impS : ByteArray := ⟨#[105, 109, 112, 111, 114, 116, 97, 110, 116]⟩
def bangS : ByteArray := ⟨#[33]⟩
def valImp (v : List S45) : List S45 × Bool :=
  if lastIs v 1 impS then (if lastIs (trimS (v.take (v.length - 1))) 9 bangS then (trimS ((trimS (v.take (v.length - 1))).take ((trimS (v.take (v.length - 1))).length - 1)), true) else (v, false)) else (v, false)
def declS (l : List S45) : Option S47 :=
  if (rd_T45 l 0).f0.f0 ≠ 1 ∨ (trimS (l.drop 1)).length = 0 ∨ (rd_T45 (trimS (l.drop 1)) 0).f0.f0 ≠ 16 then none
  else some ⟨foldS (rd_T45 l 0).f0.f1, (valImp (trimS ((trimS (l.drop 1)).drop 1))).1, (valImp (trimS ((trimS (l.drop 1)).drop 1))).2⟩
set_option maxHeartbeats 8000000 in
set_option maxRecDepth 100000 in
theorem decl_calls (P : Nat → Prop) (A : Option Addr) (c : Nat) (l : List S45) (n : Nat) (w : World) (hl : Kd.F k45 w P A l.length l) (hc : l.length ≤ c) (hP : ∀ k, P k → k < w.heap.size) (hs : l.length * 72 ≤ 140737488351232) (ht : okTexts l) (hp : 0 < l.length) (hn : l.length = n) :
    Calls Try.prog 40 #[.slice A n c] w fun e w' => Below w.heap.size w w' ∧
      ((declS l = none ∧ e = .returned (.tuple #[.agg #[.string ⟨#[]⟩, .slice none 0 0, .bool false], .bool false])) ∨
       (∃ d v, declS l = some d ∧ e = .returned (.tuple #[.agg #[.string d.f0, v, .bool d.f2], .bool true]) ∧ Kd.N k45 45 w' w.heap.size (okN P w) v d.f1)) := by
  subst hn
  have hu43 := Try.underlying43
  have hu45 := Try.underlying45
  have hu47 := Try.underlying47
  obtain ⟨ad, A5, c5, rfl, h0, h1, h2, h3, h4, h5, hl5, hi5⟩ := first45 (Kd.F_now hl) hp
  obtain ⟨A2, c2, hcut, hF2, hC2⟩ := Kd.F_tail 25 45 .i64 Try.underlying25 info45 hl hc hp
  have hx := ht _ (rd45_mem l 0 hp)
  have htx : okTexts (l.drop 1) := fun y hy => ht y (List.mem_of_mem_drop hy)
  have hx0 : rd_T45 l 0 = rd_T45 l ((0 : Nat) : Int) := rfl
  rw [← hx0] at hx
  generalize hxx : rd_T45 l 0 = x at h0 h1 h2 h3 h4 h5 hx
  have HXX := Aside0.mk hxx
  have HFO := Aside0.mk (fun W => text_Fold.calls x.f0.f1 (foldS x.f0.f1) W (by unfold text_Fold.f; rw [if_pos hx]))
  have hdl : (l.drop 1).length = l.length - 1 := by rw [List.length_drop]
  have HTX := Aside0.mk htx
  have HF2 := Aside0.mk hF2
  have HC2 := Aside0.mk hC2
  have HPP := Aside0.mk hP
  have HS := Aside0.mk hs
  have HPOS := Aside0.mk hp
  have hlen : l.length ≤ 4611686018427387904 := by omega
  have hposz : (0 : Int) < (l.length : Int) := by omega
  have k0 := ((below_alloc (Below.refl w.heap.size w) (.cells #[.string ⟨#[]⟩, .slice none 0 0, .bool false] 47)).cell (World.block_lt_of_cell? w _ h0)).trans h0
  have k1 := ((below_alloc (Below.refl w.heap.size w) (.cells #[.string ⟨#[]⟩, .slice none 0 0, .bool false] 47)).cell (World.block_lt_of_cell? w _ h1)).trans h1
  clear hl hc hP hs ht hp hl5 hi5 hF2 hC2 hx hxx hdl hx0 htx
  go_enter Try.func40, Try.ntmps40
  go_wp2_with fail
  obtain ⟨g2, hg2⟩ : ∃ g2, g2 = w.heap.size := ⟨_, rfl⟩
  have hb0 : (w.alloc (Obj.cells #[.string ⟨#[]⟩, .slice none 0 0, .bool false] 47)).heap[g2]? = some (.cells #[.string ⟨#[]⟩, .slice none 0 0, .bool false] 47 (0, 0)) := by rw [hg2]; exact blk_new w _
  have hB0 : Below w.heap.size w (w.alloc (Obj.cells #[.string ⟨#[]⟩, .slice none 0 0, .bool false] 47)) := below_alloc (Below.refl _ _) _
  rw [← hg2]
  generalize w.alloc (Obj.cells #[.string ⟨#[]⟩, .slice none 0 0, .bool false] 47) = W0 at hb0 hB0
  refine (HFO.out _).mono ?_
  rintro e W1 ⟨rfl, hb1⟩
  have HB1 := Aside0.mk (below_step hB0 hb1)
  have HG1 := Aside0.mk (blk_below hb0 hb1)
  have HG2 := Aside0.mk hg2
  clear hg2 hb0 hB0 hb1 k0 k1
  have k0 := ((below_alloc (Below.refl W1.heap.size W1) (.cells #[.string (foldS x.f0.f1), .slice none 0 0, .bool false] 47)).cell (World.block_lt_of_cell? W1 _ (pw_cell_below HB1.out h0))).trans (pw_cell_below HB1.out h0)
  have HH0 := Aside0.mk h0
  clear h0 h1 h2 h3 h4 h5
  go_wp2_with fail
  obtain ⟨g4, hg4⟩ : ∃ g4, g4 = W1.heap.size := ⟨_, rfl⟩
  have hb2 : (W1.alloc (Obj.cells #[.string (foldS x.f0.f1), .slice none 0 0, .bool false] 47)).heap[g4]? = some (.cells #[.string (foldS x.f0.f1), .slice none 0 0, .bool false] 47 (0, 0)) := by rw [hg4]; exact blk_new W1 _
  have hB2 : Below W1.heap.size W1 (W1.alloc (Obj.cells #[.string (foldS x.f0.f1), .slice none 0 0, .bool false] 47)) := below_alloc (Below.refl _ _) _
  have hs2 : (W1.alloc (Obj.cells #[.string (foldS x.f0.f1), .slice none 0 0, .bool false] 47)).heap.size = W1.heap.size + 1 := by simp
  rw [← hg4]
  generalize W1.alloc (Obj.cells #[.string (foldS x.f0.f1), .slice none 0 0, .bool false] 47) = W2 at hb2 hB2 hs2 k0
  have HB2 := Aside0.mk (below_step HB1.out hB2)
  have HGA := Aside0.mk (blk_below HG1.out hB2)
  have HGB := Aside0.mk hb2
  have HG4 := Aside0.mk (show g2 < g4 ∧ g4 < W2.heap.size ∧ w.heap.size ≤ g2 ∧ w.heap.size ≤ g4 by have := blk_lt HG1.out; have := HG2.out; omega)
  have HOK := Aside0.mk (show ∀ k, okN P W2 k → k ≠ g4 ∧ k ≠ g2 from fun k hk => by
    have := HG4.out
    rcases hk with h | h
    · have := HPP.out k h; omega
    · omega)
  have HOW := Aside0.mk (show ∀ k, okN P W2 k → okN P w k from fun k hk => hk.imp id (fun h => by have := HG4.out; omega))
  clear hg4 hb2 hB2 hs2
  have hrl := trimS_len (l.drop 1)
  rw [List.length_drop] at hrl
  refine (trim_in P W2 A2 c2 _ (l.drop 1) W2 (Nat.le_refl _) (Kd.F_mono (Kd.F_below HF2.out HB2.out) (fun k hk => .inl hk)) HC2.out (by rw [List.length_drop]; have := HS.out; omega) (List.length_drop ..)).mono ?_
  rintro e W3 ⟨v5, rfl, hN5, hb3⟩
  have hT5 : okTexts (trimS (l.drop 1)) := fun y hy => HTX.out y (trimS_mem _ y hy)
  generalize hrest : trimS (l.drop 1) = rest at hN5 hrl hT5
  have HRE := Aside0.mk hrest
  clear hrest
  obtain ⟨A6, c6, rfl⟩ := Kd.N_slice hN5
  have hr6 := Kd.N_reads' hN5
  have HB3 := Aside0.mk (below_step HB2.out hb3)
  have HGA3 := Aside0.mk (blk_below HGA.out hb3)
  have HGB3 := Aside0.mk (blk_below HGB.out hb3)
  have HF6 := Aside0.mk (Kd.N_F hN5)
  have HC6 := Aside0.mk hr6.2.1
  have HN5 := Aside0.mk hN5
  have HT5 := Aside0.mk hT5
  have HSZ3 := Aside0.mk hb3.size
  have hrz : (rest.length : Int) ≤ 4611686018427387904 := by omega
  have HRL := Aside0.mk hrl
  clear hb3 hr6 hN5 hT5 hrl
  have m0 : W3.cell? ⟨g2, 0, none⟩ = some (.string ⟨#[]⟩) := (blk_cell HGA3.out 0).trans rfl
  have m1 : W3.cell? ⟨g2, 1, none⟩ = some (.slice none 0 0) := (blk_cell HGA3.out 1).trans rfl
  have m2 : W3.cell? ⟨g2, 2, none⟩ = some (.bool false) := (blk_cell HGA3.out 2).trans rfl
  have h0 := pw_cell_below HB3.out HH0.out
  have n0 := blk_frozen HGA3.out 0
  have n1 := blk_frozen HGA3.out 1
  have n2 := blk_frozen HGA3.out 2
  by_cases hk : x.f0.f0 = 1
  · by_cases hr0 : rest.length = 0
    · have HDN := Aside0.mk (show declS l = none by unfold declS; rw [if_pos (.inr (.inl (by rw [HRE.out]; exact hr0)))])
      obtain rfl := List.eq_nil_of_length_eq_zero hr0
      generalize x.f0.f0 = kx at *
      subst hk
      go_wp2
      refine bodyPost_ret (results_ct rfl _ _ g2 47 #[.string ⟨#[]⟩, .slice none 0 0, .bool false] (0, 0) _ rfl (by refine blk_put (cs := #[.string ⟨#[]⟩, .slice none 0 0, .bool false]) ?_ 2 _ rfl; refine blk_put (cs := #[.string ⟨#[]⟩, .slice none 0 0, .bool false]) ?_ 1 _ rfl; refine blk_put (cs := #[.string ⟨#[]⟩, .slice none 0 0, .bool false]) ?_ 0 _ rfl; exact HGA3.out) Try.underlying47 rfl (by kernel_rfl)) rfl ?_
      exact ⟨below_set (below_set (below_set HB3.out HG4.out.2.2.1) HG4.out.2.2.1) HG4.out.2.2.1, .inl ⟨HDN.out, rfl⟩⟩
    · have hpr : 0 < rest.length := by omega
      obtain ⟨bd, B5, d5, rfl, q0, q1, q2, q3, q4, q5, ql5, qi5⟩ := first45 (Kd.F_now HF6.out) hpr
      obtain ⟨A7, c7, hcut7, hF7, hC7⟩ := Kd.F_tail 25 45 .i64 Try.underlying25 info45 HF6.out HC6.out hpr
      generalize hyy : rd_T45 rest 0 = y at q0 q1 q2 q3 q4 q5
      have HYY := Aside0.mk hyy
      have hrpz : (0 : Int) < (rest.length : Int) := by omega
      have hrnz : ((rest.length : Int) == 0) = false := by simp only [beq_eq_false_iff_ne]; omega
      have hrne : ¬ rest = [] := List.length_pos_iff.1 hpr
      clear ql5 qi5 hyy hr0
      by_cases hk16 : y.f0.f0 = 16
      · have hne : ¬ (x.f0.f0 ≠ 1 ∨ rest.length = 0 ∨ y.f0.f0 ≠ 16) := by
          rintro (h | h | h)
          · exact h hk
          · omega
          · exact h hk16
        have HDS := Aside0.mk (show declS l = some ⟨foldS x.f0.f1, (valImp (trimS (rest.drop 1))).1, (valImp (trimS (rest.drop 1))).2⟩ by unfold declS; rw [HXX.out, HRE.out, HYY.out, if_neg hne])
        have HF7 := Aside0.mk hF7
        have HC7 := Aside0.mk hC7
        clear hne hF7 hC7
        generalize x.f0.f0 = kx at *
        subst hk
        generalize y.f0.f0 = ky at q0 hk16
        subst hk16
        have hrd : (rest.drop 1).length = rest.length - 1 := by rw [List.length_drop]
        have HRD := Aside0.mk hrd
        clear hrd
        go_wp2_with fail
        refine (trim_in P W2 A7 c7 _ (rest.drop 1) W3 HSZ3.out (Kd.F_mono HF7.out (fun k hk => hk)) HC7.out (by rw [HRD.out]; have := HS.out; have := HRL.out; omega) HRD.out).mono ?_
        rintro e W4 ⟨v42, rfl, hN4, hb4⟩
        have hT4 : okTexts (trimS (rest.drop 1)) := fun y hy => HT5.out y (List.mem_of_mem_drop (trimS_mem _ y hy))
        have hvl := trimS_len (rest.drop 1)
        rw [HRD.out] at hvl
        generalize trimS (rest.drop 1) = val at hN4 hT4 hvl HDS
        obtain ⟨A8, c8, rfl⟩ := Kd.N_slice hN4
        have HB4 := Aside0.mk (below_step HB3.out hb4)
        have HGA4 := Aside0.mk (blk_below HGA3.out hb4)
        have HGB4 := Aside0.mk (blk_below HGB3.out hb4)
        have HSZ4 := Aside0.mk (Nat.le_trans HSZ3.out hb4.size)
        have HN4 := Aside0.mk hN4
        have HT4 := Aside0.mk hT4
        have HVL := Aside0.mk hvl
        clear hN4 hT4 hvl hb4 h0 q0 q1 q2 q3 q4 q5 m0 m1 m2 n0 n1 n2 hcut7
        have m1 : W4.cell? ⟨g4, 1, none⟩ = some (.slice none 0 0) := (blk_cell HGB4.out 1).trans rfl
        have n1 := blk_frozen HGB4.out 1
        go_wp2_with fail
        have HN5 := Aside0.mk (Kd.N_far (p := ⟨g4, 1, none⟩) HN4.out (fun k hk => (HOK.out k hk).1) (.slice A8 val.length c8))
        have HGB5 := Aside0.mk (blk_put HGB4.out 1 (.slice A8 val.length c8) (cs' := #[.string (foldS x.f0.f1), .slice A8 val.length c8, .bool false]) rfl)
        have HGA5 := Aside0.mk (blk_far HGA4.out (p := ⟨g4, 1, none⟩) (by show g2 ≠ g4; have := HG4.out; omega) (.slice A8 val.length c8))
        have HB5 := Aside0.mk (below_set (j := 1) (v := .slice A8 val.length c8) HB4.out HG4.out.2.2.2)
        have HSZ5 := Aside0.mk (show W2.heap.size ≤ (World.setCell W4 ⟨g4, 1, none⟩ (.slice A8 val.length c8)).heap.size by simpa [World.setCell] using HSZ4.out)
        clear m1 n1
        generalize World.setCell W4 ⟨g4, 1, none⟩ (.slice A8 val.length c8) = W5 at HN5 HGB5 HGA5 HB5 HSZ5
        refine (ends_in P W2 A8 c8 val 1 impS _ W5 HSZ5.out (Kd.N_F HN5.out) (Kd.N_reads' HN5.out).2.1 (by have := HVL.out; have := HRL.out; have := HS.out; omega) HT4.out rfl).mono ?_
        rintro e W6 ⟨hb6, ⟨h6, rfl⟩ | ⟨h6, v6, rfl, hN6⟩⟩
        · have HVI := Aside0.mk (show valImp val = (val, false) by unfold valImp; rw [if_neg (by rw [h6]; exact Bool.false_ne_true)])
          have HGB6 := Aside0.mk (blk_below HGB5.out hb6)
          have HGA6 := Aside0.mk (blk_below HGA5.out hb6)
          have HB6 := Aside0.mk (below_step HB5.out hb6)
          have HN6 := Aside0.mk (Kd.N_below HN5.out hb6)
          clear hb6 h6
          have r0 : W6.cell? ⟨g4, 0, none⟩ = some (.string (foldS x.f0.f1)) := (blk_cell HGB6.out 0).trans rfl
          have r1 : W6.cell? ⟨g4, 1, none⟩ = some (.slice A8 val.length c8) := (blk_cell HGB6.out 1).trans rfl
          have r2 : W6.cell? ⟨g4, 2, none⟩ = some (.bool false) := (blk_cell HGB6.out 2).trans rfl
          have m0 : W6.cell? ⟨g2, 0, none⟩ = some (.string ⟨#[]⟩) := (blk_cell HGA6.out 0).trans rfl
          have m1 : W6.cell? ⟨g2, 1, none⟩ = some (.slice none 0 0) := (blk_cell HGA6.out 1).trans rfl
          have m2 : W6.cell? ⟨g2, 2, none⟩ = some (.bool false) := (blk_cell HGA6.out 2).trans rfl
          have f0 := blk_frozen HGA6.out 0
          have f1 := blk_frozen HGA6.out 1
          have f2 := blk_frozen HGA6.out 2
          go_wp2
          refine bodyPost_ret (results_ct rfl _ _ g2 47 #[.string (foldS x.f0.f1), .slice A8 val.length c8, .bool false] (0, 0) _ rfl (by refine blk_put (cs := #[.string (foldS x.f0.f1), .slice A8 val.length c8, .bool false]) ?_ 2 _ rfl; refine blk_put (cs := #[.string (foldS x.f0.f1), .slice none 0 0, .bool false]) ?_ 1 _ rfl; refine blk_put (cs := #[.string ⟨#[]⟩, .slice none 0 0, .bool false]) ?_ 0 _ rfl; exact HGA6.out) Try.underlying47 rfl (by kernel_rfl)) rfl ?_
          exact ⟨below_set (below_set (below_set (HB6.out) HG4.out.2.2.1) HG4.out.2.2.1) HG4.out.2.2.1, .inr ⟨_, .slice A8 val.length c8, by rw [HDS.out, HVI.out], rfl, Kd.N_mono (Kd.N_lower (Kd.N_far (p := ⟨g2, 2, none⟩) (Kd.N_far (p := ⟨g2, 1, none⟩) (Kd.N_far (p := ⟨g2, 0, none⟩) (HN6.out) (fun k hk => (HOK.out k hk).2) _) (fun k hk => (HOK.out k hk).2) _) (fun k hk => (HOK.out k hk).2) _) (by have := HG4.out; omega)) HOW.out⟩⟩
        · have HB6 := Aside0.mk (below_step HB5.out hb6)
          have HGB6 := Aside0.mk (blk_below HGB5.out hb6)
          have HGA6 := Aside0.mk (blk_below HGA5.out hb6)
          have HSZ6 := Aside0.mk (Nat.le_trans HSZ5.out hb6.size)
          have HN6 := Aside0.mk (Kd.N_below HN5.out hb6)
          have hal := trimS_len (val.take (val.length - 1))
          rw [List.length_take] at hal
          have hT6 : okTexts (trimS (val.take (val.length - 1))) := fun y hy => HT4.out y (List.mem_of_mem_take (trimS_mem _ y hy))
          have hvi : valImp val = if lastIs (trimS (val.take (val.length - 1))) 9 bangS then (trimS ((trimS (val.take (val.length - 1))).take ((trimS (val.take (val.length - 1))).length - 1)), true) else (val, false) := by
            unfold valImp
            rw [if_pos h6]
          generalize trimS (val.take (val.length - 1)) = ahead at hN6 hal hT6 hvi
          obtain ⟨A9, c9, rfl⟩ := Kd.N_slice hN6
          have HNA := Aside0.mk hN6
          have HT6 := Aside0.mk hT6
          have HVI := Aside0.mk hvi
          have HAL := Aside0.mk hal
          clear hN6 hal hT6 hvi hb6 h6
          go_wp2_with fail
          refine (ends_in P W2 A9 c9 ahead 9 bangS _ W6 HSZ6.out (Kd.N_F HNA.out) (Kd.N_reads' HNA.out).2.1 (by have := HVL.out; have := HRL.out; have := HS.out; have := HAL.out; omega) HT6.out rfl).mono ?_
          rintro e W7 ⟨hb7, ⟨h7, rfl⟩ | ⟨h7, v8, rfl, hN8⟩⟩
          · have HVJ := Aside0.mk (show valImp val = (val, false) by rw [HVI.out, if_neg (by rw [h7]; exact Bool.false_ne_true)])
            have HGB7 := Aside0.mk (blk_below HGB6.out hb7)
            have HGA7 := Aside0.mk (blk_below HGA6.out hb7)
            have HB7 := Aside0.mk (below_step HB6.out hb7)
            have HN7 := Aside0.mk (Kd.N_below HN6.out hb7)
            clear hb7 h7
            have r0 : W7.cell? ⟨g4, 0, none⟩ = some (.string (foldS x.f0.f1)) := (blk_cell HGB7.out 0).trans rfl
            have r1 : W7.cell? ⟨g4, 1, none⟩ = some (.slice A8 val.length c8) := (blk_cell HGB7.out 1).trans rfl
            have r2 : W7.cell? ⟨g4, 2, none⟩ = some (.bool false) := (blk_cell HGB7.out 2).trans rfl
            have m0 : W7.cell? ⟨g2, 0, none⟩ = some (.string ⟨#[]⟩) := (blk_cell HGA7.out 0).trans rfl
            have m1 : W7.cell? ⟨g2, 1, none⟩ = some (.slice none 0 0) := (blk_cell HGA7.out 1).trans rfl
            have m2 : W7.cell? ⟨g2, 2, none⟩ = some (.bool false) := (blk_cell HGA7.out 2).trans rfl
            have f0 := blk_frozen HGA7.out 0
            have f1 := blk_frozen HGA7.out 1
            have f2 := blk_frozen HGA7.out 2
            go_wp2
            refine bodyPost_ret (results_ct rfl _ _ g2 47 #[.string (foldS x.f0.f1), .slice A8 val.length c8, .bool false] (0, 0) _ rfl (by refine blk_put (cs := #[.string (foldS x.f0.f1), .slice A8 val.length c8, .bool false]) ?_ 2 _ rfl; refine blk_put (cs := #[.string (foldS x.f0.f1), .slice none 0 0, .bool false]) ?_ 1 _ rfl; refine blk_put (cs := #[.string ⟨#[]⟩, .slice none 0 0, .bool false]) ?_ 0 _ rfl; exact HGA7.out) Try.underlying47 rfl (by kernel_rfl)) rfl ?_
            exact ⟨below_set (below_set (below_set (HB7.out) HG4.out.2.2.1) HG4.out.2.2.1) HG4.out.2.2.1, .inr ⟨_, .slice A8 val.length c8, by rw [HDS.out, HVJ.out], rfl, Kd.N_mono (Kd.N_lower (Kd.N_far (p := ⟨g2, 2, none⟩) (Kd.N_far (p := ⟨g2, 1, none⟩) (Kd.N_far (p := ⟨g2, 0, none⟩) (HN7.out) (fun k hk => (HOK.out k hk).2) _) (fun k hk => (HOK.out k hk).2) _) (fun k hk => (HOK.out k hk).2) _) (by have := HG4.out; omega)) HOW.out⟩⟩
          · have HVJ := Aside0.mk (show valImp val = (trimS (ahead.take (ahead.length - 1)), true) by rw [HVI.out, if_pos h7])
            have HGB7 := Aside0.mk (blk_below HGB6.out hb7)
            have HGA7 := Aside0.mk (blk_below HGA6.out hb7)
            have HB7 := Aside0.mk (below_step HB6.out hb7)
            generalize trimS (ahead.take (ahead.length - 1)) = last at hN8 HVJ
            obtain ⟨A10, c10, rfl⟩ := Kd.N_slice hN8
            have HN8 := Aside0.mk hN8
            clear hb7 h7 hN8
            have r0 : W7.cell? ⟨g4, 0, none⟩ = some (.string (foldS x.f0.f1)) := (blk_cell HGB7.out 0).trans rfl
            have r1 : W7.cell? ⟨g4, 1, none⟩ = some (.slice A8 val.length c8) := (blk_cell HGB7.out 1).trans rfl
            have r2 : W7.cell? ⟨g4, 2, none⟩ = some (.bool false) := (blk_cell HGB7.out 2).trans rfl
            have m0 : W7.cell? ⟨g2, 0, none⟩ = some (.string ⟨#[]⟩) := (blk_cell HGA7.out 0).trans rfl
            have m1 : W7.cell? ⟨g2, 1, none⟩ = some (.slice none 0 0) := (blk_cell HGA7.out 1).trans rfl
            have m2 : W7.cell? ⟨g2, 2, none⟩ = some (.bool false) := (blk_cell HGA7.out 2).trans rfl
            have f0 := blk_frozen HGA7.out 0
            have f1 := blk_frozen HGA7.out 1
            have f2 := blk_frozen HGA7.out 2
            have e1 := blk_frozen HGB7.out 1
            have e2 := blk_frozen HGB7.out 2
            have hgne : g2 ≠ g4 := by have := HG4.out; omega
            go_wp2
            refine bodyPost_ret (results_ct rfl _ _ g2 47 #[.string (foldS x.f0.f1), .slice A10 last.length c10, .bool true] (0, 0) _ rfl (by refine blk_put (cs := #[.string (foldS x.f0.f1), .slice A10 last.length c10, .bool false]) ?_ 2 _ rfl; refine blk_put (cs := #[.string (foldS x.f0.f1), .slice none 0 0, .bool false]) ?_ 1 _ rfl; refine blk_put (cs := #[.string ⟨#[]⟩, .slice none 0 0, .bool false]) ?_ 0 _ rfl; exact blk_far (blk_far HGA7.out hgne _) hgne _) Try.underlying47 rfl (by kernel_rfl)) rfl ?_
            exact ⟨below_set (below_set (below_set (below_set (below_set HB7.out HG4.out.2.2.2) HG4.out.2.2.2) HG4.out.2.2.1) HG4.out.2.2.1) HG4.out.2.2.1, .inr ⟨_, .slice A10 last.length c10, by rw [HDS.out, HVJ.out], rfl, Kd.N_mono (Kd.N_lower (Kd.N_far (p := ⟨g2, 2, none⟩) (Kd.N_far (p := ⟨g2, 1, none⟩) (Kd.N_far (p := ⟨g2, 0, none⟩) (Kd.N_far (p := ⟨g4, 2, none⟩) (Kd.N_far (p := ⟨g4, 1, none⟩) HN8.out (fun k hk => (HOK.out k hk).1) _) (fun k hk => (HOK.out k hk).1) _) (fun k hk => (HOK.out k hk).2) _) (fun k hk => (HOK.out k hk).2) _) (fun k hk => (HOK.out k hk).2) _) (by have := HG4.out; omega)) HOW.out⟩⟩
      · have HDN := Aside0.mk (show declS l = none by unfold declS; rw [if_pos (.inr (.inr (by rw [HRE.out, HYY.out]; exact hk16)))])
        clear hcut7 hF7 hC7
        generalize x.f0.f0 = kx at *
        subst hk
        generalize y.f0.f0 = ky at q0 hk16
        have hkb : (ky != 16) = true := by simpa using hk16
        go_wp2
        all_goals refine bodyPost_ret (results_ct rfl _ _ g2 47 #[.string ⟨#[]⟩, .slice none 0 0, .bool false] (0, 0) _ rfl (by refine blk_put (cs := #[.string ⟨#[]⟩, .slice none 0 0, .bool false]) ?_ 2 _ rfl; refine blk_put (cs := #[.string ⟨#[]⟩, .slice none 0 0, .bool false]) ?_ 1 _ rfl; refine blk_put (cs := #[.string ⟨#[]⟩, .slice none 0 0, .bool false]) ?_ 0 _ rfl; exact HGA3.out) Try.underlying47 rfl (by kernel_rfl)) rfl ?_
        all_goals exact ⟨below_set (below_set (below_set HB3.out HG4.out.2.2.1) HG4.out.2.2.1) HG4.out.2.2.1, .inl ⟨HDN.out, rfl⟩⟩
  · have HDN := Aside0.mk (show declS l = none by unfold declS; rw [if_pos (.inl (by rw [HXX.out]; exact hk))])
    generalize x.f0.f0 = kx at *
    go_wp2
    refine bodyPost_ret (results_ct rfl _ _ g2 47 #[.string ⟨#[]⟩, .slice none 0 0, .bool false] (0, 0) _ rfl (by refine blk_put (cs := #[.string ⟨#[]⟩, .slice none 0 0, .bool false]) ?_ 2 _ rfl; refine blk_put (cs := #[.string ⟨#[]⟩, .slice none 0 0, .bool false]) ?_ 1 _ rfl; refine blk_put (cs := #[.string ⟨#[]⟩, .slice none 0 0, .bool false]) ?_ 0 _ rfl; exact HGA3.out) Try.underlying47 rfl (by kernel_rfl)) rfl ?_
    exact ⟨below_set (below_set (below_set HB3.out HG4.out.2.2.1) HG4.out.2.2.1) HG4.out.2.2.1, .inl ⟨HDN.out, rfl⟩⟩
end Go.Proofs.Ythaaajpmiofodaa.P
end
section
set_option linter.unusedVariables false
set_option linter.unusedSimpArgs false
namespace Go.Proofs.Ythaaajpmiofodaa.P
open Go.RowKit Go.Proofs.YthaaajpmiofodaaW.PrintWords Go.Proofs.YthaaajpmiofodaaW.PrintLast Go.Proofs.YthaaajpmiofodaaW.PrintMore
attribute [local go_sem] max2_int min2_int max_two min_two max_three min_three max_four min_four
set_option linter.unusedVariables false
set_option linter.unusedSimpArgs false
theorem skipF_suffix (ks : List Int) : ∀ (k : Nat) (l : List S45), ∃ j, j ≤ l.length ∧ skipF ks k l = l.drop j
  | 0, l => ⟨l.length, Nat.le_refl _, by simp [skipF]⟩
  | k + 1, l => by
    unfold skipF
    split
    · rename_i h; exact ⟨0, Nat.zero_le _, by rw [h]; rfl⟩
    · rename_i h
      have hp : 0 < l.length := List.length_pos_iff.2 h
      split
      · obtain ⟨j, hj, e⟩ := skipF_suffix ks k (l.drop 1)
        rw [List.length_drop] at hj
        exact ⟨1 + j, by omega, by rw [e, List.drop_drop]⟩
      · split
        · obtain ⟨j, hj, e⟩ := skipF_suffix ks k (l.drop (min (firstS l [17, 23] + 1) l.length))
          rw [List.length_drop] at hj
          exact ⟨min (firstS l [17, 23] + 1) l.length + j, by omega, by rw [e, List.drop_drop]⟩
        · exact ⟨0, Nat.zero_le _, rfl⟩
theorem skipS_mem (ks : List Int) (l : List S45) (x : S45) (h : x ∈ skipS ks l) : x ∈ l := by
  obtain ⟨j, _, e⟩ := skipF_suffix ks (l.length + 1) l
  unfold skipS at h
  rw [e] at h
  exact List.mem_of_mem_drop h
theorem skipS_len (ks : List Int) (l : List S45) : (skipS ks l).length ≤ l.length := by
  obtain ⟨j, _, e⟩ := skipF_suffix ks (l.length + 1) l
  unfold skipS
  rw [e, List.length_drop]; omega
theorem skipF_head (ks : List Int) : ∀ (k : Nat) (l : List S45), 0 < (skipF ks k l).length → hasKind ks (rd_T45 (skipF ks k l) 0).f0.f0 = false ∧ ¬ (rd_T45 (skipF ks k l) 0).f0.f0 = 3
  | 0, l, h => by simp [skipF] at h
  | k + 1, l, h => by
    unfold skipF at h ⊢
    split at h
    · simp at h
    · rename_i he
      rw [if_neg he]
      split at h
      · rename_i h1; rw [if_pos h1]; exact skipF_head ks k _ h
      · rename_i h1
        rw [if_neg h1]
        split at h
        · rename_i h2; rw [if_pos h2]; exact skipF_head ks k _ h
        · rename_i h2; rw [if_neg h2]; exact ⟨by simpa using h1, h2⟩
theorem skipS_head (ks : List Int) (l : List S45) (h : 0 < (skipS ks l).length) : hasKind ks (rd_T45 (skipS ks l) 0).f0.f0 = false ∧ ¬ (rd_T45 (skipS ks l) 0).f0.f0 = 3 := skipF_head ks _ l h
theorem firstS_pos (m : List S45) (k : Int) (hp : 0 < m.length) (h : (rd_T45 m 0).f0.f0 ≠ k) : 0 < firstS m [k] := by
  cases m with
  | nil => simp at hp
  | cons x t =>
    have h' : x.f0.f0 ≠ k := h
    unfold firstS
    rw [List.findIdx_cons]
    have : kindIn [k] x = false := by simp [kindIn, hasKind, h', Ne.symm h']
    rw [this]
    exact Nat.succ_pos _
def declsF : Nat → List S45 → List S47
  | 0, _ => []
  | k + 1, l => if skipS [13, 17] l = [] then [] else (declS ((skipS [13, 17] l).take (firstS (skipS [13, 17] l) [17]))).toList ++ declsF k ((skipS [13, 17] l).drop (firstS (skipS [13, 17] l) [17]))
def declsS (l : List S45) : List S47 := declsF (l.length + 1) l
theorem decls_pos (l : List S45) (h : skipS [13, 17] l ≠ []) : 0 < firstS (skipS [13, 17] l) [17] := by
  have hp := List.length_pos_iff.2 h
  refine firstS_pos _ 17 hp (fun e => ?_)
  have := (skipS_head [13, 17] l hp).1
  rw [e] at this
  revert this
  decide
theorem declsF_any : ∀ (k k' : Nat) (l : List S45), l.length < k → l.length < k' → declsF k l = declsF k' l
  | 0, _, _, h, _ => absurd h (by omega)
  | _ + 1, 0, _, _, h => absurd h (by omega)
  | k + 1, k' + 1, l, h, h' => by
    unfold declsF
    by_cases e : skipS [13, 17] l = []
    · rw [if_pos e, if_pos e]
    · have hp := decls_pos l e
      have hl := skipS_len [13, 17] l
      have hm := List.length_pos_iff.2 e
      rw [if_neg e, if_neg e, declsF_any k k' _ (by rw [List.length_drop]; omega) (by rw [List.length_drop]; omega)]
theorem declsF_count : ∀ (k : Nat) (l : List S45), (declsF k l).length ≤ l.length
  | 0, _ => Nat.zero_le _
  | k + 1, l => by
    unfold declsF
    by_cases e : skipS [13, 17] l = []
    · rw [if_pos e]; exact Nat.zero_le _
    · have hp := decls_pos l e
      have hl := skipS_len [13, 17] l
      have hm := List.length_pos_iff.2 e
      have ih := declsF_count k ((skipS [13, 17] l).drop (firstS (skipS [13, 17] l) [17]))
      rw [if_neg e, List.length_append]
      rw [List.length_drop] at ih
      have : ((declS ((skipS [13, 17] l).take (firstS (skipS [13, 17] l) [17]))).toList).length ≤ 1 := by cases declS _ <;> simp
      omega
theorem skip_at (P : Nat → Prop) (A : Option Addr) (c : Nat) (l : List S45) (g : Nat) (xs : List Int) (n : Nat) (W : World) (hl : Kd.F k45 W P A l.length l) (hc : l.length ≤ c) (hs : l.length * 72 ≤ 140737488351232) (hx : xs.length * 8 ≤ 140737488351232) (hn : xs.length = n) (hb : W.heap[g]? = some (.cells (xs.map (Value.int .i64)).toArray 3 (0, 0))) :
    Calls Try.prog 33 #[.slice A l.length c, .slice (some ⟨g, 0, none⟩) n n] W fun e w' => ∃ A2 c2, e = .returned (.slice A2 (skipS xs l).length c2) ∧ (skipS xs l).length ≤ c2 ∧ Kd.F k45 w' P A2 (skipS xs l).length (skipS xs l) ∧ Below W.heap.size W w' := by
  subst hn
  exact skip_calls P A c l _ _ xs _ W hl hc hs (lits_C xs hb (by omega)) (Nat.le_refl _) hx rfl
theorem skip_at2 (P : Nat → Prop) (A : Option Addr) (c n0 : Nat) (l : List S45) (W : World) (o : Obj) (xs : List Int) (n : Nat) (hl : Kd.F k45 (W.alloc o) P A l.length l) (hc : l.length ≤ c) (hs : l.length * 72 ≤ 140737488351232) (hx : xs.length * 8 ≤ 140737488351232) (hn0 : l.length = n0) (hn : xs.length = n) :
    Calls Try.prog 33 #[.slice A n0 c, .slice (some ⟨W.heap.size + 1, 0, none⟩) n n] ((W.alloc o).alloc (.cells (xs.map (Value.int .i64)).toArray 3)) fun e w' => ∃ A2 c2, e = .returned (.slice A2 (skipS xs l).length c2) ∧ (skipS xs l).length ≤ c2 ∧ Kd.F k45 w' P A2 (skipS xs l).length (skipS xs l) ∧ Below W.heap.size W w' := by
  subst hn0
  refine (skip_at P A c l (W.heap.size + 1) xs n _ (Kd.F_alloc hl _) hc hs hx hn ?_).mono ?_
  · have := blk_new (W.alloc o) (.cells (xs.map (Value.int .i64)).toArray 3)
    simpa using this
  · rintro e w' ⟨A2, c2, h1, h2, h3, h4⟩
    exact ⟨A2, c2, h1, h2, h3, below_then (below_alloc (below_alloc (Below.refl _ _) _) _) (by simp; omega) h4⟩
theorem skip_at3 (P : Nat → Prop) (A : Option Addr) (c n0 : Nat) (l : List S45) (W : World) (xs : List Int) (n : Nat) (hl : Kd.F k45 W P A l.length l) (hc : l.length ≤ c) (hs : l.length * 72 ≤ 140737488351232) (hx : xs.length * 8 ≤ 140737488351232) (hn0 : l.length = n0) (hn : xs.length = n) :
    Calls Try.prog 33 #[.slice A n0 c, .slice (some ⟨W.heap.size, 0, none⟩) n n] (W.alloc (.cells (xs.map (Value.int .i64)).toArray 3)) fun e w' => ∃ A2 c2, e = .returned (.slice A2 (skipS xs l).length c2) ∧ (skipS xs l).length ≤ c2 ∧ Kd.F k45 w' P A2 (skipS xs l).length (skipS xs l) ∧ Below W.heap.size W w' := by
  subst hn0
  refine (skip_at P A c l W.heap.size xs n _ (Kd.F_alloc hl _) hc hs hx hn (blk_new W _)).mono ?_
  rintro e w' ⟨A2, c2, h1, h2, h3, h4⟩
  exact ⟨A2, c2, h1, h2, h3, below_then (below_alloc (Below.refl _ _) _) (by simp) h4⟩
theorem okTexts_skip {l : List S45} (ks : List Int) (h : okTexts l) : okTexts (skipS ks l) := fun x hx => h x (skipS_mem ks l x hx)
theorem okTexts_drop {l : List S45} (j : Nat) (h : okTexts l) : okTexts (l.drop j) := fun x hx => h x (List.mem_of_mem_drop hx)
theorem okTexts_take {l : List S45} (j : Nat) (h : okTexts l) : okTexts (l.take j) := fun x hx => h x (List.mem_of_mem_take hx)
set_option maxHeartbeats 2000000 in
set_option maxRecDepth 100000 in
theorem decls_calls (P : Nat → Prop) (A : Option Addr) (c : Nat) (l : List S45) (w : World) (hl : Kd.F k45 w P A l.length l) (hc : l.length ≤ c) (hP : ∀ k, P k → k < w.heap.size) (hs : l.length * 72 ≤ 140737488351232) (ht : okTexts l) :
    Calls Try.prog 21 #[.slice A l.length c] w fun e w' => ∃ v, e = .returned v ∧ Kd.N k47 47 w' w.heap.size (okN P w) v (declsS l) ∧ Below w.heap.size w w' := by
  have hu43 := Try.underlying43
  have hu45 := Try.underlying45
  have hu47 := Try.underlying47
  have HL := Aside0.mk hl
  have HC := Aside0.mk hc
  have HPP := Aside0.mk hP
  have HS := Aside0.mk hs
  have HT := Aside0.mk ht
  clear hl hc hP hs ht
  go_enter Try.func21, Try.ntmps21
  go_wp2_with (go_at_call 33; refine (skip_at P A c l _ [13, 17] 2 _ (Kd.F_alloc HL.out _) HC.out HS.out (by decide) rfl (blk_new w _)).mono ?_; rintro e w1 ⟨A2, c2, rfl, hc2, hF2, hb1⟩)
  have HF2 := Aside0.mk hF2
  have HC2 := Aside0.mk hc2
  have HB1 := Aside0.mk (below_then (below_alloc (Below.refl w.heap.size w) _) (by simp) hb1)
  clear hF2 hc2 hb1
  go_loopg [0, 3] (skipS [13, 17] l).length (fun gg s0 s3 wr => ∃ (l' : List S45) (B : Option Addr) (d : Nat) (acc : List S47) (K : Nat), s0 = .slice B (skipS [13, 17] l').length d ∧ Aside0 ((skipS [13, 17] l').length ≤ d) ∧ (skipS [13, 17] l').length ≤ gg ∧ Aside0 (l'.length ≤ l.length) ∧ Aside0 (Kd.F k45 wr P B (skipS [13, 17] l').length (skipS [13, 17] l')) ∧ Aside0 (okTexts l') ∧ Aside0 (Kd.N k47 47 wr w.heap.size (okN P w) s3 acc) ∧ Aside0 (l'.length < K ∧ acc ++ declsF K l' = declsS l) ∧ Aside0 (Below w.heap.size w wr))
  case atStart => exact ⟨l, A2, c2, [], l.length + 1, rfl, HC2, Nat.le_refl _, ⟨Nat.le_refl _⟩, HF2, HT, ⟨Kd.N_nil _ _ _ _ _⟩, ⟨Nat.lt_succ_self _, rfl⟩, HB1⟩
  case round =>
    clear HF2 HC2 HB1
    obtain ⟨l', B, d, acc, K, rfl, HD, hg, HM, HF, HTT, HN, HV, HB⟩ := hrel
    have hsl := skipS_len [13, 17] l'
    have hml : (skipS [13, 17] l').length * 72 ≤ 140737488351232 := by have := HS.out; have := HM.out; omega
    by_cases hpos : 0 < (skipS [13, 17] l').length
    · have hne : skipS [13, 17] l' ≠ [] := List.length_pos_iff.1 hpos
      have hfp := decls_pos l' hne
      have hfl := firstS_le (skipS [13, 17] l') [17]
      have htt := okTexts_skip [13, 17] HTT.out
      have hK : ∃ K', K = K' + 1 := ⟨K - 1, by have := HV.out.1; omega⟩
      obtain ⟨K', rfl⟩ := hK
      have hval := HV.out.2
      rw [declsF, if_neg hne] at hval
      have HK := Aside0.mk HV.out.1
      clear HV hne
      generalize skipS [13, 17] l' = m at *
      generalize hi : firstS m [17] = i at *
      obtain ⟨hcut, hF3, hC3⟩ := Kd.F_upto3 25 45 .i64 Try.underlying25 info45 HF.out HD.out i hfl
      obtain ⟨A4, c4, hcut4, hF4, hC4⟩ := Kd.F_rest 25 45 .i64 Try.underlying25 info45 HF.out HD.out i hfl
      have htl : (m.take i).length = i := by rw [List.length_take]; omega
      have hdl : (m.drop i).length = m.length - i := List.length_drop ..
      have HF3 := Aside0.mk hF3
      have HC3 := Aside0.mk hC3
      have HF4 := Aside0.mk hF4
      have HC4 := Aside0.mk hC4
      have HTL := Aside0.mk htl
      have HDL := Aside0.mk hdl
      have HI := Aside0.mk hi
      have HFP := Aside0.mk hfp
      have HMS := Aside0.mk hml
      have HSL := Aside0.mk hsl
      have HTM := Aside0.mk htt
      have HVAL := Aside0.mk hval
      have hacc : Aside0 (acc.length ≤ l.length) := ⟨by
        have h1 := congrArg List.length hval
        have h2 := declsF_count (l.length + 1) l
        rw [List.length_append] at h1
        unfold declsS at h1
        omega⟩
      have hlen : m.length ≤ 4611686018427387904 := by omega
      have hmz : (0 : Int) < (m.length : Int) := by omega
      clear hF3 hC3 hF4 hC4 htl hdl hi hfp hml hsl htt hval
      have HX : Aside0 (∀ W, Kd.C k45 W B m.length m → ∀ g, W.heap[g]? = some (.cells #[.int .i64 17] 3 (0, 0)) → Calls Try.prog 34 #[.slice B m.length d, .slice (some ⟨g, 0, none⟩) 1 1] W fun e w' => e = .returned (.int .i64 (i : Nat)) ∧ Below W.heap.size W w') := ⟨fun W hC g hb => by
        have := skip_first m B d g W hC HD.out HMS.out [17] (by decide) 1 rfl hb
        rw [HI.out] at this
        exact this⟩
      go_wp2_with fail
      refine (HX.out _ (Kd.C_alloc (Kd.F_now HF.out) _) _ (blk_new _ _)).mono ?_
      rintro e W1 ⟨rfl, hb1⟩
      have HB1 := Aside0.mk (below_then (below_alloc (Below.refl wr.heap.size wr) _) (by simp) hb1)
      clear hb1
      go_wp2_with fail
      have HF3' := Aside0.mk (show Kd.F k45 W1 P B (m.take i).length (m.take i) from Kd.F_below HF3.out HB1.out)
      have HWP := Aside0.mk (show ∀ W, Below w.heap.size w W → ∀ k, P k → k < W.heap.size from fun W hb k hk => Nat.lt_of_lt_of_le (HPP.out k hk) hb.size)
      have HBW := Aside0.mk (below_step HB.out HB1.out)
      refine (decl_calls P B i (m.take i) i W1 HF3'.out HC3.out (HWP.out W1 HBW.out) (by rw [HTL.out]; have := HMS.out; omega) (okTexts_take i HTM.out) (by rw [HTL.out]; exact HFP.out) HTL.out).mono ?_
      rintro e W2 ⟨hb2, ⟨hd, rfl⟩ | ⟨dd, v, hd, rfl, hNv⟩⟩
      · rw [hd, show (none : Option S47).toList = [] from rfl, List.nil_append] at HVAL
        have HB2 := Aside0.mk (below_step HB1.out hb2)
        have HBW2 := Aside0.mk (below_step HBW.out hb2)
        clear hb2 hd
        go_wp2_with fail
        refine (skip_at2 P A4 c4 (m.length - i) (m.drop i) W2 _ [13, 17] 2 (Kd.F_alloc (Kd.F_below HF4.out HB2.out) _) HC4.out (by rw [HDL.out]; have := HMS.out; omega) (by decide) HDL.out rfl).mono ?_
        rintro e W3 ⟨A5, c5, rfl, hc5, hF5, hb3⟩
        have HB3 := Aside0.mk (below_step HB2.out hb3)
        have hsm := skipS_len [13, 17] (m.drop i)
        rw [HDL.out] at hsm
        have HFPi := HFP.out
        clear hb3
        go_wp2
        go_roundg (skipS [13, 17] (m.drop i)).length
        case measure => omega
        case rel => exact ⟨m.drop i, A5, c5, acc, K', rfl, ⟨hc5⟩, Nat.le_refl _, ⟨by rw [HDL.out]; have := HM.out; have := HSL.out; omega⟩, ⟨hF5⟩, ⟨okTexts_drop i HTM.out⟩, ⟨Kd.N_below HN.out HB3.out⟩, ⟨by rw [HDL.out]; have := HK.out; have := HSL.out; omega, HVAL.out⟩, ⟨below_step HB.out HB3.out⟩⟩
      · rw [hd, show (some dd : Option S47).toList = [dd] from rfl] at HVAL
        have HB2 := Aside0.mk (below_step HB1.out hb2)
        have HBW2 := Aside0.mk (below_step HBW.out hb2)
        obtain ⟨A6, c6, rfl⟩ := Kd.N_slice hNv
        have hr6 := Kd.N_reads' hNv
        have HF6 := Aside0.mk (Kd.N_F hNv)
        have HC6 := Aside0.mk hr6.2.1
        have HN2 := Aside0.mk (Kd.N_below HN.out HB2.out)
        have HOB := Aside0.mk (fun k hk => Nat.lt_of_lt_of_le (Kd.N_lt HN.out k hk) HB1.out.size)
        have HOW := Aside0.mk (Kd.N_base HN.out)
        clear hb2 hd hr6 hNv
        go_wp2_with (first
          | ((with_reducible refine gate_builtin (b := .append) (xs := #[.tmp 28, .tmp 30]) rfl ?_); at_builtin; refine Kd.N_append k47 (w0 := World.alloc W2 (.cells #[.string dd.f0, .slice A6 dd.f1.length c6, .bool dd.f2] 47)) w.heap.size rfl (.tmp 28) (.tmp 30) 39 47 (.agg #[(.string ⟨#[]⟩), (.slice none 0 0), (.bool false)]) 48 rfl Try.underlying39 info47 rfl (by decide) (by omega) u3 acc dd [.string dd.f0, .slice A6 dd.f1.length c6, .bool dd.f2] (okN P w) (fun k => okN P w k ∧ some k ≠ u3.ownBlock) rfl (by first | (go_simp; done) | (go_simp; rfl)) ?aP (fun _ hk => hk) ?aF ?aO ?aB ?aS ?aL ?_; (case aP => exact k47_mkF _ _ dd HC6.out (Kd.F_mono (Kd.F_alloc HF6.out _) (fun k hk => by
              rcases hk with hk | hk
              · exact ⟨.inl hk, fun e => by have h1 := HOW.out k e.symm; have h2 := HPP.out k hk; omega⟩
              · exact ⟨.inr (Nat.le_trans HBW.out.size hk), fun e => by have h1 := HOB.out k e.symm; omega⟩))); (case aF => exact fun k hk => .inr (Nat.le_trans HBW2.out.size (Nat.le_trans (by simp) hk))); (case aO => exact Kd.N_alloc HN2.out _); (case aB => exact Below.refl _ _); (case aS => exact Nat.le_trans HBW2.out.size (by simp)); (case aL => have := hacc.out; have := HS.out; omega); intro v1 W4 ho hb4 hg4 hat)
          | fail)
        have HF5 := Aside0.mk (Kd.F_grown (Kd.F_alloc (Kd.F_below HF4.out HB2.out) _) hg4 (fun k hk e => by have h1 := HOW.out k e.symm; have h2 := HPP.out k hk; omega))
        have HBW4 := Aside0.mk ((below_alloc HBW2.out _).trans hb4)
        refine (skip_at3 P A4 c4 (m.length - i) (m.drop i) W4 [13, 17] 2 HF5.out HC4.out (by rw [HDL.out]; have := HMS.out; omega) (by decide) HDL.out rfl).mono ?_
        rintro e W5 ⟨A5, c5, rfl, hc5, hF5, hb5⟩
        have hsm := skipS_len [13, 17] (m.drop i)
        rw [HDL.out] at hsm
        have HFPi := HFP.out
        have HO := Aside0.mk (Kd.N_below ho hb5)
        have HBW5 := Aside0.mk (below_step HBW4.out hb5)
        clear hb5 ho hb4 hg4 hat
        go_wp2
        go_roundg (skipS [13, 17] (m.drop i)).length
        case measure => omega
        case rel => exact ⟨m.drop i, A5, c5, acc ++ [dd], K', rfl, ⟨hc5⟩, Nat.le_refl _, ⟨by rw [HDL.out]; have := HM.out; have := HSL.out; omega⟩, ⟨hF5⟩, ⟨okTexts_drop i HTM.out⟩, HO, ⟨by rw [HDL.out]; have := HK.out; have := HSL.out; omega, by rw [List.append_assoc]; exact HVAL.out⟩, HBW5⟩
    · have hz : skipS [13, 17] l' = [] := List.eq_nil_of_length_eq_zero (by omega)
      have hval := HV.out.2
      have hK : ∃ K', K = K' + 1 := ⟨K - 1, by have := HV.out.1; omega⟩
      obtain ⟨K', rfl⟩ := hK
      rw [declsF, if_pos hz, List.append_nil] at hval
      have HVAL := Aside0.mk hval
      rw [hz]
      clear hpos hval hz hg hml hsl
      go_wp2
      go_ret
      exact ⟨_, rfl, by rw [← HVAL.out]; exact HN.out, HB.out⟩
def parse_Decls.f (l : List S45) : Option (List S47) := if l.length * 72 ≤ 140737488351232 ∧ l.all (fun x => decide (x.f0.f1.size ≤ 140737488351232)) = true then some (declsS l) else none
theorem parse_Decls.calls (P0_ : Nat → Prop) (A0 : Option Addr) (c0 : Nat) (l0 : List (S45)) (r : List (S47)) (w : World) (hs0 : Kd.V k45 45 w w.heap.size (fun k_ => P0_ k_) (.slice A0 l0.length c0) l0) (h : parse_Decls.f l0 = some r) :
    Calls Try.prog 21 #[.slice A0 l0.length c0] w fun e w' => ∃ v0_ : Value, e = .returned (v0_) ∧ Kd.N k47 47 w' w.heap.size (fun k_ => (P0_ k_ ∨ w.heap.size ≤ k_)) v0_ r ∧ Below w.heap.size w w' := by
  unfold parse_Decls.f at h
  split at h
  · rename_i hc
    obtain rfl := Option.some.inj h
    obtain ⟨_, hlc, hF⟩ := Kd.V_at (Kd.V_bound hs0)
    refine (decls_calls (fun k_ => P0_ k_ ∧ k_ < w.heap.size) A0 c0 l0 w hF hlc (fun k hk => hk.2) hc.1 (fun x hx => of_decide_eq_true (List.all_eq_true.1 hc.2 x hx))).mono ?_
    rintro e w' ⟨v, rfl, hN, hb⟩
    exact ⟨v, rfl, Kd.N_mono hN (fun k hk => hk.elim (fun h => .inl h.1) .inr), hb⟩
  · cases h
end Go.Proofs.Ythaaajpmiofodaa.P
end
section
set_option linter.unusedVariables false
set_option linter.unusedSimpArgs false
namespace Go.Proofs.Ythaaajpmiofodaa.P
open Go.RowKit Go.Proofs.YthaaajpmiofodaaW.PrintWords Go.Proofs.YthaaajpmiofodaaW.PrintLast Go.Proofs.YthaaajpmiofodaaW.PrintMore
attribute [local go_sem] max2_int min2_int max_two min_two max_three min_three max_four min_four
set_option linter.unusedVariables false
set_option linter.unusedSimpArgs false
def rulesF : Nat → List S45 → List S36
  | 0, _ => []
  | k + 1, l => if skipS [13, 14, 15] l = [] then [] else if firstS (skipS [13, 14, 15] l) [23] = (skipS [13, 14, 15] l).length then []
    else (⟨(skipS [13, 14, 15] l).take (firstS (skipS [13, 14, 15] l) [23]), (rd_T45 (skipS [13, 14, 15] l) (firstS (skipS [13, 14, 15] l) [23] : Nat)).f1⟩ : S36) :: rulesF k ((skipS [13, 14, 15] l).drop (firstS (skipS [13, 14, 15] l) [23] + 1))
def rulesS (l : List S45) : List S36 := rulesF (l.length + 1) l
theorem rulesF_any : ∀ (k k' : Nat) (l : List S45), l.length < k → l.length < k' → rulesF k l = rulesF k' l
  | 0, _, _, h, _ => absurd h (by omega)
  | _ + 1, 0, _, _, h => absurd h (by omega)
  | k + 1, k' + 1, l, h, h' => by
    unfold rulesF
    by_cases e : skipS [13, 14, 15] l = []
    · rw [if_pos e, if_pos e]
    · have hl := skipS_len [13, 14, 15] l
      have hm := List.length_pos_iff.2 e
      rw [if_neg e, if_neg e, rulesF_any k k' _ (by rw [List.length_drop]; omega) (by rw [List.length_drop]; omega)]
theorem rulesF_count : ∀ (k : Nat) (l : List S45), (rulesF k l).length ≤ l.length
  | 0, _ => Nat.zero_le _
  | k + 1, l => by
    unfold rulesF
    by_cases e : skipS [13, 14, 15] l = []
    · rw [if_pos e]; exact Nat.zero_le _
    · have hl := skipS_len [13, 14, 15] l
      have hm := List.length_pos_iff.2 e
      have ih := rulesF_count k ((skipS [13, 14, 15] l).drop (firstS (skipS [13, 14, 15] l) [23] + 1))
      rw [if_neg e]
      rw [List.length_drop] at ih
      split
      · exact Nat.zero_le _
      · rw [List.length_cons]; omega
theorem kids45 {W : World} {ok : Nat → Prop} {A : Option Addr} {n : Nat} {l : List S45} (h : Kd.F k45 W ok A n l) (i : Nat) (hi : i < n) : ∃ ad A5 c5, A = some ad ∧ W.cell? ⟨(ad.add (i * 6)).block, (ad.add (i * 6)).off + 5, none⟩ = some (.slice A5 (rd_T45 l i).f1.length c5) ∧ (rd_T45 l i).f1.length ≤ c5 ∧ Kd.F k45 W ok A5 (rd_T45 l i).f1.length (rd_T45 l i).f1 ∧ ok (ad.add (i * 6)).block := by
  obtain ⟨ad, c, rfl, _, hK, hc0, hok⟩ := Kd.F_get h z45 i (by omega) (by omega)
  rw [Int.toNat_natCast] at hK hc0
  have hc : ∀ j u, c[j]? = some u → W.cell? (ad.add (i * 6 + j)) = some u := hc0
  obtain ⟨A5, c5, rfl, l5, g5⟩ := k45_openF hK
  have e : rd_T45 l (i : Int) = l.getD i z45 := by unfold rd_T45; rw [Int.toNat_natCast]
  rw [e]
  exact ⟨ad, A5, c5, rfl, by rw [← add_field _ _ 5 (by omega)]; exact hc 5 _ rfl, l5, g5, (show (ad.add (i * 6)).block = ad.block by (unfold Addr.add; split <;> rfl)) ▸ hok (by decide)⟩
theorem fk36 {W : World} {ok : Nat → Prop} {l0 l1 : List S45} {A0 A1 : Option Addr} {c0 c1 n : Nat} (hn : l0.length = n) (h0 : n ≤ c0) (g0 : Kd.F k45 W ok A0 n l0) (h1 : l1.length ≤ c1) (g1 : Kd.F k45 W ok A1 l1.length l1) : Kd.FK k36 W ok (⟨l0, l1⟩ : S36) [.slice A0 n c0, .slice A1 l1.length c1] := by
  subst hn
  exact k36_mkF W ok ⟨l0, l1⟩ h0 g0 h1 g1
set_option maxHeartbeats 2000000 in
set_option maxRecDepth 100000 in
theorem rules_calls (P : Nat → Prop) (A : Option Addr) (c : Nat) (l : List S45) (w : World) (hl : Kd.F k45 w P A l.length l) (hc : l.length ≤ c) (hP : ∀ k, P k → k < w.heap.size) (hs : l.length * 72 ≤ 140737488351232) :
    Calls Try.prog 15 #[.slice A l.length c] w fun e w' => ∃ v, e = .returned v ∧ Kd.N k36 36 w' w.heap.size (okN P w) v (rulesS l) ∧ Below w.heap.size w w' := by
  have hu43 := Try.underlying43
  have hu45 := Try.underlying45
  have hu36 := Try.underlying36
  have HL := Aside0.mk hl
  have HC := Aside0.mk hc
  have HPP := Aside0.mk hP
  have HS := Aside0.mk hs
  clear hl hc hP hs
  go_enter Try.func15, Try.ntmps15
  go_wp2_with (go_at_call 33; refine (skip_at P A c l _ [13, 14, 15] 3 _ (Kd.F_alloc HL.out _) HC.out HS.out (by decide) rfl (blk_new w _)).mono ?_; rintro e w1 ⟨A2, c2, rfl, hc2, hF2, hb1⟩)
  have HF2 := Aside0.mk hF2
  have HC2 := Aside0.mk hc2
  have HB1 := Aside0.mk (below_then (below_alloc (Below.refl w.heap.size w) _) (by simp) hb1)
  clear hF2 hc2 hb1
  go_loopg [0, 3] (skipS [13, 14, 15] l).length (fun gg s0 s3 wr => ∃ (l' : List S45) (B : Option Addr) (d : Nat) (acc : List S36) (K : Nat), s0 = .slice B (skipS [13, 14, 15] l').length d ∧ Aside0 ((skipS [13, 14, 15] l').length ≤ d) ∧ (skipS [13, 14, 15] l').length ≤ gg ∧ Aside0 (l'.length ≤ l.length) ∧ Aside0 (Kd.F k45 wr P B (skipS [13, 14, 15] l').length (skipS [13, 14, 15] l')) ∧ Aside0 (Kd.N k36 36 wr w.heap.size (okN P w) s3 acc) ∧ Aside0 (l'.length < K ∧ acc ++ rulesF K l' = rulesS l) ∧ Aside0 (Below w.heap.size w wr))
  case atStart => exact ⟨l, A2, c2, [], l.length + 1, rfl, HC2, Nat.le_refl _, ⟨Nat.le_refl _⟩, HF2, ⟨Kd.N_nil _ _ _ _ _⟩, ⟨Nat.lt_succ_self _, rfl⟩, HB1⟩
  case round =>
    clear HF2 HC2 HB1
    obtain ⟨l', B, d, acc, K, rfl, HD, hg, HM, HF, HN, HV, HB⟩ := hrel
    have hsl := skipS_len [13, 14, 15] l'
    have hml : (skipS [13, 14, 15] l').length * 72 ≤ 140737488351232 := by have := HS.out; have := HM.out; omega
    have hK : ∃ K', K = K' + 1 := ⟨K - 1, by have := HV.out.1; omega⟩
    obtain ⟨K', rfl⟩ := hK
    by_cases hpos : 0 < (skipS [13, 14, 15] l').length
    · have hne : skipS [13, 14, 15] l' ≠ [] := List.length_pos_iff.1 hpos
      have hfl := firstS_le (skipS [13, 14, 15] l') [23]
      have hval := HV.out.2
      rw [rulesF, if_neg hne] at hval
      have HK := Aside0.mk HV.out.1
      clear HV hne
      generalize skipS [13, 14, 15] l' = m at *
      generalize hi : firstS m [23] = i at *
      have HI := Aside0.mk hi
      have HMS := Aside0.mk hml
      have HSL := Aside0.mk hsl
      have hacc : Aside0 (acc.length ≤ l.length) := ⟨by
        have h1 := congrArg List.length hval
        have h2 := rulesF_count (l.length + 1) l
        rw [List.length_append] at h1
        unfold rulesS at h1
        omega⟩
      have hlen : m.length ≤ 4611686018427387904 := by omega
      have hmz : (0 : Int) < (m.length : Int) := by omega
      have HX : Aside0 (∀ W, Kd.C k45 W B m.length m → ∀ g, W.heap[g]? = some (.cells #[.int .i64 23] 3 (0, 0)) → Calls Try.prog 34 #[.slice B m.length d, .slice (some ⟨g, 0, none⟩) 1 1] W fun e w' => e = .returned (.int .i64 (i : Nat)) ∧ Below W.heap.size W w') := ⟨fun W hC g hb => by
        have := skip_first m B d g W hC HD.out HMS.out [23] (by decide) 1 rfl hb
        rw [HI.out] at this
        exact this⟩
      by_cases hil : i = m.length
      · rw [if_pos hil, List.append_nil] at hval
        have HVAL := Aside0.mk hval
        subst hil
        clear hval hi hml hsl
        go_wp2_with fail
        refine (HX.out _ (Kd.C_alloc (Kd.F_now HF.out) _) _ (blk_new _ _)).mono ?_
        rintro e W1 ⟨rfl, hb1⟩
        have HB1 := Aside0.mk (below_then (below_alloc (Below.refl wr.heap.size wr) _) (by simp) hb1)
        clear hb1
        go_wp2
        go_ret
        exact ⟨_, rfl, by rw [← HVAL.out]; exact Kd.N_below HN.out HB1.out, below_step HB.out HB1.out⟩
      · rw [if_neg hil] at hval
        have hlt : i < m.length := by omega
        obtain ⟨hcut, hF3, hC3⟩ := Kd.F_upto3 25 45 .i64 Try.underlying25 info45 HF.out HD.out i hfl
        obtain ⟨A4, c4, hcut4, hF4, hC4⟩ := Kd.F_rest 25 45 .i64 Try.underlying25 info45 HF.out HD.out (i + 1) hlt
        rw [show (((i + 1 : Nat) : Int)) = (i : Int) + 1 by omega] at hcut4
        have htl : (m.take i).length = i := by rw [List.length_take]; omega
        have hdl : (m.drop (i + 1)).length = m.length - (i + 1) := List.length_drop ..
        have HF3 := Aside0.mk hF3
        have HC3 := Aside0.mk hC3
        have HF4 := Aside0.mk hF4
        have HC4 := Aside0.mk hC4
        have HTL := Aside0.mk htl
        have HDL := Aside0.mk hdl
        have HVAL := Aside0.mk hval
        have hltz : (i : Int) < (m.length : Int) := by omega
        have hnez : ¬ (i : Int) = (m.length : Int) := by omega
        have hi0 : (0 : Int) ≤ (i : Int) := by omega
        clear hF3 hC3 hF4 hC4 htl hdl hi hml hsl hval
        go_wp2_with fail
        refine (HX.out _ (Kd.C_alloc (Kd.F_now HF.out) _) _ (blk_new _ _)).mono ?_
        rintro e W1 ⟨rfl, hb1⟩
        have HB1 := Aside0.mk (below_then (below_alloc (Below.refl wr.heap.size wr) _) (by simp) hb1)
        clear hb1
        obtain ⟨ad, A5, c5, rfl, h5, hl5, hi5, hpk⟩ := kids45 (Kd.F_below HF.out HB1.out) i hlt
        generalize hxx : rd_T45 m (i : Nat) = x at h5 hi5 hl5
        rw [hxx] at HVAL
        have HCLN := Aside0.mk (fun W (hW : Below W1.heap.size W1 W) => clone_calls P (some ad) i i (m.take i) W (Kd.F_below (Kd.F_below HF3.out HB1.out) hW) (fun k hk => Nat.lt_of_lt_of_le (HPP.out k hk) (Nat.le_trans HB.out.size (Nat.le_trans HB1.out.size hW.size))) (by rw [HTL.out]; have := HMS.out; omega) HTL.out)
        have HBW1 := Aside0.mk (below_step HB.out HB1.out)
        have HN1 := Aside0.mk (Kd.N_below HN.out HB1.out)
        have HKI := Aside0.mk hi5
        have HKL := Aside0.mk hl5
        have HOB := Aside0.mk (fun k hk => Nat.lt_of_lt_of_le (Kd.N_lt HN.out k hk) HB1.out.size)
        have HOW := Aside0.mk (Kd.N_base HN.out)
        have HCK := Aside0.mk (show ∀ k, okN P W1 k → okN P w k ∧ some k ≠ u3.ownBlock from fun k hk => by
          rcases hk with hk | hk
          · exact ⟨.inl hk, fun e => by have h1 := HOW.out k e.symm; have h2 := HPP.out k hk; omega⟩
          · exact ⟨.inr (Nat.le_trans HBW1.out.size hk), fun e => by have h1 := HOB.out k e.symm; omega⟩)
        have HNB := Aside0.mk (show some (ad.add (i * 6)).block ≠ u3.ownBlock from fun e => by have h1 := HOW.out _ e.symm; have h2 := HPP.out _ hpk; omega)
        have HLB := Aside0.mk (show (ad.add (i * 6)).block < W1.heap.size by have h2 := HPP.out _ hpk; have := HBW1.out.size; omega)
        clear hl5 hi5 hxx hpk
        go_wp2_with fail
        go_region_held3 (fun w' => w'.cell? ⟨(ad.add (i * 6)).block, (ad.add (i * 6)).off + 5, none⟩ = some (.slice A5 x.f1.length c5)) (first | go_keep | exact pw_cell_below hb4 (by assumption) | exact World.grownBy.cell hg6 ((hb4.cell (p := ⟨(ad.add (i * 6)).block, (ad.add (i * 6)).off + 5, none⟩) HLB.out).trans h5) HNB.out) (first | (go_at_call 35; refine (HCLN.out _ (by repeat (first | exact Below.refl _ _ | apply below_drew1 | apply pw_below_drewN))).mono ?_; rintro e W4 ⟨v4, rfl, hN4, hb4⟩; obtain ⟨A6, c6, hv⟩ := Kd.N_slice hN4; rw [HTL.out] at hv; subst hv) | (have q_ := hN4; refine Kd.N_append_step k36 (w0 := w) w.heap.size (by rfl) (.tmp 21) (.tmp 33) 29 36 (.agg #[.slice none 0 0, .slice none 0 0]) 48 (by rfl) Try.underlying29 info36 rfl (by decide) (by omega) u3 acc (⟨m.take i, x.f1⟩ : S36) [.slice A6 i c6, .slice A5 x.f1.length c5] (okN P w) (fun k => okN P w k ∧ some k ≠ u3.ownBlock) (by rfl) (by first | (go_simp; done) | (go_simp; rfl)) (fk36 HTL.out (Kd.N_reads' hN4).2.1 (by repeat (first | exact (Kd.F_mono (Kd.N_F hN4) HCK.out) | apply Kd.F_drew)) HKL.out (by repeat (first | exact (Kd.F_mono (Kd.F_step HKI.out (fun k _ hlt => hb4.block k hlt)) (fun k hk => HCK.out k (.inl hk))) | apply Kd.F_drew))) (fun _ hk => hk) (fun k hk => .inr (Nat.le_trans HBW1.out.size (Nat.le_trans hb4.size hk))) (by repeat (first | exact (Kd.N_step HN1.out (fun k _ hlt => hb4.block k hlt)) | apply Kd.N_drew)) (by repeat (first | exact below_then HBW1.out HBW1.out.size (show Below W1.heap.size W1 W4 from ⟨hb4.os, hb4.tape, hb4.output, hb4.size, hb4.block⟩) | apply below_drew1)) (Nat.le_trans HBW1.out.size hb4.size) (by have := hacc.out; have := HS.out; omega) ?_; intro v1 W6 ho hb6 hg6 hat))
        have HB4 := Aside0.mk (show Below wr.heap.size wr W4 from below_step HB1.out (show Below W1.heap.size W1 W4 from ⟨hb4.os, hb4.tape, hb4.output, hb4.size, hb4.block⟩))
        have HF6 := Aside0.mk (Kd.F_grown (Kd.F_below HF4.out HB4.out) hg6 (fun k hk e => by have h1 := HOW.out k e.symm; have h2 := HPP.out k hk; omega))
        have HO := Aside0.mk ho
        have HB6 := Aside0.mk hb6
        clear hb4 hg6 ho hb6 hat hN4
        go_wp2_with fail
        refine (skip_at3 P A4 c4 (m.length - (i + 1)) (m.drop (i + 1)) W6 [13, 14, 15] 3 HF6.out HC4.out (by rw [HDL.out]; have := HMS.out; omega) (by decide) HDL.out rfl).mono ?_
        rintro e W7 ⟨A7, c7, rfl, hc7, hF7, hb7⟩
        have hsm := skipS_len [13, 14, 15] (m.drop (i + 1))
        rw [HDL.out] at hsm
        have HO7 := Aside0.mk (Kd.N_below HO.out hb7)
        have HB7 := Aside0.mk (below_step HB6.out hb7)
        clear hb7
        go_wp2
        go_roundg (skipS [13, 14, 15] (m.drop (i + 1))).length
        case measure => omega
        case rel => exact ⟨m.drop (i + 1), A7, c7, acc ++ [⟨m.take i, x.f1⟩], K', rfl, ⟨hc7⟩, Nat.le_refl _, ⟨by rw [HDL.out]; have := HM.out; have := HSL.out; omega⟩, ⟨hF7⟩, HO7, ⟨by rw [HDL.out]; have := HK.out; have := HSL.out; omega, by rw [List.append_assoc]; exact HVAL.out⟩, HB7⟩
    · have hz : skipS [13, 14, 15] l' = [] := List.eq_nil_of_length_eq_zero (by omega)
      have hval := HV.out.2
      rw [rulesF, if_pos hz, List.append_nil] at hval
      have HVAL := Aside0.mk hval
      rw [hz]
      clear hpos hval hz hg hml hsl
      go_wp2
      go_ret
      exact ⟨_, rfl, by rw [← HVAL.out]; exact HN.out, HB.out⟩
def parse_Rules.f (l : List S45) : Option (List S36) := if l.length * 72 ≤ 140737488351232 then some (rulesS l) else none
theorem parse_Rules.calls (P0_ : Nat → Prop) (A0 : Option Addr) (c0 : Nat) (l0 : List (S45)) (r : List (S36)) (w : World) (hs0 : Kd.V k45 45 w w.heap.size (fun k_ => P0_ k_) (.slice A0 l0.length c0) l0) (h : parse_Rules.f l0 = some r) :
    Calls Try.prog 15 #[.slice A0 l0.length c0] w fun e w' => ∃ v0_ : Value, e = .returned (v0_) ∧ Kd.N k36 36 w' w.heap.size (fun k_ => (P0_ k_ ∨ w.heap.size ≤ k_)) v0_ r ∧ Below w.heap.size w w' := by
  unfold parse_Rules.f at h
  split at h
  · rename_i hc
    obtain rfl := Option.some.inj h
    obtain ⟨_, hlc, hF⟩ := Kd.V_at (Kd.V_bound hs0)
    refine (rules_calls (fun k_ => P0_ k_ ∧ k_ < w.heap.size) A0 c0 l0 w hF hlc (fun k hk => hk.2) hc).mono ?_
    rintro e w' ⟨v, rfl, hN, hb⟩
    exact ⟨v, rfl, Kd.N_mono hN (fun k hk => hk.elim (fun h => .inl h.1) .inr), hb⟩
  · cases h
end Go.Proofs.Ythaaajpmiofodaa.P
end
section
set_option linter.unusedVariables false
set_option linter.unusedSimpArgs false
namespace Go.Proofs.Ythaaajpmiofodaa.P
open Go.RowKit Go.Proofs.YthaaajpmiofodaaW.PrintWords Go.Proofs.YthaaajpmiofodaaW.PrintLast Go.Proofs.YthaaajpmiofodaaW.PrintMore
attribute [local go_sem] max2_int min2_int max_two min_two max_three min_three max_four min_four
set_option linter.unusedVariables false
set_option linter.unusedSimpArgs false
def gouachelaw03_lives.f (k : Nat)  : Option (Bool) := (gouachelaw03_values.f k (⟨#[97, 32, 98, 123, 99, 58, 100, 33, 105, 109, 112, 111, 114, 116, 97, 110, 116, 59, 101, 125, 32, 64, 120, 32, 121, 59, 32, 102, 123, 125]⟩ : ByteArray)).bind fun t101 => ((parse_Rules.f t101).bind fun t104 => (if (t104.length : Int) = 2 then (if 0 < (t104.length : Int) then ((parse_Decls.f ((rd_T36 t104 0).f1)).bind fun t108 => (if (t108.length : Int) = 1 then (if 0 < (t108.length : Int) then (if ((rd_T47 t108 0).f0).toList = ([99] : List UInt8) then (if (rd_T47 t108 0).f2 = true then (if (((rd_T47 t108 0).f1).length : Int) = 1 then (if 0 < (((rd_T47 t108 0).f1).length : Int) then (some (((rd_T45 ((rd_T47 t108 0).f1) 0).f0.f1).toList == ([100] : List UInt8))) else (none)) else (some false)) else (some false)) else (some false)) else (none)) else (some false))) else (none)) else (some false)))
set_option maxHeartbeats 8000000 in
set_option maxRecDepth 100000 in
theorem gouachelaw03_lives.calls (k : Nat)  (r : Bool) (w : World) (h : gouachelaw03_lives.f k  = some r) :
    Calls Try.prog 10 #[] w fun e w' => e = .returned (.bool r) ∧ Below w.heap.size w w' := by
  have HB := Aside0.mk (Below.refl w.heap.size w)
  have H : ((gouachelaw03_values.f k (⟨#[97, 32, 98, 123, 99, 58, 100, 33, 105, 109, 112, 111, 114, 116, 97, 110, 116, 59, 101, 125, 32, 64, 120, 32, 121, 59, 32, 102, 123, 125]⟩ : ByteArray)).bind fun t101 => ((parse_Rules.f t101).bind fun t104 => (if (t104.length : Int) = 2 then (if 0 < (t104.length : Int) then ((parse_Decls.f ((rd_T36 t104 0).f1)).bind fun t108 => (if (t108.length : Int) = 1 then (if 0 < (t108.length : Int) then (if ((rd_T47 t108 0).f0).toList = ([99] : List UInt8) then (if (rd_T47 t108 0).f2 = true then (if (((rd_T47 t108 0).f1).length : Int) = 1 then (if 0 < (((rd_T47 t108 0).f1).length : Int) then (some (((rd_T45 ((rd_T47 t108 0).f1) 0).f0.f1).toList == ([100] : List UInt8))) else (none)) else (some false)) else (some false)) else (some false)) else (none)) else (some false))) else (none)) else (some false)))) = some r := h
  clear h
  replace H := Option.bind_eq_some_iff.mp H
  obtain ⟨t101, A10, H⟩ := H
  replace H : ((parse_Rules.f t101).bind fun t104 => (if (t104.length : Int) = 2 then (if 0 < (t104.length : Int) then ((parse_Decls.f ((rd_T36 t104 0).f1)).bind fun t108 => (if (t108.length : Int) = 1 then (if 0 < (t108.length : Int) then (if ((rd_T47 t108 0).f0).toList = ([99] : List UInt8) then (if (rd_T47 t108 0).f2 = true then (if (((rd_T47 t108 0).f1).length : Int) = 1 then (if 0 < (((rd_T47 t108 0).f1).length : Int) then (some (((rd_T45 ((rd_T47 t108 0).f1) 0).f0.f1).toList == ([100] : List UInt8))) else (none)) else (some false)) else (some false)) else (some false)) else (none)) else (some false))) else (none)) else (some false))) = some r := H
  have A1 := Aside0.mk A10
  clear A10
  replace H := Option.bind_eq_some_iff.mp H
  obtain ⟨t104, A20, H⟩ := H
  replace H : (if (t104.length : Int) = 2 then (if 0 < (t104.length : Int) then ((parse_Decls.f ((rd_T36 t104 0).f1)).bind fun t108 => (if (t108.length : Int) = 1 then (if 0 < (t108.length : Int) then (if ((rd_T47 t108 0).f0).toList = ([99] : List UInt8) then (if (rd_T47 t108 0).f2 = true then (if (((rd_T47 t108 0).f1).length : Int) = 1 then (if 0 < (((rd_T47 t108 0).f1).length : Int) then (some (((rd_T45 ((rd_T47 t108 0).f1) 0).f0.f1).toList == ([100] : List UInt8))) else (none)) else (some false)) else (some false)) else (some false)) else (none)) else (some false))) else (none)) else (some false)) = some r := H
  have A2 := Aside0.mk A20
  clear A20
  by_cases c3 : (t104.length : Int) = 2
  · rw [if_pos c3] at H
    have c3b0 : ((t104.length : Int) == 2) = true := beq_iff_eq.mpr c3
    have c3b1 : ((t104.length : Int) != 2) = false := bne_eq_false_iff_eq.mpr c3
    clear c3
    by_cases c4 : 0 < (t104.length : Int)
    · rw [if_pos c4] at H
      have c4b0 : decide (0 < (t104.length : Int)) = true := decide_eq_true c4
      have c4b1 : decide (0 < t104.length) = true := decide_eq_true (by omega)
      clear c4
      replace H := Option.bind_eq_some_iff.mp H
      obtain ⟨t108, A50, H⟩ := H
      replace H : (if (t108.length : Int) = 1 then (if 0 < (t108.length : Int) then (if ((rd_T47 t108 0).f0).toList = ([99] : List UInt8) then (if (rd_T47 t108 0).f2 = true then (if (((rd_T47 t108 0).f1).length : Int) = 1 then (if 0 < (((rd_T47 t108 0).f1).length : Int) then (some (((rd_T45 ((rd_T47 t108 0).f1) 0).f0.f1).toList == ([100] : List UInt8))) else (none)) else (some false)) else (some false)) else (some false)) else (none)) else (some false)) = some r := H
      have A5 := Aside0.mk A50
      clear A50
      by_cases c6 : (t108.length : Int) = 1
      · rw [if_pos c6] at H
        have c6b0 : ((t108.length : Int) == 1) = true := beq_iff_eq.mpr c6
        have c6b1 : ((t108.length : Int) != 1) = false := bne_eq_false_iff_eq.mpr c6
        clear c6
        by_cases c7 : 0 < (t108.length : Int)
        · rw [if_pos c7] at H
          have c7b0 : decide (0 < (t108.length : Int)) = true := decide_eq_true c7
          have c7b1 : decide (0 < t108.length) = true := decide_eq_true (by omega)
          clear c7
          by_cases c8 : ((rd_T47 t108 0).f0).toList = ([99] : List UInt8)
          · rw [if_pos c8] at H
            have c8b0 : (((rd_T47 t108 0).f0).toList == ([99] : List UInt8)) = true := beq_iff_eq.mpr c8
            have c8b1 : (((rd_T47 t108 0).f0).toList != ([99] : List UInt8)) = false := bne_eq_false_iff_eq.mpr c8
            clear c8
            obtain ⟨bq9, hbq9⟩ : ∃ b_ : Bool, b_ = ((rd_T47 t108 0).f2) := ⟨_, rfl⟩
            replace H : (if bq9 = true then (if (((rd_T47 t108 0).f1).length : Int) = 1 then (if 0 < (((rd_T47 t108 0).f1).length : Int) then (some (((rd_T45 ((rd_T47 t108 0).f1) 0).f0.f1).toList == ([100] : List UInt8))) else (none)) else (some false)) else (some false)) = some r := by rw [← hbq9] at H; exact H
            have Nbq9 := Aside0.mk hbq9
            clear hbq9
            by_cases c10 : bq9 = true
            · subst c10
              have H1 : (if (((rd_T47 t108 0).f1).length : Int) = 1 then (if 0 < (((rd_T47 t108 0).f1).length : Int) then (some (((rd_T45 ((rd_T47 t108 0).f1) 0).f0.f1).toList == ([100] : List UInt8))) else (none)) else (some false)) = some r := by rw [if_pos rfl] at H; exact H
              clear H
              have H := H1
              clear H1
              by_cases c11 : (((rd_T47 t108 0).f1).length : Int) = 1
              · rw [if_pos c11] at H
                have c11b0 : ((((rd_T47 t108 0).f1).length : Int) == 1) = true := beq_iff_eq.mpr c11
                have c11b1 : ((((rd_T47 t108 0).f1).length : Int) != 1) = false := bne_eq_false_iff_eq.mpr c11
                clear c11
                by_cases c12 : 0 < (((rd_T47 t108 0).f1).length : Int)
                · rw [if_pos c12] at H
                  have c12b0 : decide (0 < (((rd_T47 t108 0).f1).length : Int)) = true := decide_eq_true c12
                  have c12b1 : decide (0 < ((rd_T47 t108 0).f1).length) = true := decide_eq_true (by omega)
                  clear c12
                  obtain rfl := Option.some.inj H
                  go_enter Try.func10, Try.ntmps10
                  go_wp2_with (first | ((with_reducible refine gate_callee (f := 28) rfl ?_); refine goesL_ (some 3) rfl rfl Try.func28 (by kernel_rfl) rfl #[.string (⟨#[97, 32, 98, 123, 99, 58, 100, 33, 105, 109, 112, 111, 114, 116, 97, 110, 116, 59, 101, 125, 32, 64, 120, 32, 121, 59, 32, 102, 123, 125]⟩ : ByteArray)] rfl (by (try simp only [List.map_toArray, List.map_cons, List.map_nil]); first | done | rfl | (simp only [List.length_drop, List.length_take]; rfl)) ?_; (with_reducible refine (gouachelaw03_values.calls k (⟨#[97, 32, 98, 123, 99, 58, 100, 33, 105, 109, 112, 111, 114, 116, 97, 110, 116, 59, 101, 125, 32, 64, 120, 32, 121, 59, 32, 102, 123, 125]⟩ : ByteArray) t101 _ A1.out).mono ?_); rintro e w13 ⟨v102, rfl, ho0, hb⟩; refine ⟨_, rfl, ?_⟩; have n0_ := Aside0.mk (Kd.N_lower (Kd.N_mono (ok' := fun k_ => True) (Kd.R_N (Kd.R_bound ho0)) (fun k_ hk_ => trivial)) (below_size (by repeat (first | (with_reducible first | exact HB.out | apply below_alloc | apply pw_below_drewN | apply below_drew1) | exact HB.out)))); have n1_ := Aside0.mk (below_step (by repeat (first | (with_reducible first | exact HB.out | apply below_alloc | apply pw_below_drewN | apply below_drew1) | exact HB.out)) hb); clear HB; have HO103 := n0_; have HB := n1_; clear n0_ n1_; (try clear hb); (try clear hb2); (try clear hk); (try clear hi); (try clear ho0); obtain ⟨Ao14, co14, eo14⟩ := Kd.N_slice HO103.out; subst eo14) | ((with_reducible refine gate_callee (f := 15) rfl ?_); refine goesL_ (some 4) rfl rfl Try.func15 (by kernel_rfl) rfl #[.slice Ao14 t101.length co14] rfl (by (try simp only [List.map_toArray, List.map_cons, List.map_nil]); first | done | rfl | (simp only [List.length_drop, List.length_take]; rfl)) ?_; (with_reducible refine (parse_Rules.calls (fun k_ => True) _ _ t101 t104 _ ?side1 A2.out).mono ?_); (case side1 => exact Kd.N_V (HO103.out)); rintro e w15 ⟨v105, rfl, ho0, hb⟩; refine ⟨_, rfl, ?_⟩; have n0_ := Aside0.mk (Kd.N_elder' (by (with_reducible repeat (first | apply Kd.N_alloc | apply Kd.N_drewN | apply Kd.N_drew)); exact HO103.out) (Kd.N_base ho0) hb); have n1_ := Aside0.mk (Kd.N_lower (Kd.N_mono (ok' := fun k_ => True) ho0 (fun k_ hk_ => trivial)) (below_size (by repeat (first | (with_reducible first | exact HB.out | apply below_alloc | apply pw_below_drewN | apply below_drew1) | exact HB.out)))); have n2_ := Aside0.mk (below_step (by repeat (first | (with_reducible first | exact HB.out | apply below_alloc | apply pw_below_drewN | apply below_drew1) | exact HB.out)) hb); clear HO103; clear HB; have HO103 := n0_; have HO106 := n1_; have HB := n2_; clear n0_ n1_ n2_; (try clear hb); (try clear hb2); (try clear hk); (try clear hi); (try clear ho0); obtain ⟨Ao16, co16, eo16⟩ := Kd.N_slice HO106.out; subst eo16; have p107 : 0 ≤ (0 : Int) := (by omega); have q107 : 0 < (t104.length : Int) := of_decide_eq_true (by first | (with_reducible assumption) | assumption); obtain ⟨ad107, A107_0, c107_0, A107_1, c107_1, e107, hx107_0, hx107_1, hl107_0, hi107_0, hl107_1, hi107_1⟩ := at_T36 (Kd.N_reads' HO106.out).2.2 0 p107 q107; cases e107; obtain ⟨ce107, hce107, hMe107, hcc107⟩ := Kd.N_get HO106.out z36 0 p107 (by first | exact q107 | exact of_decide_eq_true (by first | (with_reducible assumption) | assumption) | (have e_ := (Kd.N_reads' HO106.out).1; omega)); obtain ⟨ua107_0, uc107_0, ua107_1, uc107_1, rfl, ul107_0, ge107_0, ul107_1, ge107_1⟩ := k36_openF hMe107; have hv107_0 := hcc107 0 _ rfl; rw [Nat.add_zero] at hv107_0; replace hv107_0 := Option.some.inj (hv107_0.symm.trans hx107_0); injection hv107_0 with hva_ hvn_ hvc_; rw [hva_] at ge107_0; rw [hvc_] at ul107_0; have HL107_0 := Aside0.mk (show Kd.V k45 45 _ w.heap.size _ _ ((rd_T36 t104 0).f0) from Kd.V_mk ul107_0 ge107_0); clear hva_ hvn_ hvc_ ge107_0 ul107_0; have hv107_1 := hcc107 1 _ rfl; rw [add_field _ _ 1 (by omega)] at hv107_1; replace hv107_1 := Option.some.inj (hv107_1.symm.trans hx107_1); injection hv107_1 with hva_ hvn_ hvc_; rw [hva_] at ge107_1; rw [hvc_] at ul107_1; have HL107_1 := Aside0.mk (show Kd.V k45 45 _ w.heap.size _ _ ((rd_T36 t104 0).f1) from Kd.V_mk ul107_1 ge107_1); clear hva_ hvn_ hvc_ ge107_1 ul107_1; clear hcc107 hce107; have qi107 : (0 < t104.length) = True := eq_true (by omega); (try rw [show ((0 : Int)).toNat = 0 from rfl] at hx107_0); (try rw [show 0 * 2 = 0 from rfl] at hx107_0); (try rw [Addr.add_zero'] at hx107_0); (try rw [show ((0 : Int)).toNat = 0 from rfl] at hx107_1); (try rw [show 0 * 2 = 0 from rfl] at hx107_1); (try rw [Addr.add_zero'] at hx107_1); have HR107_0 := Aside0.mk hi107_0; have HC107_0 := Aside0.mk hl107_0; clear hi107_0 hl107_0; have HR107_1 := Aside0.mk hi107_1; have HC107_1 := Aside0.mk hl107_1; clear hi107_1 hl107_1; replace p107 := eq_true p107; replace q107 := eq_true q107) | ((with_reducible refine gate_callee (f := 21) rfl ?_); refine goesL_ (some 12) rfl rfl Try.func21 (by kernel_rfl) rfl #[.slice A107_1 ((rd_T36 t104 0).f1).length c107_1] rfl (by (try simp only [List.map_toArray, List.map_cons, List.map_nil]); first | done | rfl | (simp only [List.length_drop, List.length_take]; rfl)) ?_; (with_reducible refine (parse_Decls.calls (fun k_ => (True ∧ some k_ ≠ (.slice (some ad107) t104.length co16 : Value).ownBlock)) _ _ ((rd_T36 t104 0).f1) t108 _ ?side1 A5.out).mono ?_); (case side1 => exact HL107_1.out); rintro e w17 ⟨v109, rfl, ho0, hb⟩; refine ⟨_, rfl, ?_⟩; have n0_ := Aside0.mk (Kd.N_elder' (by (with_reducible repeat (first | apply Kd.N_alloc | apply Kd.N_drewN | apply Kd.N_drew)); exact HO103.out) (Kd.N_base ho0) hb); have n1_ := Aside0.mk (Kd.N_elder' (by (with_reducible repeat (first | apply Kd.N_alloc | apply Kd.N_drewN | apply Kd.N_drew)); exact HO106.out) (Kd.N_base ho0) hb); have n2_ := Aside0.mk (Kd.V_elder' (by (with_reducible repeat (first | apply Kd.V_alloc | apply Kd.V_drewN | apply Kd.V_drew)); exact HL107_0.out) (Kd.N_base ho0) hb); have n3_ := Aside0.mk (Kd.V_elder' (by (with_reducible repeat (first | apply Kd.V_alloc | apply Kd.V_drewN | apply Kd.V_drew)); exact HL107_1.out) (Kd.N_base ho0) hb); have n4_ := Aside0.mk (Kd.N_lower (Kd.N_mono (ok' := fun k_ => some k_ ≠ (.slice (some ad107) t104.length co16 : Value).ownBlock) ho0 (fun k_ hk_ => Or.elim hk_ (fun hs_ => hs_.2) (fun hn_ => (Kd.fresh' (Kd.N_lt (by (with_reducible repeat (first | apply Kd.N_alloc | apply Kd.N_drewN | apply Kd.N_drew)); exact HO106.out)) k_ hn_)))) (below_size (by repeat (first | (with_reducible first | exact HB.out | apply below_alloc | apply pw_below_drewN | apply below_drew1) | exact HB.out)))); have n5_ := Aside0.mk (Kd.C_below (by repeat (first | (with_reducible exact HR107_0.out) | (with_reducible refine Kd.C_alloc ?_ _) | (with_reducible refine Kd.C_drewN ?_ _) | (with_reducible refine Kd.C_drew ?_) | exact HR107_0.out)) hb); have n6_ := Aside0.mk (Kd.C_below (by repeat (first | (with_reducible exact HR107_1.out) | (with_reducible refine Kd.C_alloc ?_ _) | (with_reducible refine Kd.C_drewN ?_ _) | (with_reducible refine Kd.C_drew ?_) | exact HR107_1.out)) hb); have n7_ := Aside0.mk (below_step (by repeat (first | (with_reducible first | exact HB.out | apply below_alloc | apply pw_below_drewN | apply below_drew1) | exact HB.out)) hb); clear HO103; clear HO106; clear HL107_0; clear HL107_1; clear HR107_0; clear HR107_1; clear HB; have HO103 := n0_; have HO106 := n1_; have HL107_0 := n2_; have HL107_1 := n3_; have HO110 := n4_; have HR107_0 := n5_; have HR107_1 := n6_; have HB := n7_; clear n0_ n1_ n2_ n3_ n4_ n5_ n6_ n7_; (try clear hb); (try clear hb2); (try clear hk); (try clear hi); (try clear ho0); obtain ⟨Ao18, co18, eo18⟩ := Kd.N_slice HO110.out; subst eo18; have p111 : 0 ≤ (0 : Int) := (by omega); have q111 : 0 < (t108.length : Int) := of_decide_eq_true (by first | (with_reducible assumption) | assumption); obtain ⟨ad111, A111_1, c111_1, e111, hx111_0, hx111_1, hx111_2, hl111_1, hi111_1⟩ := at_T47 (Kd.N_reads' HO110.out).2.2 0 p111 q111; (try rw [← Nbq9.out] at hx111_2); cases e111; obtain ⟨ce111, hce111, hMe111, hcc111⟩ := Kd.N_get HO110.out z47 0 p111 (by first | exact q111 | exact of_decide_eq_true (by first | (with_reducible assumption) | assumption) | (have e_ := (Kd.N_reads' HO110.out).1; omega)); obtain ⟨ua111_1, uc111_1, rfl, ul111_1, ge111_1⟩ := k47_openF hMe111; have hv111_1 := hcc111 1 _ rfl; rw [add_field _ _ 1 (by omega)] at hv111_1; replace hv111_1 := Option.some.inj (hv111_1.symm.trans hx111_1); injection hv111_1 with hva_ hvn_ hvc_; rw [hva_] at ge111_1; rw [hvc_] at ul111_1; have HL111_1 := Aside0.mk (show Kd.V k45 45 _ w.heap.size _ _ ((rd_T47 t108 0).f1) from Kd.V_mk ul111_1 ge111_1); clear hva_ hvn_ hvc_ ge111_1 ul111_1; clear hcc111 hce111; have qi111 : (0 < t108.length) = True := eq_true (by omega); (try rw [show ((0 : Int)).toNat = 0 from rfl] at hx111_0); (try rw [show 0 * 3 = 0 from rfl] at hx111_0); (try rw [Addr.add_zero'] at hx111_0); (try rw [show ((0 : Int)).toNat = 0 from rfl] at hx111_1); (try rw [show 0 * 3 = 0 from rfl] at hx111_1); (try rw [Addr.add_zero'] at hx111_1); (try rw [show ((0 : Int)).toNat = 0 from rfl] at hx111_2); (try rw [show 0 * 3 = 0 from rfl] at hx111_2); (try rw [Addr.add_zero'] at hx111_2); have HR111_1 := Aside0.mk hi111_1; have HC111_1 := Aside0.mk hl111_1; clear hi111_1 hl111_1; replace p111 := eq_true p111; replace q111 := eq_true q111; have p112 : 0 ≤ (0 : Int) := (by omega); have q112 : 0 < (t108.length : Int) := of_decide_eq_true (by first | (with_reducible assumption) | assumption); obtain ⟨ad112, A112_1, c112_1, e112, hx112_0, hx112_1, hx112_2, hl112_1, hi112_1⟩ := at_T47 (Kd.N_reads' HO110.out).2.2 0 p112 q112; (try rw [← Nbq9.out] at hx112_2); obtain rfl : ad111 = ad112 := (by injection e112); obtain ⟨ce112, hce112, hMe112, hcc112⟩ := Kd.N_get HO110.out z47 0 p112 (by first | exact q112 | exact of_decide_eq_true (by first | (with_reducible assumption) | assumption) | (have e_ := (Kd.N_reads' HO110.out).1; omega)); obtain ⟨ua112_1, uc112_1, rfl, ul112_1, ge112_1⟩ := k47_openF hMe112; have hv112_1 := hcc112 1 _ rfl; rw [add_field _ _ 1 (by omega)] at hv112_1; replace hv112_1 := Option.some.inj (hv112_1.symm.trans hx112_1); injection hv112_1 with hva_ hvn_ hvc_; rw [hva_] at ge112_1; rw [hvc_] at ul112_1; have HL112_1 := Aside0.mk (show Kd.V k45 45 _ w.heap.size _ _ ((rd_T47 t108 0).f1) from Kd.V_mk ul112_1 ge112_1); clear hva_ hvn_ hvc_ ge112_1 ul112_1; clear hcc112 hce112; have qi112 : (0 < t108.length) = True := eq_true (by omega); (try rw [show ((0 : Int)).toNat = 0 from rfl] at hx112_0); (try rw [show 0 * 3 = 0 from rfl] at hx112_0); (try rw [Addr.add_zero'] at hx112_0); (try rw [show ((0 : Int)).toNat = 0 from rfl] at hx112_1); (try rw [show 0 * 3 = 0 from rfl] at hx112_1); (try rw [Addr.add_zero'] at hx112_1); (try rw [show ((0 : Int)).toNat = 0 from rfl] at hx112_2); (try rw [show 0 * 3 = 0 from rfl] at hx112_2); (try rw [Addr.add_zero'] at hx112_2); have HR112_1 := Aside0.mk hi112_1; have HC112_1 := Aside0.mk hl112_1; clear hi112_1 hl112_1; replace p112 := eq_true p112; replace q112 := eq_true q112; have ea_ := Option.some.inj (hx111_1.symm.trans hx112_1); injection ea_ with ea_ en_ ec_; subst ea_; subst ec_; clear en_; have p113 : 0 ≤ (0 : Int) := (by omega); have q113 : 0 < (t108.length : Int) := of_decide_eq_true (by first | (with_reducible assumption) | assumption); obtain ⟨ad113, A113_1, c113_1, e113, hx113_0, hx113_1, hx113_2, hl113_1, hi113_1⟩ := at_T47 (Kd.N_reads' HO110.out).2.2 0 p113 q113; (try rw [← Nbq9.out] at hx113_2); obtain rfl : ad111 = ad113 := (by injection e113); obtain ⟨ce113, hce113, hMe113, hcc113⟩ := Kd.N_get HO110.out z47 0 p113 (by first | exact q113 | exact of_decide_eq_true (by first | (with_reducible assumption) | assumption) | (have e_ := (Kd.N_reads' HO110.out).1; omega)); obtain ⟨ua113_1, uc113_1, rfl, ul113_1, ge113_1⟩ := k47_openF hMe113; have hv113_1 := hcc113 1 _ rfl; rw [add_field _ _ 1 (by omega)] at hv113_1; replace hv113_1 := Option.some.inj (hv113_1.symm.trans hx113_1); injection hv113_1 with hva_ hvn_ hvc_; rw [hva_] at ge113_1; rw [hvc_] at ul113_1; have HL113_1 := Aside0.mk (show Kd.V k45 45 _ w.heap.size _ _ ((rd_T47 t108 0).f1) from Kd.V_mk ul113_1 ge113_1); clear hva_ hvn_ hvc_ ge113_1 ul113_1; clear hcc113 hce113; have qi113 : (0 < t108.length) = True := eq_true (by omega); (try rw [show ((0 : Int)).toNat = 0 from rfl] at hx113_0); (try rw [show 0 * 3 = 0 from rfl] at hx113_0); (try rw [Addr.add_zero'] at hx113_0); (try rw [show ((0 : Int)).toNat = 0 from rfl] at hx113_1); (try rw [show 0 * 3 = 0 from rfl] at hx113_1); (try rw [Addr.add_zero'] at hx113_1); (try rw [show ((0 : Int)).toNat = 0 from rfl] at hx113_2); (try rw [show 0 * 3 = 0 from rfl] at hx113_2); (try rw [Addr.add_zero'] at hx113_2); have HR113_1 := Aside0.mk hi113_1; have HC113_1 := Aside0.mk hl113_1; clear hi113_1 hl113_1; replace p113 := eq_true p113; replace q113 := eq_true q113; have ea_ := Option.some.inj (hx111_1.symm.trans hx113_1); injection ea_ with ea_ en_ ec_; subst ea_; subst ec_; clear en_; have p114 : 0 ≤ (0 : Int) := (by omega); have q114 : 0 < (t108.length : Int) := of_decide_eq_true (by first | (with_reducible assumption) | assumption); obtain ⟨ad114, A114_1, c114_1, e114, hx114_0, hx114_1, hx114_2, hl114_1, hi114_1⟩ := at_T47 (Kd.N_reads' HO110.out).2.2 0 p114 q114; (try rw [← Nbq9.out] at hx114_2); obtain rfl : ad111 = ad114 := (by injection e114); obtain ⟨ce114, hce114, hMe114, hcc114⟩ := Kd.N_get HO110.out z47 0 p114 (by first | exact q114 | exact of_decide_eq_true (by first | (with_reducible assumption) | assumption) | (have e_ := (Kd.N_reads' HO110.out).1; omega)); obtain ⟨ua114_1, uc114_1, rfl, ul114_1, ge114_1⟩ := k47_openF hMe114; have hv114_1 := hcc114 1 _ rfl; rw [add_field _ _ 1 (by omega)] at hv114_1; replace hv114_1 := Option.some.inj (hv114_1.symm.trans hx114_1); injection hv114_1 with hva_ hvn_ hvc_; rw [hva_] at ge114_1; rw [hvc_] at ul114_1; have HL114_1 := Aside0.mk (show Kd.V k45 45 _ w.heap.size _ _ ((rd_T47 t108 0).f1) from Kd.V_mk ul114_1 ge114_1); clear hva_ hvn_ hvc_ ge114_1 ul114_1; clear hcc114 hce114; have qi114 : (0 < t108.length) = True := eq_true (by omega); (try rw [show ((0 : Int)).toNat = 0 from rfl] at hx114_0); (try rw [show 0 * 3 = 0 from rfl] at hx114_0); (try rw [Addr.add_zero'] at hx114_0); (try rw [show ((0 : Int)).toNat = 0 from rfl] at hx114_1); (try rw [show 0 * 3 = 0 from rfl] at hx114_1); (try rw [Addr.add_zero'] at hx114_1); (try rw [show ((0 : Int)).toNat = 0 from rfl] at hx114_2); (try rw [show 0 * 3 = 0 from rfl] at hx114_2); (try rw [Addr.add_zero'] at hx114_2); have HR114_1 := Aside0.mk hi114_1; have HC114_1 := Aside0.mk hl114_1; clear hi114_1 hl114_1; replace p114 := eq_true p114; replace q114 := eq_true q114; have ea_ := Option.some.inj (hx111_1.symm.trans hx114_1); injection ea_ with ea_ en_ ec_; subst ea_; subst ec_; clear en_; have p115 : 0 ≤ (0 : Int) := (by omega); have q115 : 0 < (((rd_T47 t108 0).f1).length : Int) := of_decide_eq_true (by first | (with_reducible assumption) | assumption); obtain ⟨ad115, A115_5, c115_5, e115, hx115_0, hx115_1, hx115_2, hx115_3, hx115_4, hx115_5, hl115_5, hi115_5⟩ := at_T45 (by repeat (first | (with_reducible exact HR114_1.out) | (with_reducible refine Kd.C_alloc ?_ _) | (with_reducible refine Kd.C_drewN ?_ _) | (with_reducible refine Kd.C_drew ?_) | exact HR114_1.out)) 0 p115 q115; (try rw [← Nbq9.out] at hx115_3); (try rw [← Nbq9.out] at hx115_4); cases e115; obtain ⟨ce115, hce115, hMe115, hcc115⟩ := Kd.V_get HL114_1.out z45 0 p115 (by first | exact q115 | exact of_decide_eq_true (by first | (with_reducible assumption) | assumption) | (have e_ := (Kd.V_reads' HL114_1.out).1; omega)); obtain ⟨ua115_5, uc115_5, rfl, ul115_5, ge115_5⟩ := k45_openF hMe115; have hv115_5 := hcc115 5 _ rfl; rw [add_field _ _ 5 (by omega)] at hv115_5; replace hv115_5 := Option.some.inj (hv115_5.symm.trans hx115_5); injection hv115_5 with hva_ hvn_ hvc_; rw [hva_] at ge115_5; rw [hvc_] at ul115_5; have HL115_5 := Aside0.mk (show Kd.V k45 45 _ w.heap.size _ _ ((rd_T45 ((rd_T47 t108 0).f1) 0).f1) from Kd.V_mk ul115_5 ge115_5); clear hva_ hvn_ hvc_ ge115_5 ul115_5; clear hcc115 hce115; have qi115 : (0 < ((rd_T47 t108 0).f1).length) = True := eq_true (by omega); (try rw [show ((0 : Int)).toNat = 0 from rfl] at hx115_0); (try rw [show 0 * 6 = 0 from rfl] at hx115_0); (try rw [Addr.add_zero'] at hx115_0); (try rw [show ((0 : Int)).toNat = 0 from rfl] at hx115_1); (try rw [show 0 * 6 = 0 from rfl] at hx115_1); (try rw [Addr.add_zero'] at hx115_1); (try rw [show ((0 : Int)).toNat = 0 from rfl] at hx115_2); (try rw [show 0 * 6 = 0 from rfl] at hx115_2); (try rw [Addr.add_zero'] at hx115_2); (try rw [show ((0 : Int)).toNat = 0 from rfl] at hx115_3); (try rw [show 0 * 6 = 0 from rfl] at hx115_3); (try rw [Addr.add_zero'] at hx115_3); (try rw [show ((0 : Int)).toNat = 0 from rfl] at hx115_4); (try rw [show 0 * 6 = 0 from rfl] at hx115_4); (try rw [Addr.add_zero'] at hx115_4); (try rw [show ((0 : Int)).toNat = 0 from rfl] at hx115_5); (try rw [show 0 * 6 = 0 from rfl] at hx115_5); (try rw [Addr.add_zero'] at hx115_5); have HR115_5 := Aside0.mk hi115_5; have HC115_5 := Aside0.mk hl115_5; clear hi115_5 hl115_5; replace p115 := eq_true p115; replace q115 := eq_true q115))
                  go_ret
                  exact ⟨by first | rfl | (simp [errW_none, errW_some] <;> rfl) | (simp [*, errW_none, errW_some] <;> rfl), by repeat (first | (with_reducible first | exact HB.out | apply below_alloc | apply pw_below_drewN | apply below_drew1) | exact HB.out)⟩
                · rw [if_neg c12] at H
                  exact absurd H (by simp)
              · rw [if_neg c11] at H
                have c11b0 : ((((rd_T47 t108 0).f1).length : Int) == 1) = false := beq_eq_false_iff_ne.mpr c11
                have c11b1 : ((((rd_T47 t108 0).f1).length : Int) != 1) = true := bne_iff_ne.mpr c11
                obtain rfl := Option.some.inj H
                go_enter Try.func10, Try.ntmps10
                go_wp2_with (first | ((with_reducible refine gate_callee (f := 28) rfl ?_); refine goesL_ (some 3) rfl rfl Try.func28 (by kernel_rfl) rfl #[.string (⟨#[97, 32, 98, 123, 99, 58, 100, 33, 105, 109, 112, 111, 114, 116, 97, 110, 116, 59, 101, 125, 32, 64, 120, 32, 121, 59, 32, 102, 123, 125]⟩ : ByteArray)] rfl (by (try simp only [List.map_toArray, List.map_cons, List.map_nil]); first | done | rfl | (simp only [List.length_drop, List.length_take]; rfl)) ?_; (with_reducible refine (gouachelaw03_values.calls k (⟨#[97, 32, 98, 123, 99, 58, 100, 33, 105, 109, 112, 111, 114, 116, 97, 110, 116, 59, 101, 125, 32, 64, 120, 32, 121, 59, 32, 102, 123, 125]⟩ : ByteArray) t101 _ A1.out).mono ?_); rintro e w19 ⟨v102, rfl, ho0, hb⟩; refine ⟨_, rfl, ?_⟩; have n0_ := Aside0.mk (Kd.N_lower (Kd.N_mono (ok' := fun k_ => True) (Kd.R_N (Kd.R_bound ho0)) (fun k_ hk_ => trivial)) (below_size (by repeat (first | (with_reducible first | exact HB.out | apply below_alloc | apply pw_below_drewN | apply below_drew1) | exact HB.out)))); have n1_ := Aside0.mk (below_step (by repeat (first | (with_reducible first | exact HB.out | apply below_alloc | apply pw_below_drewN | apply below_drew1) | exact HB.out)) hb); clear HB; have HO103 := n0_; have HB := n1_; clear n0_ n1_; (try clear hb); (try clear hb2); (try clear hk); (try clear hi); (try clear ho0); obtain ⟨Ao20, co20, eo20⟩ := Kd.N_slice HO103.out; subst eo20) | ((with_reducible refine gate_callee (f := 15) rfl ?_); refine goesL_ (some 4) rfl rfl Try.func15 (by kernel_rfl) rfl #[.slice Ao20 t101.length co20] rfl (by (try simp only [List.map_toArray, List.map_cons, List.map_nil]); first | done | rfl | (simp only [List.length_drop, List.length_take]; rfl)) ?_; (with_reducible refine (parse_Rules.calls (fun k_ => True) _ _ t101 t104 _ ?side1 A2.out).mono ?_); (case side1 => exact Kd.N_V (HO103.out)); rintro e w21 ⟨v105, rfl, ho0, hb⟩; refine ⟨_, rfl, ?_⟩; have n0_ := Aside0.mk (Kd.N_elder' (by (with_reducible repeat (first | apply Kd.N_alloc | apply Kd.N_drewN | apply Kd.N_drew)); exact HO103.out) (Kd.N_base ho0) hb); have n1_ := Aside0.mk (Kd.N_lower (Kd.N_mono (ok' := fun k_ => True) ho0 (fun k_ hk_ => trivial)) (below_size (by repeat (first | (with_reducible first | exact HB.out | apply below_alloc | apply pw_below_drewN | apply below_drew1) | exact HB.out)))); have n2_ := Aside0.mk (below_step (by repeat (first | (with_reducible first | exact HB.out | apply below_alloc | apply pw_below_drewN | apply below_drew1) | exact HB.out)) hb); clear HO103; clear HB; have HO103 := n0_; have HO106 := n1_; have HB := n2_; clear n0_ n1_ n2_; (try clear hb); (try clear hb2); (try clear hk); (try clear hi); (try clear ho0); obtain ⟨Ao22, co22, eo22⟩ := Kd.N_slice HO106.out; subst eo22; have p107 : 0 ≤ (0 : Int) := (by omega); have q107 : 0 < (t104.length : Int) := of_decide_eq_true (by first | (with_reducible assumption) | assumption); obtain ⟨ad107, A107_0, c107_0, A107_1, c107_1, e107, hx107_0, hx107_1, hl107_0, hi107_0, hl107_1, hi107_1⟩ := at_T36 (Kd.N_reads' HO106.out).2.2 0 p107 q107; cases e107; obtain ⟨ce107, hce107, hMe107, hcc107⟩ := Kd.N_get HO106.out z36 0 p107 (by first | exact q107 | exact of_decide_eq_true (by first | (with_reducible assumption) | assumption) | (have e_ := (Kd.N_reads' HO106.out).1; omega)); obtain ⟨ua107_0, uc107_0, ua107_1, uc107_1, rfl, ul107_0, ge107_0, ul107_1, ge107_1⟩ := k36_openF hMe107; have hv107_0 := hcc107 0 _ rfl; rw [Nat.add_zero] at hv107_0; replace hv107_0 := Option.some.inj (hv107_0.symm.trans hx107_0); injection hv107_0 with hva_ hvn_ hvc_; rw [hva_] at ge107_0; rw [hvc_] at ul107_0; have HL107_0 := Aside0.mk (show Kd.V k45 45 _ w.heap.size _ _ ((rd_T36 t104 0).f0) from Kd.V_mk ul107_0 ge107_0); clear hva_ hvn_ hvc_ ge107_0 ul107_0; have hv107_1 := hcc107 1 _ rfl; rw [add_field _ _ 1 (by omega)] at hv107_1; replace hv107_1 := Option.some.inj (hv107_1.symm.trans hx107_1); injection hv107_1 with hva_ hvn_ hvc_; rw [hva_] at ge107_1; rw [hvc_] at ul107_1; have HL107_1 := Aside0.mk (show Kd.V k45 45 _ w.heap.size _ _ ((rd_T36 t104 0).f1) from Kd.V_mk ul107_1 ge107_1); clear hva_ hvn_ hvc_ ge107_1 ul107_1; clear hcc107 hce107; have qi107 : (0 < t104.length) = True := eq_true (by omega); (try rw [show ((0 : Int)).toNat = 0 from rfl] at hx107_0); (try rw [show 0 * 2 = 0 from rfl] at hx107_0); (try rw [Addr.add_zero'] at hx107_0); (try rw [show ((0 : Int)).toNat = 0 from rfl] at hx107_1); (try rw [show 0 * 2 = 0 from rfl] at hx107_1); (try rw [Addr.add_zero'] at hx107_1); have HR107_0 := Aside0.mk hi107_0; have HC107_0 := Aside0.mk hl107_0; clear hi107_0 hl107_0; have HR107_1 := Aside0.mk hi107_1; have HC107_1 := Aside0.mk hl107_1; clear hi107_1 hl107_1; replace p107 := eq_true p107; replace q107 := eq_true q107) | ((with_reducible refine gate_callee (f := 21) rfl ?_); refine goesL_ (some 12) rfl rfl Try.func21 (by kernel_rfl) rfl #[.slice A107_1 ((rd_T36 t104 0).f1).length c107_1] rfl (by (try simp only [List.map_toArray, List.map_cons, List.map_nil]); first | done | rfl | (simp only [List.length_drop, List.length_take]; rfl)) ?_; (with_reducible refine (parse_Decls.calls (fun k_ => (True ∧ some k_ ≠ (.slice (some ad107) t104.length co22 : Value).ownBlock)) _ _ ((rd_T36 t104 0).f1) t108 _ ?side1 A5.out).mono ?_); (case side1 => exact HL107_1.out); rintro e w23 ⟨v109, rfl, ho0, hb⟩; refine ⟨_, rfl, ?_⟩; have n0_ := Aside0.mk (Kd.N_elder' (by (with_reducible repeat (first | apply Kd.N_alloc | apply Kd.N_drewN | apply Kd.N_drew)); exact HO103.out) (Kd.N_base ho0) hb); have n1_ := Aside0.mk (Kd.N_elder' (by (with_reducible repeat (first | apply Kd.N_alloc | apply Kd.N_drewN | apply Kd.N_drew)); exact HO106.out) (Kd.N_base ho0) hb); have n2_ := Aside0.mk (Kd.V_elder' (by (with_reducible repeat (first | apply Kd.V_alloc | apply Kd.V_drewN | apply Kd.V_drew)); exact HL107_0.out) (Kd.N_base ho0) hb); have n3_ := Aside0.mk (Kd.V_elder' (by (with_reducible repeat (first | apply Kd.V_alloc | apply Kd.V_drewN | apply Kd.V_drew)); exact HL107_1.out) (Kd.N_base ho0) hb); have n4_ := Aside0.mk (Kd.N_lower (Kd.N_mono (ok' := fun k_ => some k_ ≠ (.slice (some ad107) t104.length co22 : Value).ownBlock) ho0 (fun k_ hk_ => Or.elim hk_ (fun hs_ => hs_.2) (fun hn_ => (Kd.fresh' (Kd.N_lt (by (with_reducible repeat (first | apply Kd.N_alloc | apply Kd.N_drewN | apply Kd.N_drew)); exact HO106.out)) k_ hn_)))) (below_size (by repeat (first | (with_reducible first | exact HB.out | apply below_alloc | apply pw_below_drewN | apply below_drew1) | exact HB.out)))); have n5_ := Aside0.mk (Kd.C_below (by repeat (first | (with_reducible exact HR107_0.out) | (with_reducible refine Kd.C_alloc ?_ _) | (with_reducible refine Kd.C_drewN ?_ _) | (with_reducible refine Kd.C_drew ?_) | exact HR107_0.out)) hb); have n6_ := Aside0.mk (Kd.C_below (by repeat (first | (with_reducible exact HR107_1.out) | (with_reducible refine Kd.C_alloc ?_ _) | (with_reducible refine Kd.C_drewN ?_ _) | (with_reducible refine Kd.C_drew ?_) | exact HR107_1.out)) hb); have n7_ := Aside0.mk (below_step (by repeat (first | (with_reducible first | exact HB.out | apply below_alloc | apply pw_below_drewN | apply below_drew1) | exact HB.out)) hb); clear HO103; clear HO106; clear HL107_0; clear HL107_1; clear HR107_0; clear HR107_1; clear HB; have HO103 := n0_; have HO106 := n1_; have HL107_0 := n2_; have HL107_1 := n3_; have HO110 := n4_; have HR107_0 := n5_; have HR107_1 := n6_; have HB := n7_; clear n0_ n1_ n2_ n3_ n4_ n5_ n6_ n7_; (try clear hb); (try clear hb2); (try clear hk); (try clear hi); (try clear ho0); obtain ⟨Ao24, co24, eo24⟩ := Kd.N_slice HO110.out; subst eo24; have p111 : 0 ≤ (0 : Int) := (by omega); have q111 : 0 < (t108.length : Int) := of_decide_eq_true (by first | (with_reducible assumption) | assumption); obtain ⟨ad111, A111_1, c111_1, e111, hx111_0, hx111_1, hx111_2, hl111_1, hi111_1⟩ := at_T47 (Kd.N_reads' HO110.out).2.2 0 p111 q111; (try rw [← Nbq9.out] at hx111_2); cases e111; obtain ⟨ce111, hce111, hMe111, hcc111⟩ := Kd.N_get HO110.out z47 0 p111 (by first | exact q111 | exact of_decide_eq_true (by first | (with_reducible assumption) | assumption) | (have e_ := (Kd.N_reads' HO110.out).1; omega)); obtain ⟨ua111_1, uc111_1, rfl, ul111_1, ge111_1⟩ := k47_openF hMe111; have hv111_1 := hcc111 1 _ rfl; rw [add_field _ _ 1 (by omega)] at hv111_1; replace hv111_1 := Option.some.inj (hv111_1.symm.trans hx111_1); injection hv111_1 with hva_ hvn_ hvc_; rw [hva_] at ge111_1; rw [hvc_] at ul111_1; have HL111_1 := Aside0.mk (show Kd.V k45 45 _ w.heap.size _ _ ((rd_T47 t108 0).f1) from Kd.V_mk ul111_1 ge111_1); clear hva_ hvn_ hvc_ ge111_1 ul111_1; clear hcc111 hce111; have qi111 : (0 < t108.length) = True := eq_true (by omega); (try rw [show ((0 : Int)).toNat = 0 from rfl] at hx111_0); (try rw [show 0 * 3 = 0 from rfl] at hx111_0); (try rw [Addr.add_zero'] at hx111_0); (try rw [show ((0 : Int)).toNat = 0 from rfl] at hx111_1); (try rw [show 0 * 3 = 0 from rfl] at hx111_1); (try rw [Addr.add_zero'] at hx111_1); (try rw [show ((0 : Int)).toNat = 0 from rfl] at hx111_2); (try rw [show 0 * 3 = 0 from rfl] at hx111_2); (try rw [Addr.add_zero'] at hx111_2); have HR111_1 := Aside0.mk hi111_1; have HC111_1 := Aside0.mk hl111_1; clear hi111_1 hl111_1; replace p111 := eq_true p111; replace q111 := eq_true q111; have p112 : 0 ≤ (0 : Int) := (by omega); have q112 : 0 < (t108.length : Int) := of_decide_eq_true (by first | (with_reducible assumption) | assumption); obtain ⟨ad112, A112_1, c112_1, e112, hx112_0, hx112_1, hx112_2, hl112_1, hi112_1⟩ := at_T47 (Kd.N_reads' HO110.out).2.2 0 p112 q112; (try rw [← Nbq9.out] at hx112_2); obtain rfl : ad111 = ad112 := (by injection e112); obtain ⟨ce112, hce112, hMe112, hcc112⟩ := Kd.N_get HO110.out z47 0 p112 (by first | exact q112 | exact of_decide_eq_true (by first | (with_reducible assumption) | assumption) | (have e_ := (Kd.N_reads' HO110.out).1; omega)); obtain ⟨ua112_1, uc112_1, rfl, ul112_1, ge112_1⟩ := k47_openF hMe112; have hv112_1 := hcc112 1 _ rfl; rw [add_field _ _ 1 (by omega)] at hv112_1; replace hv112_1 := Option.some.inj (hv112_1.symm.trans hx112_1); injection hv112_1 with hva_ hvn_ hvc_; rw [hva_] at ge112_1; rw [hvc_] at ul112_1; have HL112_1 := Aside0.mk (show Kd.V k45 45 _ w.heap.size _ _ ((rd_T47 t108 0).f1) from Kd.V_mk ul112_1 ge112_1); clear hva_ hvn_ hvc_ ge112_1 ul112_1; clear hcc112 hce112; have qi112 : (0 < t108.length) = True := eq_true (by omega); (try rw [show ((0 : Int)).toNat = 0 from rfl] at hx112_0); (try rw [show 0 * 3 = 0 from rfl] at hx112_0); (try rw [Addr.add_zero'] at hx112_0); (try rw [show ((0 : Int)).toNat = 0 from rfl] at hx112_1); (try rw [show 0 * 3 = 0 from rfl] at hx112_1); (try rw [Addr.add_zero'] at hx112_1); (try rw [show ((0 : Int)).toNat = 0 from rfl] at hx112_2); (try rw [show 0 * 3 = 0 from rfl] at hx112_2); (try rw [Addr.add_zero'] at hx112_2); have HR112_1 := Aside0.mk hi112_1; have HC112_1 := Aside0.mk hl112_1; clear hi112_1 hl112_1; replace p112 := eq_true p112; replace q112 := eq_true q112; have ea_ := Option.some.inj (hx111_1.symm.trans hx112_1); injection ea_ with ea_ en_ ec_; subst ea_; subst ec_; clear en_; have p113 : 0 ≤ (0 : Int) := (by omega); have q113 : 0 < (t108.length : Int) := of_decide_eq_true (by first | (with_reducible assumption) | assumption); obtain ⟨ad113, A113_1, c113_1, e113, hx113_0, hx113_1, hx113_2, hl113_1, hi113_1⟩ := at_T47 (Kd.N_reads' HO110.out).2.2 0 p113 q113; (try rw [← Nbq9.out] at hx113_2); obtain rfl : ad111 = ad113 := (by injection e113); obtain ⟨ce113, hce113, hMe113, hcc113⟩ := Kd.N_get HO110.out z47 0 p113 (by first | exact q113 | exact of_decide_eq_true (by first | (with_reducible assumption) | assumption) | (have e_ := (Kd.N_reads' HO110.out).1; omega)); obtain ⟨ua113_1, uc113_1, rfl, ul113_1, ge113_1⟩ := k47_openF hMe113; have hv113_1 := hcc113 1 _ rfl; rw [add_field _ _ 1 (by omega)] at hv113_1; replace hv113_1 := Option.some.inj (hv113_1.symm.trans hx113_1); injection hv113_1 with hva_ hvn_ hvc_; rw [hva_] at ge113_1; rw [hvc_] at ul113_1; have HL113_1 := Aside0.mk (show Kd.V k45 45 _ w.heap.size _ _ ((rd_T47 t108 0).f1) from Kd.V_mk ul113_1 ge113_1); clear hva_ hvn_ hvc_ ge113_1 ul113_1; clear hcc113 hce113; have qi113 : (0 < t108.length) = True := eq_true (by omega); (try rw [show ((0 : Int)).toNat = 0 from rfl] at hx113_0); (try rw [show 0 * 3 = 0 from rfl] at hx113_0); (try rw [Addr.add_zero'] at hx113_0); (try rw [show ((0 : Int)).toNat = 0 from rfl] at hx113_1); (try rw [show 0 * 3 = 0 from rfl] at hx113_1); (try rw [Addr.add_zero'] at hx113_1); (try rw [show ((0 : Int)).toNat = 0 from rfl] at hx113_2); (try rw [show 0 * 3 = 0 from rfl] at hx113_2); (try rw [Addr.add_zero'] at hx113_2); have HR113_1 := Aside0.mk hi113_1; have HC113_1 := Aside0.mk hl113_1; clear hi113_1 hl113_1; replace p113 := eq_true p113; replace q113 := eq_true q113; have ea_ := Option.some.inj (hx111_1.symm.trans hx113_1); injection ea_ with ea_ en_ ec_; subst ea_; subst ec_; clear en_))
                go_ret
                exact ⟨by first | rfl | (simp [errW_none, errW_some] <;> rfl) | (simp [*, errW_none, errW_some] <;> rfl), by repeat (first | (with_reducible first | exact HB.out | apply below_alloc | apply pw_below_drewN | apply below_drew1) | exact HB.out)⟩
            · replace c10 := Bool.eq_false_iff.mpr c10
              subst c10
              have H1 : (some false) = some r := by rw [if_neg (show ¬ (false = true) by decide)] at H; exact H
              clear H
              have H := H1
              clear H1
              obtain rfl := Option.some.inj H
              go_enter Try.func10, Try.ntmps10
              go_wp2_with (first | ((with_reducible refine gate_callee (f := 28) rfl ?_); refine goesL_ (some 3) rfl rfl Try.func28 (by kernel_rfl) rfl #[.string (⟨#[97, 32, 98, 123, 99, 58, 100, 33, 105, 109, 112, 111, 114, 116, 97, 110, 116, 59, 101, 125, 32, 64, 120, 32, 121, 59, 32, 102, 123, 125]⟩ : ByteArray)] rfl (by (try simp only [List.map_toArray, List.map_cons, List.map_nil]); first | done | rfl | (simp only [List.length_drop, List.length_take]; rfl)) ?_; (with_reducible refine (gouachelaw03_values.calls k (⟨#[97, 32, 98, 123, 99, 58, 100, 33, 105, 109, 112, 111, 114, 116, 97, 110, 116, 59, 101, 125, 32, 64, 120, 32, 121, 59, 32, 102, 123, 125]⟩ : ByteArray) t101 _ A1.out).mono ?_); rintro e w25 ⟨v102, rfl, ho0, hb⟩; refine ⟨_, rfl, ?_⟩; have n0_ := Aside0.mk (Kd.N_lower (Kd.N_mono (ok' := fun k_ => True) (Kd.R_N (Kd.R_bound ho0)) (fun k_ hk_ => trivial)) (below_size (by repeat (first | (with_reducible first | exact HB.out | apply below_alloc | apply pw_below_drewN | apply below_drew1) | exact HB.out)))); have n1_ := Aside0.mk (below_step (by repeat (first | (with_reducible first | exact HB.out | apply below_alloc | apply pw_below_drewN | apply below_drew1) | exact HB.out)) hb); clear HB; have HO103 := n0_; have HB := n1_; clear n0_ n1_; (try clear hb); (try clear hb2); (try clear hk); (try clear hi); (try clear ho0); obtain ⟨Ao26, co26, eo26⟩ := Kd.N_slice HO103.out; subst eo26) | ((with_reducible refine gate_callee (f := 15) rfl ?_); refine goesL_ (some 4) rfl rfl Try.func15 (by kernel_rfl) rfl #[.slice Ao26 t101.length co26] rfl (by (try simp only [List.map_toArray, List.map_cons, List.map_nil]); first | done | rfl | (simp only [List.length_drop, List.length_take]; rfl)) ?_; (with_reducible refine (parse_Rules.calls (fun k_ => True) _ _ t101 t104 _ ?side1 A2.out).mono ?_); (case side1 => exact Kd.N_V (HO103.out)); rintro e w27 ⟨v105, rfl, ho0, hb⟩; refine ⟨_, rfl, ?_⟩; have n0_ := Aside0.mk (Kd.N_elder' (by (with_reducible repeat (first | apply Kd.N_alloc | apply Kd.N_drewN | apply Kd.N_drew)); exact HO103.out) (Kd.N_base ho0) hb); have n1_ := Aside0.mk (Kd.N_lower (Kd.N_mono (ok' := fun k_ => True) ho0 (fun k_ hk_ => trivial)) (below_size (by repeat (first | (with_reducible first | exact HB.out | apply below_alloc | apply pw_below_drewN | apply below_drew1) | exact HB.out)))); have n2_ := Aside0.mk (below_step (by repeat (first | (with_reducible first | exact HB.out | apply below_alloc | apply pw_below_drewN | apply below_drew1) | exact HB.out)) hb); clear HO103; clear HB; have HO103 := n0_; have HO106 := n1_; have HB := n2_; clear n0_ n1_ n2_; (try clear hb); (try clear hb2); (try clear hk); (try clear hi); (try clear ho0); obtain ⟨Ao28, co28, eo28⟩ := Kd.N_slice HO106.out; subst eo28; have p107 : 0 ≤ (0 : Int) := (by omega); have q107 : 0 < (t104.length : Int) := of_decide_eq_true (by first | (with_reducible assumption) | assumption); obtain ⟨ad107, A107_0, c107_0, A107_1, c107_1, e107, hx107_0, hx107_1, hl107_0, hi107_0, hl107_1, hi107_1⟩ := at_T36 (Kd.N_reads' HO106.out).2.2 0 p107 q107; cases e107; obtain ⟨ce107, hce107, hMe107, hcc107⟩ := Kd.N_get HO106.out z36 0 p107 (by first | exact q107 | exact of_decide_eq_true (by first | (with_reducible assumption) | assumption) | (have e_ := (Kd.N_reads' HO106.out).1; omega)); obtain ⟨ua107_0, uc107_0, ua107_1, uc107_1, rfl, ul107_0, ge107_0, ul107_1, ge107_1⟩ := k36_openF hMe107; have hv107_0 := hcc107 0 _ rfl; rw [Nat.add_zero] at hv107_0; replace hv107_0 := Option.some.inj (hv107_0.symm.trans hx107_0); injection hv107_0 with hva_ hvn_ hvc_; rw [hva_] at ge107_0; rw [hvc_] at ul107_0; have HL107_0 := Aside0.mk (show Kd.V k45 45 _ w.heap.size _ _ ((rd_T36 t104 0).f0) from Kd.V_mk ul107_0 ge107_0); clear hva_ hvn_ hvc_ ge107_0 ul107_0; have hv107_1 := hcc107 1 _ rfl; rw [add_field _ _ 1 (by omega)] at hv107_1; replace hv107_1 := Option.some.inj (hv107_1.symm.trans hx107_1); injection hv107_1 with hva_ hvn_ hvc_; rw [hva_] at ge107_1; rw [hvc_] at ul107_1; have HL107_1 := Aside0.mk (show Kd.V k45 45 _ w.heap.size _ _ ((rd_T36 t104 0).f1) from Kd.V_mk ul107_1 ge107_1); clear hva_ hvn_ hvc_ ge107_1 ul107_1; clear hcc107 hce107; have qi107 : (0 < t104.length) = True := eq_true (by omega); (try rw [show ((0 : Int)).toNat = 0 from rfl] at hx107_0); (try rw [show 0 * 2 = 0 from rfl] at hx107_0); (try rw [Addr.add_zero'] at hx107_0); (try rw [show ((0 : Int)).toNat = 0 from rfl] at hx107_1); (try rw [show 0 * 2 = 0 from rfl] at hx107_1); (try rw [Addr.add_zero'] at hx107_1); have HR107_0 := Aside0.mk hi107_0; have HC107_0 := Aside0.mk hl107_0; clear hi107_0 hl107_0; have HR107_1 := Aside0.mk hi107_1; have HC107_1 := Aside0.mk hl107_1; clear hi107_1 hl107_1; replace p107 := eq_true p107; replace q107 := eq_true q107) | ((with_reducible refine gate_callee (f := 21) rfl ?_); refine goesL_ (some 12) rfl rfl Try.func21 (by kernel_rfl) rfl #[.slice A107_1 ((rd_T36 t104 0).f1).length c107_1] rfl (by (try simp only [List.map_toArray, List.map_cons, List.map_nil]); first | done | rfl | (simp only [List.length_drop, List.length_take]; rfl)) ?_; (with_reducible refine (parse_Decls.calls (fun k_ => (True ∧ some k_ ≠ (.slice (some ad107) t104.length co28 : Value).ownBlock)) _ _ ((rd_T36 t104 0).f1) t108 _ ?side1 A5.out).mono ?_); (case side1 => exact HL107_1.out); rintro e w29 ⟨v109, rfl, ho0, hb⟩; refine ⟨_, rfl, ?_⟩; have n0_ := Aside0.mk (Kd.N_elder' (by (with_reducible repeat (first | apply Kd.N_alloc | apply Kd.N_drewN | apply Kd.N_drew)); exact HO103.out) (Kd.N_base ho0) hb); have n1_ := Aside0.mk (Kd.N_elder' (by (with_reducible repeat (first | apply Kd.N_alloc | apply Kd.N_drewN | apply Kd.N_drew)); exact HO106.out) (Kd.N_base ho0) hb); have n2_ := Aside0.mk (Kd.V_elder' (by (with_reducible repeat (first | apply Kd.V_alloc | apply Kd.V_drewN | apply Kd.V_drew)); exact HL107_0.out) (Kd.N_base ho0) hb); have n3_ := Aside0.mk (Kd.V_elder' (by (with_reducible repeat (first | apply Kd.V_alloc | apply Kd.V_drewN | apply Kd.V_drew)); exact HL107_1.out) (Kd.N_base ho0) hb); have n4_ := Aside0.mk (Kd.N_lower (Kd.N_mono (ok' := fun k_ => some k_ ≠ (.slice (some ad107) t104.length co28 : Value).ownBlock) ho0 (fun k_ hk_ => Or.elim hk_ (fun hs_ => hs_.2) (fun hn_ => (Kd.fresh' (Kd.N_lt (by (with_reducible repeat (first | apply Kd.N_alloc | apply Kd.N_drewN | apply Kd.N_drew)); exact HO106.out)) k_ hn_)))) (below_size (by repeat (first | (with_reducible first | exact HB.out | apply below_alloc | apply pw_below_drewN | apply below_drew1) | exact HB.out)))); have n5_ := Aside0.mk (Kd.C_below (by repeat (first | (with_reducible exact HR107_0.out) | (with_reducible refine Kd.C_alloc ?_ _) | (with_reducible refine Kd.C_drewN ?_ _) | (with_reducible refine Kd.C_drew ?_) | exact HR107_0.out)) hb); have n6_ := Aside0.mk (Kd.C_below (by repeat (first | (with_reducible exact HR107_1.out) | (with_reducible refine Kd.C_alloc ?_ _) | (with_reducible refine Kd.C_drewN ?_ _) | (with_reducible refine Kd.C_drew ?_) | exact HR107_1.out)) hb); have n7_ := Aside0.mk (below_step (by repeat (first | (with_reducible first | exact HB.out | apply below_alloc | apply pw_below_drewN | apply below_drew1) | exact HB.out)) hb); clear HO103; clear HO106; clear HL107_0; clear HL107_1; clear HR107_0; clear HR107_1; clear HB; have HO103 := n0_; have HO106 := n1_; have HL107_0 := n2_; have HL107_1 := n3_; have HO110 := n4_; have HR107_0 := n5_; have HR107_1 := n6_; have HB := n7_; clear n0_ n1_ n2_ n3_ n4_ n5_ n6_ n7_; (try clear hb); (try clear hb2); (try clear hk); (try clear hi); (try clear ho0); obtain ⟨Ao30, co30, eo30⟩ := Kd.N_slice HO110.out; subst eo30; have p111 : 0 ≤ (0 : Int) := (by omega); have q111 : 0 < (t108.length : Int) := of_decide_eq_true (by first | (with_reducible assumption) | assumption); obtain ⟨ad111, A111_1, c111_1, e111, hx111_0, hx111_1, hx111_2, hl111_1, hi111_1⟩ := at_T47 (Kd.N_reads' HO110.out).2.2 0 p111 q111; (try rw [← Nbq9.out] at hx111_2); cases e111; obtain ⟨ce111, hce111, hMe111, hcc111⟩ := Kd.N_get HO110.out z47 0 p111 (by first | exact q111 | exact of_decide_eq_true (by first | (with_reducible assumption) | assumption) | (have e_ := (Kd.N_reads' HO110.out).1; omega)); obtain ⟨ua111_1, uc111_1, rfl, ul111_1, ge111_1⟩ := k47_openF hMe111; have hv111_1 := hcc111 1 _ rfl; rw [add_field _ _ 1 (by omega)] at hv111_1; replace hv111_1 := Option.some.inj (hv111_1.symm.trans hx111_1); injection hv111_1 with hva_ hvn_ hvc_; rw [hva_] at ge111_1; rw [hvc_] at ul111_1; have HL111_1 := Aside0.mk (show Kd.V k45 45 _ w.heap.size _ _ ((rd_T47 t108 0).f1) from Kd.V_mk ul111_1 ge111_1); clear hva_ hvn_ hvc_ ge111_1 ul111_1; clear hcc111 hce111; have qi111 : (0 < t108.length) = True := eq_true (by omega); (try rw [show ((0 : Int)).toNat = 0 from rfl] at hx111_0); (try rw [show 0 * 3 = 0 from rfl] at hx111_0); (try rw [Addr.add_zero'] at hx111_0); (try rw [show ((0 : Int)).toNat = 0 from rfl] at hx111_1); (try rw [show 0 * 3 = 0 from rfl] at hx111_1); (try rw [Addr.add_zero'] at hx111_1); (try rw [show ((0 : Int)).toNat = 0 from rfl] at hx111_2); (try rw [show 0 * 3 = 0 from rfl] at hx111_2); (try rw [Addr.add_zero'] at hx111_2); have HR111_1 := Aside0.mk hi111_1; have HC111_1 := Aside0.mk hl111_1; clear hi111_1 hl111_1; replace p111 := eq_true p111; replace q111 := eq_true q111; have p112 : 0 ≤ (0 : Int) := (by omega); have q112 : 0 < (t108.length : Int) := of_decide_eq_true (by first | (with_reducible assumption) | assumption); obtain ⟨ad112, A112_1, c112_1, e112, hx112_0, hx112_1, hx112_2, hl112_1, hi112_1⟩ := at_T47 (Kd.N_reads' HO110.out).2.2 0 p112 q112; (try rw [← Nbq9.out] at hx112_2); obtain rfl : ad111 = ad112 := (by injection e112); obtain ⟨ce112, hce112, hMe112, hcc112⟩ := Kd.N_get HO110.out z47 0 p112 (by first | exact q112 | exact of_decide_eq_true (by first | (with_reducible assumption) | assumption) | (have e_ := (Kd.N_reads' HO110.out).1; omega)); obtain ⟨ua112_1, uc112_1, rfl, ul112_1, ge112_1⟩ := k47_openF hMe112; have hv112_1 := hcc112 1 _ rfl; rw [add_field _ _ 1 (by omega)] at hv112_1; replace hv112_1 := Option.some.inj (hv112_1.symm.trans hx112_1); injection hv112_1 with hva_ hvn_ hvc_; rw [hva_] at ge112_1; rw [hvc_] at ul112_1; have HL112_1 := Aside0.mk (show Kd.V k45 45 _ w.heap.size _ _ ((rd_T47 t108 0).f1) from Kd.V_mk ul112_1 ge112_1); clear hva_ hvn_ hvc_ ge112_1 ul112_1; clear hcc112 hce112; have qi112 : (0 < t108.length) = True := eq_true (by omega); (try rw [show ((0 : Int)).toNat = 0 from rfl] at hx112_0); (try rw [show 0 * 3 = 0 from rfl] at hx112_0); (try rw [Addr.add_zero'] at hx112_0); (try rw [show ((0 : Int)).toNat = 0 from rfl] at hx112_1); (try rw [show 0 * 3 = 0 from rfl] at hx112_1); (try rw [Addr.add_zero'] at hx112_1); (try rw [show ((0 : Int)).toNat = 0 from rfl] at hx112_2); (try rw [show 0 * 3 = 0 from rfl] at hx112_2); (try rw [Addr.add_zero'] at hx112_2); have HR112_1 := Aside0.mk hi112_1; have HC112_1 := Aside0.mk hl112_1; clear hi112_1 hl112_1; replace p112 := eq_true p112; replace q112 := eq_true q112; have ea_ := Option.some.inj (hx111_1.symm.trans hx112_1); injection ea_ with ea_ en_ ec_; subst ea_; subst ec_; clear en_))
              go_ret
              exact ⟨by first | rfl | (simp [errW_none, errW_some] <;> rfl) | (simp [*, errW_none, errW_some] <;> rfl), by repeat (first | (with_reducible first | exact HB.out | apply below_alloc | apply pw_below_drewN | apply below_drew1) | exact HB.out)⟩
          · rw [if_neg c8] at H
            have c8b0 : (((rd_T47 t108 0).f0).toList == ([99] : List UInt8)) = false := beq_eq_false_iff_ne.mpr c8
            have c8b1 : (((rd_T47 t108 0).f0).toList != ([99] : List UInt8)) = true := bne_iff_ne.mpr c8
            obtain rfl := Option.some.inj H
            go_enter Try.func10, Try.ntmps10
            go_wp2_with (first | ((with_reducible refine gate_callee (f := 28) rfl ?_); refine goesL_ (some 3) rfl rfl Try.func28 (by kernel_rfl) rfl #[.string (⟨#[97, 32, 98, 123, 99, 58, 100, 33, 105, 109, 112, 111, 114, 116, 97, 110, 116, 59, 101, 125, 32, 64, 120, 32, 121, 59, 32, 102, 123, 125]⟩ : ByteArray)] rfl (by (try simp only [List.map_toArray, List.map_cons, List.map_nil]); first | done | rfl | (simp only [List.length_drop, List.length_take]; rfl)) ?_; (with_reducible refine (gouachelaw03_values.calls k (⟨#[97, 32, 98, 123, 99, 58, 100, 33, 105, 109, 112, 111, 114, 116, 97, 110, 116, 59, 101, 125, 32, 64, 120, 32, 121, 59, 32, 102, 123, 125]⟩ : ByteArray) t101 _ A1.out).mono ?_); rintro e w31 ⟨v102, rfl, ho0, hb⟩; refine ⟨_, rfl, ?_⟩; have n0_ := Aside0.mk (Kd.N_lower (Kd.N_mono (ok' := fun k_ => True) (Kd.R_N (Kd.R_bound ho0)) (fun k_ hk_ => trivial)) (below_size (by repeat (first | (with_reducible first | exact HB.out | apply below_alloc | apply pw_below_drewN | apply below_drew1) | exact HB.out)))); have n1_ := Aside0.mk (below_step (by repeat (first | (with_reducible first | exact HB.out | apply below_alloc | apply pw_below_drewN | apply below_drew1) | exact HB.out)) hb); clear HB; have HO103 := n0_; have HB := n1_; clear n0_ n1_; (try clear hb); (try clear hb2); (try clear hk); (try clear hi); (try clear ho0); obtain ⟨Ao32, co32, eo32⟩ := Kd.N_slice HO103.out; subst eo32) | ((with_reducible refine gate_callee (f := 15) rfl ?_); refine goesL_ (some 4) rfl rfl Try.func15 (by kernel_rfl) rfl #[.slice Ao32 t101.length co32] rfl (by (try simp only [List.map_toArray, List.map_cons, List.map_nil]); first | done | rfl | (simp only [List.length_drop, List.length_take]; rfl)) ?_; (with_reducible refine (parse_Rules.calls (fun k_ => True) _ _ t101 t104 _ ?side1 A2.out).mono ?_); (case side1 => exact Kd.N_V (HO103.out)); rintro e w33 ⟨v105, rfl, ho0, hb⟩; refine ⟨_, rfl, ?_⟩; have n0_ := Aside0.mk (Kd.N_elder' (by (with_reducible repeat (first | apply Kd.N_alloc | apply Kd.N_drewN | apply Kd.N_drew)); exact HO103.out) (Kd.N_base ho0) hb); have n1_ := Aside0.mk (Kd.N_lower (Kd.N_mono (ok' := fun k_ => True) ho0 (fun k_ hk_ => trivial)) (below_size (by repeat (first | (with_reducible first | exact HB.out | apply below_alloc | apply pw_below_drewN | apply below_drew1) | exact HB.out)))); have n2_ := Aside0.mk (below_step (by repeat (first | (with_reducible first | exact HB.out | apply below_alloc | apply pw_below_drewN | apply below_drew1) | exact HB.out)) hb); clear HO103; clear HB; have HO103 := n0_; have HO106 := n1_; have HB := n2_; clear n0_ n1_ n2_; (try clear hb); (try clear hb2); (try clear hk); (try clear hi); (try clear ho0); obtain ⟨Ao34, co34, eo34⟩ := Kd.N_slice HO106.out; subst eo34; have p107 : 0 ≤ (0 : Int) := (by omega); have q107 : 0 < (t104.length : Int) := of_decide_eq_true (by first | (with_reducible assumption) | assumption); obtain ⟨ad107, A107_0, c107_0, A107_1, c107_1, e107, hx107_0, hx107_1, hl107_0, hi107_0, hl107_1, hi107_1⟩ := at_T36 (Kd.N_reads' HO106.out).2.2 0 p107 q107; cases e107; obtain ⟨ce107, hce107, hMe107, hcc107⟩ := Kd.N_get HO106.out z36 0 p107 (by first | exact q107 | exact of_decide_eq_true (by first | (with_reducible assumption) | assumption) | (have e_ := (Kd.N_reads' HO106.out).1; omega)); obtain ⟨ua107_0, uc107_0, ua107_1, uc107_1, rfl, ul107_0, ge107_0, ul107_1, ge107_1⟩ := k36_openF hMe107; have hv107_0 := hcc107 0 _ rfl; rw [Nat.add_zero] at hv107_0; replace hv107_0 := Option.some.inj (hv107_0.symm.trans hx107_0); injection hv107_0 with hva_ hvn_ hvc_; rw [hva_] at ge107_0; rw [hvc_] at ul107_0; have HL107_0 := Aside0.mk (show Kd.V k45 45 _ w.heap.size _ _ ((rd_T36 t104 0).f0) from Kd.V_mk ul107_0 ge107_0); clear hva_ hvn_ hvc_ ge107_0 ul107_0; have hv107_1 := hcc107 1 _ rfl; rw [add_field _ _ 1 (by omega)] at hv107_1; replace hv107_1 := Option.some.inj (hv107_1.symm.trans hx107_1); injection hv107_1 with hva_ hvn_ hvc_; rw [hva_] at ge107_1; rw [hvc_] at ul107_1; have HL107_1 := Aside0.mk (show Kd.V k45 45 _ w.heap.size _ _ ((rd_T36 t104 0).f1) from Kd.V_mk ul107_1 ge107_1); clear hva_ hvn_ hvc_ ge107_1 ul107_1; clear hcc107 hce107; have qi107 : (0 < t104.length) = True := eq_true (by omega); (try rw [show ((0 : Int)).toNat = 0 from rfl] at hx107_0); (try rw [show 0 * 2 = 0 from rfl] at hx107_0); (try rw [Addr.add_zero'] at hx107_0); (try rw [show ((0 : Int)).toNat = 0 from rfl] at hx107_1); (try rw [show 0 * 2 = 0 from rfl] at hx107_1); (try rw [Addr.add_zero'] at hx107_1); have HR107_0 := Aside0.mk hi107_0; have HC107_0 := Aside0.mk hl107_0; clear hi107_0 hl107_0; have HR107_1 := Aside0.mk hi107_1; have HC107_1 := Aside0.mk hl107_1; clear hi107_1 hl107_1; replace p107 := eq_true p107; replace q107 := eq_true q107) | ((with_reducible refine gate_callee (f := 21) rfl ?_); refine goesL_ (some 12) rfl rfl Try.func21 (by kernel_rfl) rfl #[.slice A107_1 ((rd_T36 t104 0).f1).length c107_1] rfl (by (try simp only [List.map_toArray, List.map_cons, List.map_nil]); first | done | rfl | (simp only [List.length_drop, List.length_take]; rfl)) ?_; (with_reducible refine (parse_Decls.calls (fun k_ => (True ∧ some k_ ≠ (.slice (some ad107) t104.length co34 : Value).ownBlock)) _ _ ((rd_T36 t104 0).f1) t108 _ ?side1 A5.out).mono ?_); (case side1 => exact HL107_1.out); rintro e w35 ⟨v109, rfl, ho0, hb⟩; refine ⟨_, rfl, ?_⟩; have n0_ := Aside0.mk (Kd.N_elder' (by (with_reducible repeat (first | apply Kd.N_alloc | apply Kd.N_drewN | apply Kd.N_drew)); exact HO103.out) (Kd.N_base ho0) hb); have n1_ := Aside0.mk (Kd.N_elder' (by (with_reducible repeat (first | apply Kd.N_alloc | apply Kd.N_drewN | apply Kd.N_drew)); exact HO106.out) (Kd.N_base ho0) hb); have n2_ := Aside0.mk (Kd.V_elder' (by (with_reducible repeat (first | apply Kd.V_alloc | apply Kd.V_drewN | apply Kd.V_drew)); exact HL107_0.out) (Kd.N_base ho0) hb); have n3_ := Aside0.mk (Kd.V_elder' (by (with_reducible repeat (first | apply Kd.V_alloc | apply Kd.V_drewN | apply Kd.V_drew)); exact HL107_1.out) (Kd.N_base ho0) hb); have n4_ := Aside0.mk (Kd.N_lower (Kd.N_mono (ok' := fun k_ => some k_ ≠ (.slice (some ad107) t104.length co34 : Value).ownBlock) ho0 (fun k_ hk_ => Or.elim hk_ (fun hs_ => hs_.2) (fun hn_ => (Kd.fresh' (Kd.N_lt (by (with_reducible repeat (first | apply Kd.N_alloc | apply Kd.N_drewN | apply Kd.N_drew)); exact HO106.out)) k_ hn_)))) (below_size (by repeat (first | (with_reducible first | exact HB.out | apply below_alloc | apply pw_below_drewN | apply below_drew1) | exact HB.out)))); have n5_ := Aside0.mk (Kd.C_below (by repeat (first | (with_reducible exact HR107_0.out) | (with_reducible refine Kd.C_alloc ?_ _) | (with_reducible refine Kd.C_drewN ?_ _) | (with_reducible refine Kd.C_drew ?_) | exact HR107_0.out)) hb); have n6_ := Aside0.mk (Kd.C_below (by repeat (first | (with_reducible exact HR107_1.out) | (with_reducible refine Kd.C_alloc ?_ _) | (with_reducible refine Kd.C_drewN ?_ _) | (with_reducible refine Kd.C_drew ?_) | exact HR107_1.out)) hb); have n7_ := Aside0.mk (below_step (by repeat (first | (with_reducible first | exact HB.out | apply below_alloc | apply pw_below_drewN | apply below_drew1) | exact HB.out)) hb); clear HO103; clear HO106; clear HL107_0; clear HL107_1; clear HR107_0; clear HR107_1; clear HB; have HO103 := n0_; have HO106 := n1_; have HL107_0 := n2_; have HL107_1 := n3_; have HO110 := n4_; have HR107_0 := n5_; have HR107_1 := n6_; have HB := n7_; clear n0_ n1_ n2_ n3_ n4_ n5_ n6_ n7_; (try clear hb); (try clear hb2); (try clear hk); (try clear hi); (try clear ho0); obtain ⟨Ao36, co36, eo36⟩ := Kd.N_slice HO110.out; subst eo36; have p111 : 0 ≤ (0 : Int) := (by omega); have q111 : 0 < (t108.length : Int) := of_decide_eq_true (by first | (with_reducible assumption) | assumption); obtain ⟨ad111, A111_1, c111_1, e111, hx111_0, hx111_1, hx111_2, hl111_1, hi111_1⟩ := at_T47 (Kd.N_reads' HO110.out).2.2 0 p111 q111; cases e111; obtain ⟨ce111, hce111, hMe111, hcc111⟩ := Kd.N_get HO110.out z47 0 p111 (by first | exact q111 | exact of_decide_eq_true (by first | (with_reducible assumption) | assumption) | (have e_ := (Kd.N_reads' HO110.out).1; omega)); obtain ⟨ua111_1, uc111_1, rfl, ul111_1, ge111_1⟩ := k47_openF hMe111; have hv111_1 := hcc111 1 _ rfl; rw [add_field _ _ 1 (by omega)] at hv111_1; replace hv111_1 := Option.some.inj (hv111_1.symm.trans hx111_1); injection hv111_1 with hva_ hvn_ hvc_; rw [hva_] at ge111_1; rw [hvc_] at ul111_1; have HL111_1 := Aside0.mk (show Kd.V k45 45 _ w.heap.size _ _ ((rd_T47 t108 0).f1) from Kd.V_mk ul111_1 ge111_1); clear hva_ hvn_ hvc_ ge111_1 ul111_1; clear hcc111 hce111; have qi111 : (0 < t108.length) = True := eq_true (by omega); (try rw [show ((0 : Int)).toNat = 0 from rfl] at hx111_0); (try rw [show 0 * 3 = 0 from rfl] at hx111_0); (try rw [Addr.add_zero'] at hx111_0); (try rw [show ((0 : Int)).toNat = 0 from rfl] at hx111_1); (try rw [show 0 * 3 = 0 from rfl] at hx111_1); (try rw [Addr.add_zero'] at hx111_1); (try rw [show ((0 : Int)).toNat = 0 from rfl] at hx111_2); (try rw [show 0 * 3 = 0 from rfl] at hx111_2); (try rw [Addr.add_zero'] at hx111_2); have HR111_1 := Aside0.mk hi111_1; have HC111_1 := Aside0.mk hl111_1; clear hi111_1 hl111_1; replace p111 := eq_true p111; replace q111 := eq_true q111))
            go_ret
            exact ⟨by first | rfl | (simp [errW_none, errW_some] <;> rfl) | (simp [*, errW_none, errW_some] <;> rfl), by repeat (first | (with_reducible first | exact HB.out | apply below_alloc | apply pw_below_drewN | apply below_drew1) | exact HB.out)⟩
        · rw [if_neg c7] at H
          exact absurd H (by simp)
      · rw [if_neg c6] at H
        have c6b0 : ((t108.length : Int) == 1) = false := beq_eq_false_iff_ne.mpr c6
        have c6b1 : ((t108.length : Int) != 1) = true := bne_iff_ne.mpr c6
        obtain rfl := Option.some.inj H
        go_enter Try.func10, Try.ntmps10
        go_wp2_with (first | ((with_reducible refine gate_callee (f := 28) rfl ?_); refine goesL_ (some 3) rfl rfl Try.func28 (by kernel_rfl) rfl #[.string (⟨#[97, 32, 98, 123, 99, 58, 100, 33, 105, 109, 112, 111, 114, 116, 97, 110, 116, 59, 101, 125, 32, 64, 120, 32, 121, 59, 32, 102, 123, 125]⟩ : ByteArray)] rfl (by (try simp only [List.map_toArray, List.map_cons, List.map_nil]); first | done | rfl | (simp only [List.length_drop, List.length_take]; rfl)) ?_; (with_reducible refine (gouachelaw03_values.calls k (⟨#[97, 32, 98, 123, 99, 58, 100, 33, 105, 109, 112, 111, 114, 116, 97, 110, 116, 59, 101, 125, 32, 64, 120, 32, 121, 59, 32, 102, 123, 125]⟩ : ByteArray) t101 _ A1.out).mono ?_); rintro e w37 ⟨v102, rfl, ho0, hb⟩; refine ⟨_, rfl, ?_⟩; have n0_ := Aside0.mk (Kd.N_lower (Kd.N_mono (ok' := fun k_ => True) (Kd.R_N (Kd.R_bound ho0)) (fun k_ hk_ => trivial)) (below_size (by repeat (first | (with_reducible first | exact HB.out | apply below_alloc | apply pw_below_drewN | apply below_drew1) | exact HB.out)))); have n1_ := Aside0.mk (below_step (by repeat (first | (with_reducible first | exact HB.out | apply below_alloc | apply pw_below_drewN | apply below_drew1) | exact HB.out)) hb); clear HB; have HO103 := n0_; have HB := n1_; clear n0_ n1_; (try clear hb); (try clear hb2); (try clear hk); (try clear hi); (try clear ho0); obtain ⟨Ao38, co38, eo38⟩ := Kd.N_slice HO103.out; subst eo38) | ((with_reducible refine gate_callee (f := 15) rfl ?_); refine goesL_ (some 4) rfl rfl Try.func15 (by kernel_rfl) rfl #[.slice Ao38 t101.length co38] rfl (by (try simp only [List.map_toArray, List.map_cons, List.map_nil]); first | done | rfl | (simp only [List.length_drop, List.length_take]; rfl)) ?_; (with_reducible refine (parse_Rules.calls (fun k_ => True) _ _ t101 t104 _ ?side1 A2.out).mono ?_); (case side1 => exact Kd.N_V (HO103.out)); rintro e w39 ⟨v105, rfl, ho0, hb⟩; refine ⟨_, rfl, ?_⟩; have n0_ := Aside0.mk (Kd.N_elder' (by (with_reducible repeat (first | apply Kd.N_alloc | apply Kd.N_drewN | apply Kd.N_drew)); exact HO103.out) (Kd.N_base ho0) hb); have n1_ := Aside0.mk (Kd.N_lower (Kd.N_mono (ok' := fun k_ => True) ho0 (fun k_ hk_ => trivial)) (below_size (by repeat (first | (with_reducible first | exact HB.out | apply below_alloc | apply pw_below_drewN | apply below_drew1) | exact HB.out)))); have n2_ := Aside0.mk (below_step (by repeat (first | (with_reducible first | exact HB.out | apply below_alloc | apply pw_below_drewN | apply below_drew1) | exact HB.out)) hb); clear HO103; clear HB; have HO103 := n0_; have HO106 := n1_; have HB := n2_; clear n0_ n1_ n2_; (try clear hb); (try clear hb2); (try clear hk); (try clear hi); (try clear ho0); obtain ⟨Ao40, co40, eo40⟩ := Kd.N_slice HO106.out; subst eo40; have p107 : 0 ≤ (0 : Int) := (by omega); have q107 : 0 < (t104.length : Int) := of_decide_eq_true (by first | (with_reducible assumption) | assumption); obtain ⟨ad107, A107_0, c107_0, A107_1, c107_1, e107, hx107_0, hx107_1, hl107_0, hi107_0, hl107_1, hi107_1⟩ := at_T36 (Kd.N_reads' HO106.out).2.2 0 p107 q107; cases e107; obtain ⟨ce107, hce107, hMe107, hcc107⟩ := Kd.N_get HO106.out z36 0 p107 (by first | exact q107 | exact of_decide_eq_true (by first | (with_reducible assumption) | assumption) | (have e_ := (Kd.N_reads' HO106.out).1; omega)); obtain ⟨ua107_0, uc107_0, ua107_1, uc107_1, rfl, ul107_0, ge107_0, ul107_1, ge107_1⟩ := k36_openF hMe107; have hv107_0 := hcc107 0 _ rfl; rw [Nat.add_zero] at hv107_0; replace hv107_0 := Option.some.inj (hv107_0.symm.trans hx107_0); injection hv107_0 with hva_ hvn_ hvc_; rw [hva_] at ge107_0; rw [hvc_] at ul107_0; have HL107_0 := Aside0.mk (show Kd.V k45 45 _ w.heap.size _ _ ((rd_T36 t104 0).f0) from Kd.V_mk ul107_0 ge107_0); clear hva_ hvn_ hvc_ ge107_0 ul107_0; have hv107_1 := hcc107 1 _ rfl; rw [add_field _ _ 1 (by omega)] at hv107_1; replace hv107_1 := Option.some.inj (hv107_1.symm.trans hx107_1); injection hv107_1 with hva_ hvn_ hvc_; rw [hva_] at ge107_1; rw [hvc_] at ul107_1; have HL107_1 := Aside0.mk (show Kd.V k45 45 _ w.heap.size _ _ ((rd_T36 t104 0).f1) from Kd.V_mk ul107_1 ge107_1); clear hva_ hvn_ hvc_ ge107_1 ul107_1; clear hcc107 hce107; have qi107 : (0 < t104.length) = True := eq_true (by omega); (try rw [show ((0 : Int)).toNat = 0 from rfl] at hx107_0); (try rw [show 0 * 2 = 0 from rfl] at hx107_0); (try rw [Addr.add_zero'] at hx107_0); (try rw [show ((0 : Int)).toNat = 0 from rfl] at hx107_1); (try rw [show 0 * 2 = 0 from rfl] at hx107_1); (try rw [Addr.add_zero'] at hx107_1); have HR107_0 := Aside0.mk hi107_0; have HC107_0 := Aside0.mk hl107_0; clear hi107_0 hl107_0; have HR107_1 := Aside0.mk hi107_1; have HC107_1 := Aside0.mk hl107_1; clear hi107_1 hl107_1; replace p107 := eq_true p107; replace q107 := eq_true q107) | ((with_reducible refine gate_callee (f := 21) rfl ?_); refine goesL_ (some 12) rfl rfl Try.func21 (by kernel_rfl) rfl #[.slice A107_1 ((rd_T36 t104 0).f1).length c107_1] rfl (by (try simp only [List.map_toArray, List.map_cons, List.map_nil]); first | done | rfl | (simp only [List.length_drop, List.length_take]; rfl)) ?_; (with_reducible refine (parse_Decls.calls (fun k_ => (True ∧ some k_ ≠ (.slice (some ad107) t104.length co40 : Value).ownBlock)) _ _ ((rd_T36 t104 0).f1) t108 _ ?side1 A5.out).mono ?_); (case side1 => exact HL107_1.out); rintro e w41 ⟨v109, rfl, ho0, hb⟩; refine ⟨_, rfl, ?_⟩; have n0_ := Aside0.mk (Kd.N_elder' (by (with_reducible repeat (first | apply Kd.N_alloc | apply Kd.N_drewN | apply Kd.N_drew)); exact HO103.out) (Kd.N_base ho0) hb); have n1_ := Aside0.mk (Kd.N_elder' (by (with_reducible repeat (first | apply Kd.N_alloc | apply Kd.N_drewN | apply Kd.N_drew)); exact HO106.out) (Kd.N_base ho0) hb); have n2_ := Aside0.mk (Kd.V_elder' (by (with_reducible repeat (first | apply Kd.V_alloc | apply Kd.V_drewN | apply Kd.V_drew)); exact HL107_0.out) (Kd.N_base ho0) hb); have n3_ := Aside0.mk (Kd.V_elder' (by (with_reducible repeat (first | apply Kd.V_alloc | apply Kd.V_drewN | apply Kd.V_drew)); exact HL107_1.out) (Kd.N_base ho0) hb); have n4_ := Aside0.mk (Kd.N_lower (Kd.N_mono (ok' := fun k_ => some k_ ≠ (.slice (some ad107) t104.length co40 : Value).ownBlock) ho0 (fun k_ hk_ => Or.elim hk_ (fun hs_ => hs_.2) (fun hn_ => (Kd.fresh' (Kd.N_lt (by (with_reducible repeat (first | apply Kd.N_alloc | apply Kd.N_drewN | apply Kd.N_drew)); exact HO106.out)) k_ hn_)))) (below_size (by repeat (first | (with_reducible first | exact HB.out | apply below_alloc | apply pw_below_drewN | apply below_drew1) | exact HB.out)))); have n5_ := Aside0.mk (Kd.C_below (by repeat (first | (with_reducible exact HR107_0.out) | (with_reducible refine Kd.C_alloc ?_ _) | (with_reducible refine Kd.C_drewN ?_ _) | (with_reducible refine Kd.C_drew ?_) | exact HR107_0.out)) hb); have n6_ := Aside0.mk (Kd.C_below (by repeat (first | (with_reducible exact HR107_1.out) | (with_reducible refine Kd.C_alloc ?_ _) | (with_reducible refine Kd.C_drewN ?_ _) | (with_reducible refine Kd.C_drew ?_) | exact HR107_1.out)) hb); have n7_ := Aside0.mk (below_step (by repeat (first | (with_reducible first | exact HB.out | apply below_alloc | apply pw_below_drewN | apply below_drew1) | exact HB.out)) hb); clear HO103; clear HO106; clear HL107_0; clear HL107_1; clear HR107_0; clear HR107_1; clear HB; have HO103 := n0_; have HO106 := n1_; have HL107_0 := n2_; have HL107_1 := n3_; have HO110 := n4_; have HR107_0 := n5_; have HR107_1 := n6_; have HB := n7_; clear n0_ n1_ n2_ n3_ n4_ n5_ n6_ n7_; (try clear hb); (try clear hb2); (try clear hk); (try clear hi); (try clear ho0); obtain ⟨Ao42, co42, eo42⟩ := Kd.N_slice HO110.out; subst eo42))
        go_ret
        exact ⟨by first | rfl | (simp [errW_none, errW_some] <;> rfl) | (simp [*, errW_none, errW_some] <;> rfl), by repeat (first | (with_reducible first | exact HB.out | apply below_alloc | apply pw_below_drewN | apply below_drew1) | exact HB.out)⟩
    · rw [if_neg c4] at H
      exact absurd H (by simp)
  · rw [if_neg c3] at H
    have c3b0 : ((t104.length : Int) == 2) = false := beq_eq_false_iff_ne.mpr c3
    have c3b1 : ((t104.length : Int) != 2) = true := bne_iff_ne.mpr c3
    obtain rfl := Option.some.inj H
    go_enter Try.func10, Try.ntmps10
    go_wp2_with (first | ((with_reducible refine gate_callee (f := 28) rfl ?_); refine goesL_ (some 3) rfl rfl Try.func28 (by kernel_rfl) rfl #[.string (⟨#[97, 32, 98, 123, 99, 58, 100, 33, 105, 109, 112, 111, 114, 116, 97, 110, 116, 59, 101, 125, 32, 64, 120, 32, 121, 59, 32, 102, 123, 125]⟩ : ByteArray)] rfl (by (try simp only [List.map_toArray, List.map_cons, List.map_nil]); first | done | rfl | (simp only [List.length_drop, List.length_take]; rfl)) ?_; (with_reducible refine (gouachelaw03_values.calls k (⟨#[97, 32, 98, 123, 99, 58, 100, 33, 105, 109, 112, 111, 114, 116, 97, 110, 116, 59, 101, 125, 32, 64, 120, 32, 121, 59, 32, 102, 123, 125]⟩ : ByteArray) t101 _ A1.out).mono ?_); rintro e w43 ⟨v102, rfl, ho0, hb⟩; refine ⟨_, rfl, ?_⟩; have n0_ := Aside0.mk (Kd.N_lower (Kd.N_mono (ok' := fun k_ => True) (Kd.R_N (Kd.R_bound ho0)) (fun k_ hk_ => trivial)) (below_size (by repeat (first | (with_reducible first | exact HB.out | apply below_alloc | apply pw_below_drewN | apply below_drew1) | exact HB.out)))); have n1_ := Aside0.mk (below_step (by repeat (first | (with_reducible first | exact HB.out | apply below_alloc | apply pw_below_drewN | apply below_drew1) | exact HB.out)) hb); clear HB; have HO103 := n0_; have HB := n1_; clear n0_ n1_; (try clear hb); (try clear hb2); (try clear hk); (try clear hi); (try clear ho0); obtain ⟨Ao44, co44, eo44⟩ := Kd.N_slice HO103.out; subst eo44) | ((with_reducible refine gate_callee (f := 15) rfl ?_); refine goesL_ (some 4) rfl rfl Try.func15 (by kernel_rfl) rfl #[.slice Ao44 t101.length co44] rfl (by (try simp only [List.map_toArray, List.map_cons, List.map_nil]); first | done | rfl | (simp only [List.length_drop, List.length_take]; rfl)) ?_; (with_reducible refine (parse_Rules.calls (fun k_ => True) _ _ t101 t104 _ ?side1 A2.out).mono ?_); (case side1 => exact Kd.N_V (HO103.out)); rintro e w45 ⟨v105, rfl, ho0, hb⟩; refine ⟨_, rfl, ?_⟩; have n0_ := Aside0.mk (Kd.N_elder' (by (with_reducible repeat (first | apply Kd.N_alloc | apply Kd.N_drewN | apply Kd.N_drew)); exact HO103.out) (Kd.N_base ho0) hb); have n1_ := Aside0.mk (Kd.N_lower (Kd.N_mono (ok' := fun k_ => True) ho0 (fun k_ hk_ => trivial)) (below_size (by repeat (first | (with_reducible first | exact HB.out | apply below_alloc | apply pw_below_drewN | apply below_drew1) | exact HB.out)))); have n2_ := Aside0.mk (below_step (by repeat (first | (with_reducible first | exact HB.out | apply below_alloc | apply pw_below_drewN | apply below_drew1) | exact HB.out)) hb); clear HO103; clear HB; have HO103 := n0_; have HO106 := n1_; have HB := n2_; clear n0_ n1_ n2_; (try clear hb); (try clear hb2); (try clear hk); (try clear hi); (try clear ho0); obtain ⟨Ao46, co46, eo46⟩ := Kd.N_slice HO106.out; subst eo46))
    go_ret
    exact ⟨by first | rfl | (simp [errW_none, errW_some] <;> rfl) | (simp [*, errW_none, errW_some] <;> rfl), by repeat (first | (with_reducible first | exact HB.out | apply below_alloc | apply pw_below_drewN | apply below_drew1) | exact HB.out)⟩
end Go.Proofs.Ythaaajpmiofodaa.P
end
section
set_option linter.unusedVariables false
set_option linter.unusedSimpArgs false
namespace Go.Proofs.Ythaaajpmiofodaa.P
open Go.RowKit Go.Proofs.YthaaajpmiofodaaW.PrintWords Go.Proofs.YthaaajpmiofodaaW.PrintLast Go.Proofs.YthaaajpmiofodaaW.PrintMore
set_option maxRecDepth 100000 in
theorem lives_200 : gouachelaw03_lives.f 200 = some true := by kernel_rfl
end Go.Proofs.Ythaaajpmiofodaa.P
end
section
set_option linter.unusedVariables false
set_option linter.unusedSimpArgs false
namespace Go.Proofs.Ythaaajpmiofodaa.P
open Go.RowKit Go.Proofs.YthaaajpmiofodaaW.PrintWords Go.Proofs.YthaaajpmiofodaaW.PrintLast Go.Proofs.YthaaajpmiofodaaW.PrintMore
attribute [local go_sem] max2_int min2_int max_two min_two max_three min_three max_four min_four
set_option linter.unusedVariables false
set_option linter.unusedSimpArgs false
theorem N_empty {α : Type} (d : Kd α) (W : World) (e base : Nat) (ok : Nat → Prop) (hb : base ≤ W.heap.size) (hok : ok W.heap.size) : Kd.N d e (W.alloc (.cells #[] e)) base ok (.slice (some ⟨W.heap.size, 0, none⟩) 0 0) [] := by
  refine Kd.R_N ⟨fun k hk => ?_, [], ⟨by simp, .inr ⟨W.heap.size, 0, #[], rfl, hb, blk_new W _, Nat.le_refl _, Nat.zero_le _, by simp, by simp⟩⟩, Reps.none _ _⟩
  have : W.heap.size = k := by simpa [Value.ownBlock] using hk
  exact this ▸ hok
end Go.Proofs.Ythaaajpmiofodaa.P
end
