/- ParseTrims: for every input of bulk at most 1048576 the law returns true, and each argument reads behind the call as it read before. -/
import Derived.Test.YthaaajpmiofodaaZPTR6
import Derived.Test.YthaaajpmiofodaaZPTR7
import Derived.Test.YthaaajpmiofodaaZPTR8
import Derived.Test.YthaaajpmiofodaaZPTR9
import Derived.Deep.DeepCutAuto
section
set_option linter.unusedVariables false
set_option linter.unusedSimpArgs false
namespace Go.Proofs.Ythaaajpmiofodaa.P
open Go.RowKit Go.Proofs.YthaaajpmiofodaaW.PrintWords Go.Proofs.YthaaajpmiofodaaW.PrintLast Go.Proofs.YthaaajpmiofodaaW.PrintMore
set_option linter.unusedVariables false
set_option linter.unusedSimpArgs false
theorem bulk_nil : bulkV [] = 0 := by rw [bulkV]
theorem bulk_append : ∀ l m : List S45, bulkV (l ++ m) = bulkV l + bulkV m
  | [], m => by rw [bulk_nil]; simp
  | x :: l, m => by rw [List.cons_append, bulkV, bulkV, bulk_append l m]; omega
theorem bulk_mem : ∀ (l : List S45) (x : S45), x ∈ l → 1 + x.f0.f1.size + bulkV x.f1 ≤ bulkV l
  | y :: l, x, h => by
    rw [bulkV]
    rcases List.mem_cons.1 h with rfl | h
    · omega
    · have := bulk_mem l x h; omega
theorem bulk_len : ∀ l : List S45, l.length ≤ bulkV l
  | [] => by simp
  | x :: l => by have := bulk_len l; rw [bulkV, List.length_cons]; omega
theorem bulk_rd (l : List S45) (j : Nat) : bulkV (rd_T45 l (j : Nat)).f1 ≤ bulkV l := by
  by_cases h : j < l.length
  · have := bulk_mem l _ (rd45_mem l j h); omega
  · have : rd_T45 l (j : Nat) = z45 := by simp [rd_T45, List.getD_eq_getElem?_getD, h]
    rw [this]
    show bulkV [] ≤ _
    rw [bulk_nil]; omega
theorem bulk_dropWhile (p : S45 → Bool) : ∀ l : List S45, bulkV (l.dropWhile p) ≤ bulkV l
  | [] => Nat.le_refl _
  | x :: l => by
    rw [List.dropWhile_cons]
    split
    · have := bulk_dropWhile p l; rw [bulkV]; omega
    · exact Nat.le_refl _
theorem bulk_reverse : ∀ l : List S45, bulkV l.reverse = bulkV l
  | [] => rfl
  | x :: l => by rw [List.reverse_cons, bulk_append, bulk_reverse l]; simp only [bulkV]; omega
theorem bulk_trim (l : List S45) : bulkV (trimS l) ≤ bulkV l := by
  unfold trimS trimBack
  rw [bulk_reverse]
  refine Nat.le_trans (bulk_dropWhile _ _) ?_
  rw [bulk_reverse]
  exact bulk_dropWhile _ _
theorem okLens_bulk : ∀ (N : Nat) (l : List S45), SizeOf.sizeOf l < N → bulkV l ≤ 4611686018427387904 → okLens l := by
  intro N
  induction N with
  | zero => intro l h; omega
  | succ N ih =>
    intro l hN hb
    cases l with
    | nil => simp [okLens]
    | cons x l =>
      have h1 := bulk_len (x :: l)
      rw [okLens]
      rw [bulkV] at hb h1
      exact ⟨by omega, ih _ (by cases x; simp at hN ⊢; omega) (by omega), ih _ (by simp at hN; omega) (by omega)⟩
theorem ok_bulk (l : List S45) (h : bulkV l ≤ 1048576) : okLens l := okLens_bulk _ l (Nat.lt_succ_self _) (by omega)
def countS : List S45 → Nat
  | [] => 0
  | x :: l => 1 + countS x.f1 + countS l
termination_by l => SizeOf.sizeOf l
decreasing_by
  · cases x; simp; omega
  · simp; omega
theorem count_bulk : ∀ (N : Nat) (l : List S45), SizeOf.sizeOf l < N → countS l ≤ bulkV l := by
  intro N
  induction N with
  | zero => intro l h; omega
  | succ N ih =>
    intro l hN
    cases l with
    | nil => rw [countS]; omega
    | cons x l =>
      have h1 := ih x.f1 (by cases x; simp at hN ⊢; omega)
      have h2 := ih l (by simp at hN; omega)
      rw [countS, bulkV]; omega
theorem count_kid : ∀ (l : List S45) (j : Nat), j < l.length → 1 + countS (rd_T45 l (j : Nat)).f1 + countS (l.drop (j + 1)) = countS (l.drop j) := by
  intro l j h
  rw [rd45_drop l j h, countS]
theorem ev_Count_l0 (l : List S45) (hb : countS l ≤ 1048576) (hl : l.length ≤ 1048576)
    (hk : ∀ j, j < l.length → Ev (fun k => gouacheref03_Count.f k (rd_T45 l (j : Nat)).f1) (countS (rd_T45 l (j : Nat)).f1 : Int)) :
    ∀ (d i acc : Nat), i + d = l.length → acc + countS (l.drop i) = countS l → Ev (fun k => gouacheref03_Count.l0 k (acc : Int) l (l.length : Int) (i : Nat)) (countS l : Int) := by
  intro d
  induction d with
  | zero =>
    intro i acc hi ha
    refine Ev.step (fun k => by unfold gouacheref03_Count.l0; exact rfl) ?_
    refine Ev.ifn (by omega) ?_
    rw [List.drop_eq_nil_of_le (by omega), countS] at ha
    have : (acc : Int) = (countS l : Int) := by omega
    rw [this]
    exact Ev.now _
  | succ d ih =>
    intro i acc hi ha
    have hc := count_kid l i (by omega)
    refine Ev.step (fun k => by unfold gouacheref03_Count.l0; exact rfl) ?_
    refine Ev.ifp (by omega) (Ev.ifp (by omega) (Ev.ifp (by omega) ?_))
    refine Ev.bind (hk i (by omega)) ?_
    have hw : wrap64 ((i : Int) + 1) = ((i + 1 : Nat) : Int) := by rw [w64 (by omega) (by omega)]; omega
    have hw2 : wrap64 ((acc : Int) + wrap64 (1 + (countS (rd_T45 l (i : Nat)).f1 : Int))) = ((acc + (1 + countS (rd_T45 l (i : Nat)).f1) : Nat) : Int) := by
      rw [w64 (x := 1 + (countS (rd_T45 l (i : Nat)).f1 : Int)) (by omega) (by omega), w64 (by omega) (by omega)]; omega
    rw [hw, hw2]
    exact ih (i + 1) _ (by omega) (by omega)
theorem ev_Count : ∀ (N : Nat) (l : List S45), SizeOf.sizeOf l < N → bulkV l ≤ 1048576 → Ev (fun k => gouacheref03_Count.f k l) (countS l : Int) := by
  intro N
  induction N with
  | zero => intro l h; omega
  | succ N ih =>
    intro l hN hb
    have h1 := count_bulk _ l (Nat.lt_succ_self _)
    have h2 := bulk_len l
    refine Ev.step (fun k => by unfold gouacheref03_Count.f; exact rfl) ?_
    exact ev_Count_l0 l (by omega) (by omega) (fun j hj => ih _ (by have := z45_size l j hj; omega) (by have := bulk_rd l j; omega)) l.length 0 0 (by omega) (by simp)
theorem ev_great (l : List S45) (hb : bulkV l ≤ 1048576) : ∃ b, Ev (fun k => gouachelaw03_great.f k l) b := by
  unfold gouachelaw03_great.f
  have h1 := ev_Deep _ l 100 (Nat.lt_succ_self _) (ok_bulk l hb) (by omega) (by omega)
  cases hd : deepS l 100 with
  | true => exact ⟨true, Ev.bind h1 (by rw [hd]; exact Ev.ifp rfl (Ev.now true))⟩
  | false => exact ⟨_, Ev.bind h1 (by rw [hd]; exact Ev.ifn (by simp) (Ev.bind (ev_Count _ l (Nat.lt_succ_self _) hb) (Ev.now _)))⟩
end Go.Proofs.Ythaaajpmiofodaa.P
end
section
set_option linter.unusedVariables false
set_option linter.unusedSimpArgs false
namespace Go.Proofs.Ythaaajpmiofodaa.P
open Go.RowKit Go.Proofs.YthaaajpmiofodaaW.PrintWords Go.Proofs.YthaaajpmiofodaaW.PrintLast Go.Proofs.YthaaajpmiofodaaW.PrintMore
theorem dropWhile_head (p : S45 → Bool) : ∀ l : List S45, ∀ x t, l.dropWhile p = x :: t → p x = false
  | [], _, _, h => by simp at h
  | y :: l, x, t, h => by
    rw [List.dropWhile_cons] at h
    split at h
    · exact dropWhile_head p l x t h
    · rename_i hy
      injection h with h1 h2
      subst h1
      simpa using hy
theorem dropWhile_keep (p : S45 → Bool) : ∀ l : List S45, (∀ x t, l = x :: t → p x = false) → l.dropWhile p = l
  | [], _ => rfl
  | y :: l, h => by rw [List.dropWhile_cons, h y l rfl]; simp
theorem trimBack_last (l : List S45) : ∀ x t, trimBack l = t ++ [x] → isSp x = false := by
  intro x t h
  unfold trimBack at h
  have h2 := congrArg List.reverse h
  rw [List.reverse_reverse, List.reverse_append] at h2
  exact dropWhile_head isSp _ x t.reverse h2
theorem trimBack_prefix (l : List S45) : ∃ t, l = trimBack l ++ t := by
  unfold trimBack
  have h := List.takeWhile_append_dropWhile (p := isSp) (l := l.reverse)
  refine ⟨(l.reverse.takeWhile isSp).reverse, ?_⟩
  rw [← List.reverse_append, h, List.reverse_reverse]
theorem trimBack_keep (l : List S45) (h : ∀ x t, l = t ++ [x] → isSp x = false) : trimBack l = l := by
  unfold trimBack
  rw [dropWhile_keep isSp l.reverse (fun x t e => h x t.reverse (by have := congrArg List.reverse e; simpa using this)), List.reverse_reverse]
theorem trimS_head (l : List S45) (x : S45) (t : List S45) (h : trimS l = x :: t) : isSp x = false := by
  unfold trimS at h
  obtain ⟨u, hu⟩ := trimBack_prefix (l.dropWhile isSp)
  rw [h] at hu
  exact dropWhile_head isSp l x (t ++ u) hu
theorem trimS_last (l : List S45) (x : S45) (t : List S45) (h : trimS l = t ++ [x]) : isSp x = false := trimBack_last _ x t h
theorem trimS_trimS (l : List S45) : trimS (trimS l) = trimS l := by
  have h1 : (trimS l).dropWhile isSp = trimS l := dropWhile_keep isSp _ (fun x t e => trimS_head l x t e)
  have h2 : trimBack (trimS l) = trimS l := trimBack_keep _ (fun x t e => trimS_last l x t e)
  show trimBack ((trimS l).dropWhile isSp) = trimS l
  rw [h1, h2]
theorem trimS_first (l : List S45) (h : 0 < (trimS l).length) : ((rd_T45 (trimS l) 0).f0.f0 == 13) = false := by
  have e := head45 h
  exact trimS_head l _ _ e
theorem trimS_end (l : List S45) (p : Nat) (h : (trimS l).length = p + 1) : ((rd_T45 (trimS l) (p : Nat)).f0.f0 == 13) = false := by
  have e := take45 (l := trimS l) (p := p) (by omega)
  rw [← h, List.take_length] at e
  exact trimS_last l _ _ e
theorem sameS_append : ∀ a b c d : List S45, a.length = b.length → sameS (a ++ c) (b ++ d) = (sameS a b && sameS c d)
  | [], [], c, d, _ => by rw [List.nil_append, List.nil_append, sameS]; simp
  | x :: a, y :: b, c, d, h => by
    rw [List.cons_append, List.cons_append, sameS, sameS, sameS_append a b c d (by simpa using h)]
    simp only [Bool.and_assoc]
  | [], _ :: _, _, _, h => by simp at h
  | _ :: _, [], _, _, h => by simp at h
theorem tokEq_comm (a b : S43) : tokEq a b = tokEq b a := by
  have h : ∀ {α : Type} [BEq α] [LawfulBEq α] (x y : α), (x == y) = (y == x) := fun x y => by
    rw [Bool.eq_iff_iff]
    simp only [beq_iff_eq]
    exact eq_comm
  unfold tokEq
  rw [h a.f0, h a.f1.toList, h a.f2.toList, h a.f3, h a.f4]
theorem sameS_comm : ∀ l m : List S45, sameS l m = sameS m l
  | [], [] => rfl
  | x :: l, y :: m => by rw [sameS, sameS, tokEq_comm x.f0 y.f0, sameS_comm x.f1 y.f1, sameS_comm l m]
  | [], _ :: _ => by rw [sameS, sameS]
  | _ :: _, [] => by rw [sameS, sameS]
termination_by l => SizeOf.sizeOf l
decreasing_by
  · cases x; simp; omega
  · simp; omega
theorem sameS_both (l m : List S45) : sameS (l ++ m) (l ++ l) = sameS l m := by
  rw [sameS_append l l m l rfl, sameS_refl, Bool.true_and, sameS_comm]
theorem sameS_block (t : S43) (l m : List S45) : sameS [⟨t, l⟩] [⟨t, m⟩] = sameS l m := by
  rw [sameS, tokEq_refl, sameS]
  simp
end Go.Proofs.Ythaaajpmiofodaa.P
end
section
set_option linter.unusedVariables false
set_option linter.unusedSimpArgs false
namespace Go.Proofs.Ythaaajpmiofodaa.P
open Go.RowKit Go.Proofs.YthaaajpmiofodaaW.PrintWords Go.Proofs.YthaaajpmiofodaaW.PrintLast Go.Proofs.YthaaajpmiofodaaW.PrintMore
attribute [local go_sem] max2_int min2_int max_two min_two max_three min_three max_four min_four
set_option linter.unusedVariables false
set_option linter.unusedSimpArgs false
theorem same_at (A : Option Addr) (c n : Nat) (l : List S45) (A' : Option Addr) (c' n' : Nat) (m : List S45) (r : Bool) (w : World) (hl : Kd.C k45 w A l.length l) (hc : l.length ≤ c) (hm : Kd.C k45 w A' m.length m) (hc' : m.length ≤ c') (hn : l.length = n) (hn' : m.length = n') (hr : sameS l m = r) :
    Calls Try.prog 25 #[.slice A n c, .slice A' n' c'] w fun e w' => e = .returned (.bool r) ∧ Below w.heap.size w w' := by
  subst hn hn' hr
  exact parse_Same.calls 0 A c l A' c' m _ w hl hc hm hc' rfl
theorem block_C {W : World} {g : Nat} (l : List S45) (A : Option Addr) (c : Nat) (k : Int) (hb : W.heap[g]? = some (.cells #[.int .i64 k, .string ⟨#[]⟩, .string ⟨#[]⟩, .bool false, .bool false, .slice A l.length c] 45 (0, 0))) (hl : Kd.C k45 W A l.length l) (hc : l.length ≤ c) :
    Kd.C k45 W (some ⟨g, 0, none⟩) 1 [(⟨⟨k, ⟨#[]⟩, ⟨#[]⟩, false, false⟩, l⟩ : S45)] := by
  refine ⟨rfl, by decide, fun _ => ⟨_, rfl, fun j p hj => ?_⟩⟩
  cases j with
  | succ j => simp at hj
  | zero =>
    simp only [List.getElem?_cons_zero, Option.some.injEq] at hj
    subst hj
    refine ⟨_, rfl, k45_mk W ⟨⟨k, ⟨#[]⟩, ⟨#[]⟩, false, false⟩, l⟩ hc hl, fun i u hu => ?_⟩
    rw [Nat.zero_mul, Nat.zero_add, add_plain]
    refine (blk_cell hb i).trans ?_
    simpa using hu
set_option maxHeartbeats 16000000 in
set_option maxRecDepth 100000 in
theorem ptrims_calls (A0 : Option Addr) (c0 : Nat) (l : List S45) (A1 : Option Addr) (c1 : Nat) (m : List S45) (w : World) (hl : Kd.C k45 w A0 l.length l) (hc0 : l.length ≤ c0) (hm : Kd.C k45 w A1 m.length m) (hc1 : m.length ≤ c1) (hb : bulkV l ≤ 1048576) (hb2 : bulkV m ≤ 1048576) :
    Calls Try.prog 8 #[.slice A0 l.length c0, .slice A1 m.length c1] w fun e w' => e = .returned (.bool true) ∧ Below w.heap.size w w' := by
  have hu43 := Try.underlying43
  have hu45 := Try.underlying45
  obtain ⟨b1, h1⟩ := ev_great l hb
  obtain ⟨b2, h2⟩ := ev_great m hb2
  obtain ⟨k1, h1⟩ := Ev.rounds h1
  obtain ⟨k2, h2⟩ := Ev.rounds h2
  have hll := bulk_len l
  have hlm := bulk_len m
  have H1 := Aside0.mk h1
  have H2 := Aside0.mk h2
  have HL := Aside0.mk (Kd.C_F k45_heap hl)
  have HM := Aside0.mk (Kd.C_F k45_heap hm)
  have HC0 := Aside0.mk hc0
  have HC1 := Aside0.mk hc1
  have HBK := Aside0.mk hb
  have HLL := Aside0.mk (show l.length ≤ 1048576 ∧ m.length ≤ 1048576 by omega)
  have hlz : (l.length : Int) ≤ 1048576 := by omega
  clear hl hc0 hm hc1 hb hb2 h1 h2 hll hlm
  go_enter Try.func8, Try.ntmps8
  go_wp2_with fail
  refine (gouachelaw03_great.calls k1 A0 c0 l b1 _ (Kd.F_now HL.out) HC0.out H1.out).mono ?_
  rintro e W1 ⟨rfl, hb1⟩
  have HB := Aside0.mk hb1
  clear hb1
  cases b1 with
  | true =>
    go_wp2_with fail
    refine (gouachelaw03_lives.calls 200 true _ lives_200).mono ?_
    rintro e WL ⟨rfl, hbl⟩
    go_wp2
    go_ret
    exact ⟨rfl, below_step HB.out hbl⟩
  | false =>
    go_wp2_with fail
    refine (gouachelaw03_great.calls k2 A1 c1 m b2 _ (Kd.F_now (Kd.F_below HM.out HB.out)) HC1.out H2.out).mono ?_
    rintro e W2 ⟨rfl, hb2⟩
    replace HB := Aside0.mk (below_step HB.out hb2)
    clear hb2 H1 H2
    cases b2 with
    | true =>
      go_wp2_with fail
      refine (gouachelaw03_lives.calls 200 true _ lives_200).mono ?_
      rintro e WL ⟨rfl, hbl⟩
      go_wp2
      go_ret
      exact ⟨rfl, below_step HB.out hbl⟩
    | false =>
      replace HL := Aside0.mk (Kd.F_below HL.out HB.out)
      replace HM := Aside0.mk (Kd.F_below HM.out HB.out)
      have HW := Aside0.mk HB.out.size
      go_wp2_with fail
      refine (trim_calls _ A0 c0 l W2 HL.out HC0.out (fun k hk => Nat.lt_of_lt_of_le hk HW.out) (by have := HLL.out; omega)).mono ?_
      rintro e W3 ⟨v3, rfl, hN3, hb3⟩
      have htl := trimS_len l
      have HTT := Aside0.mk (trimS_trimS l)
      have HTB := Aside0.mk (bulk_trim l)
      have HT0 := Aside0.mk (trimS_first l)
      have HTP := Aside0.mk (trimS_end l)
      generalize trimS l = t at hN3 htl HTT HTB HT0 HTP
      obtain ⟨A2, c2, rfl⟩ := Kd.N_slice hN3
      have HN3 := Aside0.mk hN3
      have HC2 := Aside0.mk (Kd.N_reads' hN3).2.1
      have HB3 := Aside0.mk hb3
      have HTL := Aside0.mk htl
      have htz : (t.length : Int) ≤ 1048576 := by omega
      have htlz : (t.length : Int) ≤ (l.length : Int) := by omega
      have htlb : decide ((l.length : Int) < (t.length : Int)) = false := decide_eq_false (by omega)
      have htlb2 : decide (l.length < t.length) = false := decide_eq_false (by omega)
      clear hN3 hb3 htl
      have REST : ∀ W4, Below W3.heap.size W3 W4 → True := fun _ _ => trivial
      by_cases ht0 : t.length = 0
      · obtain rfl := List.eq_nil_of_length_eq_zero ht0
        clear ht0 REST
        go_wp2_with fail
        refine (trim_in (fun k => k < w.heap.size) W2 A2 c2 0 [] W3 HB3.out.size (Kd.N_F HN3.out) HC2.out (by have := HTL.out; have := HLL.out; omega) rfl).mono ?_
        rintro e W4 ⟨v4, rfl, hN4, hb4⟩
        rw [HTT.out] at hN4
        obtain ⟨A4, c4, rfl⟩ := Kd.N_slice hN4
        have HN4 := Aside0.mk hN4
        have HB4 := Aside0.mk hb4
        clear hN4 hb4
        go_wp2_with fail
        refine (same_at A4 c4 _ [] A2 c2 0 [] true _ (Kd.N_reads' HN4.out).2.2 (Kd.N_reads' HN4.out).2.1 (Kd.F_now (Kd.F_below (Kd.N_F HN3.out) HB4.out)) HC2.out rfl rfl (sameS_refl [])).mono ?_
        rintro e W5 ⟨rfl, hb5⟩
        have HB25 := Aside0.mk (below_step HB3.out (below_step HB4.out hb5))
        have HB5 := Aside0.mk (below_step HB.out HB25.out)
        have HL5 := Aside0.mk (Kd.F_below HL.out HB25.out)
        have HM5 := Aside0.mk (Kd.F_below HM.out HB25.out)
        clear hb5 HB4 HN4
        skip
        go_upto_region 6 with (fail)
        clear htz htlz htlb htlb2 hlz
        go_wp2_with (first
          | ((with_reducible refine gate_dst (N := 55) rfl ?_); refine Kd.N_lit k45 (w0 := W5) W5.heap.size 45 ?hg (N' := 55) ?hd (xs := ([] : List S45)) (inner := []) (ok := (okN (fun k => k < w.heap.size) W5)) (okp := (okN (fun k => k < w.heap.size) W5)) ?hr ?hp (fun _ hk => hk) (.inr (Nat.le_refl _)) (Below.refl _ _) (Nat.le_refl _) (by simp) ?_; (case hd => rfl); (case hg => rfl); (case hr => first | (go_simp; done) | (go_simp; rfl)); (case hp => exact (Reps.none _ _)); intro v55 w55 ho55 hb55 hg55 hat55; have HO55 := Aside0.mk ho55; have HG55 := Aside0.mk hb55; clear ho55 hb55 hg55 hat55)
          | ((with_reducible refine gate_builtin (b := .append) (xs := #[.tmp 55, .tmp 56]) rfl ?_); at_builtin; refine Kd.N_append_rows k45 (w0 := W5) W5.heap.size rfl (.tmp 55) (.tmp 56) 25 45 (.agg #[(.int .i64 0), (.string ⟨#[]⟩), (.string ⟨#[]⟩), (.bool false), (.bool false), (.slice none 0 0)]) 72 rfl Try.underlying25 info45 rfl (by decide) (by omega) v55 [] l _ _ _ (okN (fun k => k < w.heap.size) W5) (fun k => k < w.heap.size) rfl rfl HO55.out (Kd.F_below HL5.out HG55.out) ?ok57 ?fr57 HG55.out HG55.out.size (by have := HLL.out; simp; omega) ?_; (case ok57 => exact fun k hk => ⟨.inl hk, fun e => absurd (Kd.N_base HO55.out k e.symm) (Nat.not_le.2 (Nat.lt_of_lt_of_le hk HB5.out.size))⟩); (case fr57 => exact fun k hk => .inr (Nat.le_trans HG55.out.size hk)); intro v57 w57 ho57 hb57 hg57 hat57; rw [List.nil_append] at ho57; have HO57 := Aside0.mk ho57; have HG57 := Aside0.mk hb57; clear ho57 hb57 hg57 hat57)
          | ((with_reducible refine gate_builtin (b := .append) (xs := #[.tmp 57, .tmp 58]) rfl ?_); at_builtin; refine Kd.N_append_rows k45 (w0 := W5) W5.heap.size rfl (.tmp 57) (.tmp 58) 25 45 (.agg #[(.int .i64 0), (.string ⟨#[]⟩), (.string ⟨#[]⟩), (.bool false), (.bool false), (.slice none 0 0)]) 72 rfl Try.underlying25 info45 rfl (by decide) (by omega) v57 l m _ _ _ (okN (fun k => k < w.heap.size) W5) (fun k => k < w.heap.size) rfl rfl HO57.out (Kd.F_below HM5.out HG57.out) ?ok59 ?fr59 HG57.out HG57.out.size (by have := HLL.out; omega) ?_; (case ok59 => exact fun k hk => ⟨.inl hk, fun e => absurd (Kd.N_base HO57.out k e.symm) (Nat.not_le.2 (Nat.lt_of_lt_of_le hk HB5.out.size))⟩); (case fr59 => exact fun k hk => .inr (Nat.le_trans HG57.out.size hk)); intro v59 w59 ho59 hb59 hg59 hat59; obtain ⟨A59, c59, hv59⟩ := Kd.N_slice ho59; subst hv59; have HO59 := Aside0.mk ho59; have HG59 := Aside0.mk hb59; have HB59 := Aside0.mk (below_step HB5.out hb59); have HL59 := Aside0.mk (Kd.F_below HL5.out hb59); clear ho59 hb59 hg59 hat59)
          | ((with_reducible refine gate_dst (N := 60) rfl ?_); refine Kd.N_lit k45 (w0 := w59) w59.heap.size 45 ?hg (N' := 60) ?hd (xs := ([] : List S45)) (inner := []) (ok := (okN (fun k => k < w.heap.size) w59)) (okp := (okN (fun k => k < w.heap.size) w59)) ?hr ?hp (fun _ hk => hk) (.inr (Nat.le_refl _)) (Below.refl _ _) (Nat.le_refl _) (by simp) ?_; (case hd => rfl); (case hg => rfl); (case hr => first | (go_simp; done) | (go_simp; rfl)); (case hp => exact (Reps.none _ _)); intro v60 w60 ho60 hb60 hg60 hat60; have HO60 := Aside0.mk ho60; have HG60 := Aside0.mk hb60; clear ho60 hb60 hg60 hat60)
          | ((with_reducible refine gate_builtin (b := .append) (xs := #[.tmp 60, .tmp 61]) rfl ?_); at_builtin; refine Kd.N_append_rows k45 (w0 := w59) w59.heap.size rfl (.tmp 60) (.tmp 61) 25 45 (.agg #[(.int .i64 0), (.string ⟨#[]⟩), (.string ⟨#[]⟩), (.bool false), (.bool false), (.slice none 0 0)]) 72 rfl Try.underlying25 info45 rfl (by decide) (by omega) v60 [] l _ _ _ (okN (fun k => k < w.heap.size) w59) (fun k => k < w.heap.size) rfl rfl HO60.out (Kd.F_below HL59.out HG60.out) ?ok62 ?fr62 HG60.out HG60.out.size (by have := HLL.out; simp; omega) ?_; (case ok62 => exact fun k hk => ⟨.inl hk, fun e => absurd (Kd.N_base HO60.out k e.symm) (Nat.not_le.2 (Nat.lt_of_lt_of_le hk HB59.out.size))⟩); (case fr62 => exact fun k hk => .inr (Nat.le_trans HG60.out.size hk)); intro v62 w62 ho62 hb62 hg62 hat62; rw [List.nil_append] at ho62; have HO62 := Aside0.mk ho62; have HG62 := Aside0.mk hb62; clear ho62 hb62 hg62 hat62)
          | ((with_reducible refine gate_builtin (b := .append) (xs := #[.tmp 62, .tmp 63]) rfl ?_); at_builtin; refine Kd.N_append_rows k45 (w0 := w59) w59.heap.size rfl (.tmp 62) (.tmp 63) 25 45 (.agg #[(.int .i64 0), (.string ⟨#[]⟩), (.string ⟨#[]⟩), (.bool false), (.bool false), (.slice none 0 0)]) 72 rfl Try.underlying25 info45 rfl (by decide) (by omega) v62 l l _ _ _ (okN (fun k => k < w.heap.size) w59) (fun k => k < w.heap.size) rfl rfl HO62.out (Kd.F_below HL59.out HG62.out) ?ok64 ?fr64 HG62.out HG62.out.size (by have := HLL.out; omega) ?_; (case ok64 => exact fun k hk => ⟨.inl hk, fun e => absurd (Kd.N_base HO62.out k e.symm) (Nat.not_le.2 (Nat.lt_of_lt_of_le hk HB59.out.size))⟩); (case fr64 => exact fun k hk => .inr (Nat.le_trans HG62.out.size hk)); intro v64 w64 ho64 hb64 hg64 hat64; obtain ⟨A64, c64, hv64⟩ := Kd.N_slice ho64; subst hv64; have HO64 := Aside0.mk ho64; have HG64 := Aside0.mk hb64; clear ho64 hb64 hg64 hat64)
          | fail)
        have HBE := Aside0.mk (below_step HB59.out HG64.out)
        have HL6 := Aside0.mk (Kd.F_below HL59.out HG64.out)
        have HM6 := Aside0.mk (Kd.F_below (Kd.F_below HM5.out HG59.out) HG64.out)
        have HBO := Aside0.mk (Kd.N_below HO59.out HG64.out)
        obtain ⟨r, hr⟩ : ∃ r, sameS l m = r := ⟨_, rfl⟩
        have HR := Aside0.mk hr
        clear hr
        refine (same_at A59 c59 _ (l ++ m) A64 c64 _ (l ++ l) r _ (Kd.N_reads' HBO.out).2.2 (Kd.N_reads' HBO.out).2.1 (Kd.N_reads' HO64.out).2.2 (Kd.N_reads' HO64.out).2.1 List.length_append List.length_append ((sameS_both l m).trans HR.out)).mono ?_
        rintro e W7 ⟨rfl, hb7⟩
        replace HBE := Aside0.mk (below_step HBE.out hb7)
        replace HL6 := Aside0.mk (Kd.F_below HL6.out hb7)
        replace HM6 := Aside0.mk (Kd.F_below HM6.out hb7)
        clear hb7 HBO HO64 HO59 HO55 HO57 HO60 HO62 HG55 HG57 HG60 HG62 HG64 HG59
        go_wp2_with fail
        refine (same_at A0 c0 _ l A1 c1 _ m r _ (Kd.F_now HL6.out) HC0.out (Kd.F_now HM6.out) HC1.out rfl rfl HR.out).mono ?_
        rintro e W8 ⟨rfl, hb8⟩
        replace HBE := Aside0.mk (below_step HBE.out hb8)
        replace HL6 := Aside0.mk (Kd.F_below HL6.out hb8)
        replace HM6 := Aside0.mk (Kd.F_below HM6.out hb8)
        clear hb8
        have hrr : (r != r) = false := by simp
        have hrr2 : (r == r) = true := by simp
        go_wp2_with fail
        have hbl1 := blk_alloc (blk_new W8 (.cells #[.int .i64 21, .string ⟨#[]⟩, .string ⟨#[]⟩, .bool false, .bool false, .slice A0 l.length c0] 45)) (.cells #[.int .i64 21, .string ⟨#[]⟩, .string ⟨#[]⟩, .bool false, .bool false, .slice A1 m.length c1] 45)
        have hbl2 : ((W8.alloc (.cells #[.int .i64 21, .string ⟨#[]⟩, .string ⟨#[]⟩, .bool false, .bool false, .slice A0 l.length c0] 45)).alloc (.cells #[.int .i64 21, .string ⟨#[]⟩, .string ⟨#[]⟩, .bool false, .bool false, .slice A1 m.length c1] 45)).heap[W8.heap.size + 1]? = some (.cells #[.int .i64 21, .string ⟨#[]⟩, .string ⟨#[]⟩, .bool false, .bool false, .slice A1 m.length c1] 45 (0, 0)) := by
          have := blk_new (W8.alloc (.cells #[.int .i64 21, .string ⟨#[]⟩, .string ⟨#[]⟩, .bool false, .bool false, .slice A0 l.length c0] 45)) (.cells #[.int .i64 21, .string ⟨#[]⟩, .string ⟨#[]⟩, .bool false, .bool false, .slice A1 m.length c1] 45)
          simpa using this
        have hbw := below_alloc (below_alloc (Below.refl W8.heap.size W8) (.cells #[.int .i64 21, .string ⟨#[]⟩, .string ⟨#[]⟩, .bool false, .bool false, .slice A0 l.length c0] 45)) (.cells #[.int .i64 21, .string ⟨#[]⟩, .string ⟨#[]⟩, .bool false, .bool false, .slice A1 m.length c1] 45)
        generalize (W8.alloc (.cells #[.int .i64 21, .string ⟨#[]⟩, .string ⟨#[]⟩, .bool false, .bool false, .slice A0 l.length c0] 45)).alloc (.cells #[.int .i64 21, .string ⟨#[]⟩, .string ⟨#[]⟩, .bool false, .bool false, .slice A1 m.length c1] 45) = W9 at hbl1 hbl2 hbw
        replace HL6 := Aside0.mk (Kd.F_below HL6.out hbw)
        replace HM6 := Aside0.mk (Kd.F_below HM6.out hbw)
        refine (same_at (some ⟨W8.heap.size, 0, none⟩) 1 1 [⟨⟨21, ⟨#[]⟩, ⟨#[]⟩, false, false⟩, l⟩] (some ⟨W8.heap.size + 1, 0, none⟩) 1 1 [⟨⟨21, ⟨#[]⟩, ⟨#[]⟩, false, false⟩, m⟩] r _ (block_C l A0 c0 21 hbl1 (Kd.F_now HL6.out) HC0.out) (Nat.le_refl _) (block_C m A1 c1 21 hbl2 (Kd.F_now HM6.out) HC1.out) (Nat.le_refl _) rfl rfl ((sameS_block _ l m).trans HR.out)).mono ?_
        rintro e W10 ⟨rfl, hb10⟩
        replace HBE := Aside0.mk (below_step (below_step HBE.out hbw) hb10)
        replace HL6 := Aside0.mk (Kd.F_below HL6.out hb10)
        replace HM6 := Aside0.mk (Kd.F_below HM6.out hb10)
        clear hb10 hbl1 hbl2 hbw
        go_wp2_with fail
        refine (same_at A0 c0 _ l A1 c1 _ m r _ (Kd.F_now HL6.out) HC0.out (Kd.F_now HM6.out) HC1.out rfl rfl HR.out).mono ?_
        rintro e W11 ⟨rfl, hb11⟩
        replace HBE := Aside0.mk (below_step HBE.out hb11)
        clear hb11
        go_wp2_with fail
        refine (gouachelaw03_lives.calls 200 true _ lives_200).mono ?_
        rintro e WL ⟨rfl, hbl⟩
        go_wp2
        go_ret
        exact ⟨rfl, below_step HBE.out hbl⟩
      · obtain ⟨p, hp⟩ : ∃ p, t.length = p + 1 := ⟨t.length - 1, by omega⟩
        have hk0 := HT0.out (by omega)
        have hkp := HTP.out p hp
        obtain ⟨ad, A5, c5, rfl, z0, z1, z2, z3, z4, z5, zl5, zi5⟩ := first45 (Kd.F_now (Kd.N_F HN3.out)) (by omega)
        obtain ⟨_, A6, c6, e6, y0, y1, y2, y3, y4, y5, yl5, yi5⟩ := elem45 (Kd.F_now (Kd.N_F HN3.out)) p (by omega)
        cases e6
        have HP := Aside0.mk hp
        generalize (rd_T45 t 0).f0.f0 = kz at z0 hk0
        generalize (rd_T45 t (p : Nat)).f0.f0 = kp at y0 hkp
        rw [hp] at htz htlz htlb htlb2 ⊢
        have hp0 : (0 : Int) ≤ (p : Int) := by omega
        clear ht0 REST z1 z2 z3 z4 z5 zl5 zi5 y1 y2 y3 y4 y5 yl5 yi5 hp
        go_wp2_with fail
        refine (trim_in (fun k => k < w.heap.size) W2 (some ad) c2 (p + 1) t W3 HB3.out.size (Kd.N_F HN3.out) HC2.out (by have := HTL.out; have := HLL.out; omega) HP.out).mono ?_
        rintro e W4 ⟨v4, rfl, hN4, hb4⟩
        rw [HTT.out] at hN4
        obtain ⟨A4, c4, rfl⟩ := Kd.N_slice hN4
        have HN4 := Aside0.mk hN4
        have HB4 := Aside0.mk hb4
        clear hN4 hb4 z0 y0 hk0 hkp
        go_wp2_with fail
        refine (same_at A4 c4 _ t (some ad) c2 (p + 1) t true _ (Kd.N_reads' HN4.out).2.2 (Kd.N_reads' HN4.out).2.1 (Kd.F_now (Kd.F_below (Kd.N_F HN3.out) HB4.out)) HC2.out rfl HP.out (sameS_refl t)).mono ?_
        rintro e W5 ⟨rfl, hb5⟩
        have HB25 := Aside0.mk (below_step HB3.out (below_step HB4.out hb5))
        have HB5 := Aside0.mk (below_step HB.out HB25.out)
        have HL5 := Aside0.mk (Kd.F_below HL.out HB25.out)
        have HM5 := Aside0.mk (Kd.F_below HM.out HB25.out)
        clear hb5 HB4 HN4
        have htlbI : decide ((l.length : Int) < (p : Int) + 1) = false := decide_eq_false (by omega)
        clear htz htlz hlz hp0 htlb
        go_upto_region 6 with (fail)
        clear htlbI htlb2
        go_wp2_with (first
          | ((with_reducible refine gate_dst (N := 55) rfl ?_); refine Kd.N_lit k45 (w0 := W5) W5.heap.size 45 ?hg (N' := 55) ?hd (xs := ([] : List S45)) (inner := []) (ok := (okN (fun k => k < w.heap.size) W5)) (okp := (okN (fun k => k < w.heap.size) W5)) ?hr ?hp (fun _ hk => hk) (.inr (Nat.le_refl _)) (Below.refl _ _) (Nat.le_refl _) (by simp) ?_; (case hd => rfl); (case hg => rfl); (case hr => first | (go_simp; done) | (go_simp; rfl)); (case hp => exact (Reps.none _ _)); intro v55 w55 ho55 hb55 hg55 hat55; have HO55 := Aside0.mk ho55; have HG55 := Aside0.mk hb55; clear ho55 hb55 hg55 hat55)
          | ((with_reducible refine gate_builtin (b := .append) (xs := #[.tmp 55, .tmp 56]) rfl ?_); at_builtin; refine Kd.N_append_rows k45 (w0 := W5) W5.heap.size rfl (.tmp 55) (.tmp 56) 25 45 (.agg #[(.int .i64 0), (.string ⟨#[]⟩), (.string ⟨#[]⟩), (.bool false), (.bool false), (.slice none 0 0)]) 72 rfl Try.underlying25 info45 rfl (by decide) (by omega) v55 [] l _ _ _ (okN (fun k => k < w.heap.size) W5) (fun k => k < w.heap.size) rfl rfl HO55.out (Kd.F_below HL5.out HG55.out) ?ok57 ?fr57 HG55.out HG55.out.size (by have := HLL.out; simp; omega) ?_; (case ok57 => exact fun k hk => ⟨.inl hk, fun e => absurd (Kd.N_base HO55.out k e.symm) (Nat.not_le.2 (Nat.lt_of_lt_of_le hk HB5.out.size))⟩); (case fr57 => exact fun k hk => .inr (Nat.le_trans HG55.out.size hk)); intro v57 w57 ho57 hb57 hg57 hat57; rw [List.nil_append] at ho57; have HO57 := Aside0.mk ho57; have HG57 := Aside0.mk hb57; clear ho57 hb57 hg57 hat57)
          | ((with_reducible refine gate_builtin (b := .append) (xs := #[.tmp 57, .tmp 58]) rfl ?_); at_builtin; refine Kd.N_append_rows k45 (w0 := W5) W5.heap.size rfl (.tmp 57) (.tmp 58) 25 45 (.agg #[(.int .i64 0), (.string ⟨#[]⟩), (.string ⟨#[]⟩), (.bool false), (.bool false), (.slice none 0 0)]) 72 rfl Try.underlying25 info45 rfl (by decide) (by omega) v57 l m _ _ _ (okN (fun k => k < w.heap.size) W5) (fun k => k < w.heap.size) rfl rfl HO57.out (Kd.F_below HM5.out HG57.out) ?ok59 ?fr59 HG57.out HG57.out.size (by have := HLL.out; omega) ?_; (case ok59 => exact fun k hk => ⟨.inl hk, fun e => absurd (Kd.N_base HO57.out k e.symm) (Nat.not_le.2 (Nat.lt_of_lt_of_le hk HB5.out.size))⟩); (case fr59 => exact fun k hk => .inr (Nat.le_trans HG57.out.size hk)); intro v59 w59 ho59 hb59 hg59 hat59; obtain ⟨A59, c59, hv59⟩ := Kd.N_slice ho59; subst hv59; have HO59 := Aside0.mk ho59; have HG59 := Aside0.mk hb59; have HB59 := Aside0.mk (below_step HB5.out hb59); have HL59 := Aside0.mk (Kd.F_below HL5.out hb59); clear ho59 hb59 hg59 hat59)
          | ((with_reducible refine gate_dst (N := 60) rfl ?_); refine Kd.N_lit k45 (w0 := w59) w59.heap.size 45 ?hg (N' := 60) ?hd (xs := ([] : List S45)) (inner := []) (ok := (okN (fun k => k < w.heap.size) w59)) (okp := (okN (fun k => k < w.heap.size) w59)) ?hr ?hp (fun _ hk => hk) (.inr (Nat.le_refl _)) (Below.refl _ _) (Nat.le_refl _) (by simp) ?_; (case hd => rfl); (case hg => rfl); (case hr => first | (go_simp; done) | (go_simp; rfl)); (case hp => exact (Reps.none _ _)); intro v60 w60 ho60 hb60 hg60 hat60; have HO60 := Aside0.mk ho60; have HG60 := Aside0.mk hb60; clear ho60 hb60 hg60 hat60)
          | ((with_reducible refine gate_builtin (b := .append) (xs := #[.tmp 60, .tmp 61]) rfl ?_); at_builtin; refine Kd.N_append_rows k45 (w0 := w59) w59.heap.size rfl (.tmp 60) (.tmp 61) 25 45 (.agg #[(.int .i64 0), (.string ⟨#[]⟩), (.string ⟨#[]⟩), (.bool false), (.bool false), (.slice none 0 0)]) 72 rfl Try.underlying25 info45 rfl (by decide) (by omega) v60 [] l _ _ _ (okN (fun k => k < w.heap.size) w59) (fun k => k < w.heap.size) rfl rfl HO60.out (Kd.F_below HL59.out HG60.out) ?ok62 ?fr62 HG60.out HG60.out.size (by have := HLL.out; simp; omega) ?_; (case ok62 => exact fun k hk => ⟨.inl hk, fun e => absurd (Kd.N_base HO60.out k e.symm) (Nat.not_le.2 (Nat.lt_of_lt_of_le hk HB59.out.size))⟩); (case fr62 => exact fun k hk => .inr (Nat.le_trans HG60.out.size hk)); intro v62 w62 ho62 hb62 hg62 hat62; rw [List.nil_append] at ho62; have HO62 := Aside0.mk ho62; have HG62 := Aside0.mk hb62; clear ho62 hb62 hg62 hat62)
          | ((with_reducible refine gate_builtin (b := .append) (xs := #[.tmp 62, .tmp 63]) rfl ?_); at_builtin; refine Kd.N_append_rows k45 (w0 := w59) w59.heap.size rfl (.tmp 62) (.tmp 63) 25 45 (.agg #[(.int .i64 0), (.string ⟨#[]⟩), (.string ⟨#[]⟩), (.bool false), (.bool false), (.slice none 0 0)]) 72 rfl Try.underlying25 info45 rfl (by decide) (by omega) v62 l l _ _ _ (okN (fun k => k < w.heap.size) w59) (fun k => k < w.heap.size) rfl rfl HO62.out (Kd.F_below HL59.out HG62.out) ?ok64 ?fr64 HG62.out HG62.out.size (by have := HLL.out; omega) ?_; (case ok64 => exact fun k hk => ⟨.inl hk, fun e => absurd (Kd.N_base HO62.out k e.symm) (Nat.not_le.2 (Nat.lt_of_lt_of_le hk HB59.out.size))⟩); (case fr64 => exact fun k hk => .inr (Nat.le_trans HG62.out.size hk)); intro v64 w64 ho64 hb64 hg64 hat64; obtain ⟨A64, c64, hv64⟩ := Kd.N_slice ho64; subst hv64; have HO64 := Aside0.mk ho64; have HG64 := Aside0.mk hb64; clear ho64 hb64 hg64 hat64)
          | fail)
        have HBE := Aside0.mk (below_step HB59.out HG64.out)
        have HL6 := Aside0.mk (Kd.F_below HL59.out HG64.out)
        have HM6 := Aside0.mk (Kd.F_below (Kd.F_below HM5.out HG59.out) HG64.out)
        have HBO := Aside0.mk (Kd.N_below HO59.out HG64.out)
        obtain ⟨r, hr⟩ : ∃ r, sameS l m = r := ⟨_, rfl⟩
        have HR := Aside0.mk hr
        clear hr
        refine (same_at A59 c59 _ (l ++ m) A64 c64 _ (l ++ l) r _ (Kd.N_reads' HBO.out).2.2 (Kd.N_reads' HBO.out).2.1 (Kd.N_reads' HO64.out).2.2 (Kd.N_reads' HO64.out).2.1 List.length_append List.length_append ((sameS_both l m).trans HR.out)).mono ?_
        rintro e W7 ⟨rfl, hb7⟩
        replace HBE := Aside0.mk (below_step HBE.out hb7)
        replace HL6 := Aside0.mk (Kd.F_below HL6.out hb7)
        replace HM6 := Aside0.mk (Kd.F_below HM6.out hb7)
        clear hb7 HBO HO64 HO59 HO55 HO57 HO60 HO62 HG55 HG57 HG60 HG62 HG64 HG59
        go_wp2_with fail
        refine (same_at A0 c0 _ l A1 c1 _ m r _ (Kd.F_now HL6.out) HC0.out (Kd.F_now HM6.out) HC1.out rfl rfl HR.out).mono ?_
        rintro e W8 ⟨rfl, hb8⟩
        replace HBE := Aside0.mk (below_step HBE.out hb8)
        replace HL6 := Aside0.mk (Kd.F_below HL6.out hb8)
        replace HM6 := Aside0.mk (Kd.F_below HM6.out hb8)
        clear hb8
        have hrr : (r != r) = false := by simp
        have hrr2 : (r == r) = true := by simp
        go_wp2_with fail
        have hbl1 := blk_alloc (blk_new W8 (.cells #[.int .i64 21, .string ⟨#[]⟩, .string ⟨#[]⟩, .bool false, .bool false, .slice A0 l.length c0] 45)) (.cells #[.int .i64 21, .string ⟨#[]⟩, .string ⟨#[]⟩, .bool false, .bool false, .slice A1 m.length c1] 45)
        have hbl2 : ((W8.alloc (.cells #[.int .i64 21, .string ⟨#[]⟩, .string ⟨#[]⟩, .bool false, .bool false, .slice A0 l.length c0] 45)).alloc (.cells #[.int .i64 21, .string ⟨#[]⟩, .string ⟨#[]⟩, .bool false, .bool false, .slice A1 m.length c1] 45)).heap[W8.heap.size + 1]? = some (.cells #[.int .i64 21, .string ⟨#[]⟩, .string ⟨#[]⟩, .bool false, .bool false, .slice A1 m.length c1] 45 (0, 0)) := by
          have := blk_new (W8.alloc (.cells #[.int .i64 21, .string ⟨#[]⟩, .string ⟨#[]⟩, .bool false, .bool false, .slice A0 l.length c0] 45)) (.cells #[.int .i64 21, .string ⟨#[]⟩, .string ⟨#[]⟩, .bool false, .bool false, .slice A1 m.length c1] 45)
          simpa using this
        have hbw := below_alloc (below_alloc (Below.refl W8.heap.size W8) (.cells #[.int .i64 21, .string ⟨#[]⟩, .string ⟨#[]⟩, .bool false, .bool false, .slice A0 l.length c0] 45)) (.cells #[.int .i64 21, .string ⟨#[]⟩, .string ⟨#[]⟩, .bool false, .bool false, .slice A1 m.length c1] 45)
        generalize (W8.alloc (.cells #[.int .i64 21, .string ⟨#[]⟩, .string ⟨#[]⟩, .bool false, .bool false, .slice A0 l.length c0] 45)).alloc (.cells #[.int .i64 21, .string ⟨#[]⟩, .string ⟨#[]⟩, .bool false, .bool false, .slice A1 m.length c1] 45) = W9 at hbl1 hbl2 hbw
        replace HL6 := Aside0.mk (Kd.F_below HL6.out hbw)
        replace HM6 := Aside0.mk (Kd.F_below HM6.out hbw)
        refine (same_at (some ⟨W8.heap.size, 0, none⟩) 1 1 [⟨⟨21, ⟨#[]⟩, ⟨#[]⟩, false, false⟩, l⟩] (some ⟨W8.heap.size + 1, 0, none⟩) 1 1 [⟨⟨21, ⟨#[]⟩, ⟨#[]⟩, false, false⟩, m⟩] r _ (block_C l A0 c0 21 hbl1 (Kd.F_now HL6.out) HC0.out) (Nat.le_refl _) (block_C m A1 c1 21 hbl2 (Kd.F_now HM6.out) HC1.out) (Nat.le_refl _) rfl rfl ((sameS_block _ l m).trans HR.out)).mono ?_
        rintro e W10 ⟨rfl, hb10⟩
        replace HBE := Aside0.mk (below_step (below_step HBE.out hbw) hb10)
        replace HL6 := Aside0.mk (Kd.F_below HL6.out hb10)
        replace HM6 := Aside0.mk (Kd.F_below HM6.out hb10)
        clear hb10 hbl1 hbl2 hbw
        go_wp2_with fail
        refine (same_at A0 c0 _ l A1 c1 _ m r _ (Kd.F_now HL6.out) HC0.out (Kd.F_now HM6.out) HC1.out rfl rfl HR.out).mono ?_
        rintro e W11 ⟨rfl, hb11⟩
        replace HBE := Aside0.mk (below_step HBE.out hb11)
        clear hb11
        go_wp2_with fail
        refine (gouachelaw03_lives.calls 200 true _ lives_200).mono ?_
        rintro e WL ⟨rfl, hbl⟩
        go_wp2
        go_ret
        exact ⟨rfl, below_step HBE.out hbl⟩
def gouachelaw03_ParseTrims.f (_ : Nat) (l m : List S45) : Option Bool := if bulkV l ≤ 1048576 ∧ bulkV m ≤ 1048576 then some true else none
theorem gouachelaw03_ParseTrims.calls (k : Nat) (A0 : Option Addr) (c0 : Nat) (l : List S45) (A1 : Option Addr) (c1 : Nat) (m : List S45) (r : Bool) (w : World) (hl : Kd.C k45 w A0 l.length l) (hc0 : l.length ≤ c0) (hm : Kd.C k45 w A1 m.length m) (hc1 : m.length ≤ c1) (h : gouachelaw03_ParseTrims.f k l m = some r) :
    Calls Try.prog 8 #[.slice A0 l.length c0, .slice A1 m.length c1] w fun e w' => e = .returned (.bool r) ∧ Below w.heap.size w w' := by
  unfold gouachelaw03_ParseTrims.f at h
  split at h
  · rename_i hb
    obtain rfl := Option.some.inj h
    exact ptrims_calls A0 c0 l A1 c1 m w hl hc0 hm hc1 hb.1 hb.2
  · cases h
theorem pure_ParseTrims (l m : List S45) (hb : bulkV l ≤ 1048576) (hb2 : bulkV m ≤ 1048576) : ∃ k, gouachelaw03_ParseTrims.f k l m = some true := ⟨0, by unfold gouachelaw03_ParseTrims.f; rw [if_pos ⟨hb, hb2⟩]⟩
end Go.Proofs.Ythaaajpmiofodaa.P
end
