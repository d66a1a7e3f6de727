/- DomWords: for every input the law returns true, and each argument reads behind the call as it read before. -/
import Derived.Test.YtmkakofnabfinaaZDW5
import Derived.Test.YtmkakofnabfinaaZDW11
import Derived.Test.YtmkakofnabfinaaZDW18
import Derived.Shelf.Strings.FieldsFuncAny
section
set_option linter.unusedVariables false
set_option linter.unusedSimpArgs false
namespace Go.Proofs.Ytmkakofnabfinaa.P
open Go.RowKit Go.Proofs.YtmkakofnabfinaaW.PrintWords Go.Proofs.YtmkakofnabfinaaW.PrintLast Go.Proofs.YtmkakofnabfinaaW.PrintMore
open Go.Shelf Go.Lib
attribute [local go_sem] max2_int min2_int max_two min_two max_three min_three max_four min_four
set_option linter.unusedVariables false
set_option linter.unusedSimpArgs false
def ffRen : Go.Shelf.Ren := ⟨fun | 229 => 57 | n => n, fun | 31 => 33 | 40 => 104 | 152 => 145 | 154 => 147 | n => n, fun n => n⟩
theorem ffLays : Go.Proofs.Lays.n229 Try.prog ffRen := {
  mixed := by kernel_rfl
  f229 := by kernel_rfl
  t0 := by kernel_rfl
  a0 := fun w => by kernel_rfl
  z0 := fun w => by kernel_rfl
  v0 := fun w => by kernel_rfl
  t3 := by kernel_rfl
  a3 := fun w => by kernel_rfl
  z3 := fun w => by kernel_rfl
  v3 := fun w => by kernel_rfl
  t4 := by kernel_rfl
  a4 := fun w => by kernel_rfl
  z4 := fun w => by kernel_rfl
  v4 := fun w => by kernel_rfl
  t9 := by kernel_rfl
  a9 := fun w => by kernel_rfl
  z9 := fun w => by kernel_rfl
  v9 := fun w => by kernel_rfl
  t21 := by kernel_rfl
  a21 := fun w => by kernel_rfl
  z21 := fun w => by kernel_rfl
  v21 := fun w => by kernel_rfl
  t31 := by kernel_rfl
  a31 := fun w => by kernel_rfl
  z31 := fun w => by kernel_rfl
  v31 := fun w => by kernel_rfl
  t40 := by kernel_rfl
  a40 := fun w => by kernel_rfl
  z40 := fun w => by kernel_rfl
  v40 := fun w => by kernel_rfl
  t152 := by kernel_rfl
  a152 := fun w => by kernel_rfl
  z152 := fun w => by kernel_rfl
  v152 := fun w => by kernel_rfl
  t154 := by kernel_rfl
  a154 := fun w => by kernel_rfl
  z154 := fun w => by kernel_rfl
  v154 := fun w => by kernel_rfl }
theorem ff_eg : ∀ args w, (callFunc 58 args).run Try.prog w = .ok (.enter 58 args) w := enters_of Try.func58 (by kernel_rfl) rfl
theorem blank_nat (x : Nat) : text_Blank.f (x : Int) = some (blk1 x) := by
  unfold text_Blank.f blk1
  by_cases h1 : x = 32
  · subst h1; rfl
  · rw [if_neg (by omega)]
    by_cases h2 : x = 9
    · subst h2; rfl
    · rw [if_neg (by omega)]
      have e1 : (x == 32) = false := by simpa using h1
      have e2 : (x == 9) = false := by simpa using h2
      rw [e1, e2, Bool.false_or, Bool.false_or]
      congr 1
      by_cases h3 : x = 10
      · subst h3; rfl
      · have a : (x == 10) = false := by simpa using h3
        have b : ((x : Int) == 10) = false := by simp; omega
        rw [a, b]
theorem ff_pred (w : World) : PredAt Try.prog 58 #[] encR blk1 w := fun W x _ => by
  show Calls Try.prog 58 #[.int .i32 (x : Int)] W _
  refine (text_Blank.calls (x : Int) (blk1 x) W (blank_nat x)).mono ?_
  rintro e w' ⟨rfl, ⟨nd, rfl⟩⟩
  exact ⟨rfl, nd, rfl⟩
theorem fields_calls (s : ByteArray) (w : World) (hs : s.size ≤ 3000) : Calls Try.prog 57 #[.string s, .func (.func 58) #[] #[]] w fun e w' => ∃ v, e = .returned v ∧ Kd.R Kd.string 9 w' w.heap.size (fun _ => True) v (goFieldsP blk1 s) ∧ Below w.heap.size w w' := by
  have h := Any.strings_FieldsFunc ffLays 58 #[] ff_eg blk1 s w (by omega) (ff_pred w) (by kernel_rfl) (by kernel_rfl)
  change Calls Try.prog 57 _ _ _ at h
  refine h.mono ?_
  rintro e w' ⟨A, rfl, hA, hown, hb⟩
  exact ⟨_, rfl, Kd.R_of_own (enc := Value.string) (h1 := fun _ => rfl) hown (fun _ _ => trivial), hb⟩
set_option maxHeartbeats 4000000 in
set_option maxRecDepth 100000 in
theorem dwords_calls (s : ByteArray) (w : World) (hs : s.size ≤ 3000) : Calls Try.prog 18 #[.string s] w fun e w' => ∃ v, e = .returned v ∧ Kd.R Kd.string 9 w' w.heap.size (fun _ => True) v (goFieldsP blk1 s) ∧ Below w.heap.size w w' := by
  have HS := Aside0.mk hs
  clear hs
  go_enter Try.func18, Try.ntmps18
  go_wp2_with (first | (go_at_call 57; refine (fields_calls s _ HS.out).mono ?_; rintro e W1 ⟨v, rfl, hR, hb1⟩; have HR := Aside0.mk hR; have HB1 := Aside0.mk hb1; clear hR hb1) | fail)
  go_ret
  exact ⟨_, rfl, HR.out, HB1.out⟩
set_option maxHeartbeats 4000000 in
set_option maxRecDepth 100000 in
theorem words_law (s : ByteArray) (w : World) : Calls Try.prog 4 #[.string s] w fun e w' => e = .returned (.bool true) ∧ Below w.heap.size w w' := by
  by_cases c : 3000 < s.size
  · have d1 : decide (3000 < (s.size : Int)) = true := decide_eq_true (by omega)
    have d2 : decide (3000 < s.size) = true := decide_eq_true c
    clear c
    go_enter Try.func4, Try.ntmps4
    go_wp2_with fail
    go_ret
    exact ⟨rfl, Below.refl _ _⟩
  · have d1 : decide (3000 < (s.size : Int)) = false := decide_eq_false (by omega)
    have d2 : decide (3000 < s.size) = false := decide_eq_false c
    have HS := Aside0.mk (show s.size ≤ 3000 by omega)
    obtain ⟨k1, hk1⟩ := words_all s HS.out
    obtain ⟨k2, hk2⟩ := texts_same (goFieldsP blk1 s) (Nat.le_trans (fields_len s HS.out) (by decide))
    obtain ⟨L, hL⟩ : ∃ L, L = goFieldsP blk1 s := ⟨_, rfl⟩
    rw [← hL] at hk1 hk2
    have HK1 := Aside0.mk hk1
    have HK2 := Aside0.mk hk2
    have HLL := Aside0.mk hL
    clear c hk1 hk2 hL
    go_enter Try.func4, Try.ntmps4
    go_wp2_with (first
      | (go_at_call 18; refine (dwords_calls s _ HS.out).mono ?_; rintro e W1 ⟨v1, rfl, hR1, hb1⟩; rw [← HLL.out] at hR1; obtain ⟨A1, c1, rfl, hc1, hC1⟩ := Kd.R_reads hR1; have HC1 := Aside0.mk (And.intro hC1 hc1); have HB1 := Aside0.mk hb1; clear hR1 hb1 hC1 hc1)
      | (go_at_call 19; refine (gouacheref07_Words.calls k1 s L _ HK1.out).mono ?_; rintro e W2 ⟨v2, rfl, hR2, hb2⟩; obtain ⟨A2, c2, rfl, hc2, hC2⟩ := Kd.R_reads hR2; have HC2 := Aside0.mk (And.intro hC2 hc2); have HC1' := Aside0.mk (Kd.C_below HC1.out.1 hb2); have HB2 := Aside0.mk (below_then HB1.out HB1.out.size hb2); clear hR2 hb2 hC2 hc2)
      | (go_at_call 17; refine (gouacheref01_Texts.calls k2 A1 c1 L A2 c2 L true _ HC1'.out HC1.out.2 HC2.out.1 HC2.out.2 HK2.out).mono ?_; rintro e W3 ⟨rfl, hd3⟩; have HB3 := Aside0.mk (below_then HB2.out HB2.out.size hd3.below); clear hd3)
      | (go_at_call 15; refine (lives_calls _).mono ?_; rintro e W4 ⟨rfl, hb4⟩; have HB4 := Aside0.mk (below_then HB3.out HB3.out.size hb4); clear hb4)
      | fail)
    go_ret
    exact ⟨rfl, HB4.out⟩
theorem pure_DomWords (s : ByteArray) : ∃ k : Unit, True := ⟨(), trivial⟩
theorem lawDomWords.calls (u : Unit) (s : ByteArray) (r : Bool) (w : World) (h : True) : Calls Try.prog 4 #[.string s] w fun e w' => e = .returned (.bool true) ∧ Below w.heap.size w w' := words_law s w
end Go.Proofs.Ytmkakofnabfinaa.P
end
