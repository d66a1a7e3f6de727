/- DomDeep: for every input the law returns true, and each argument reads behind the call as it read before. -/
import Derived.Test.YtmkakofnabfinaaZDD18
import Derived.OpenShut
section
set_option linter.unusedVariables false
set_option linter.unusedSimpArgs false
namespace Go.Proofs.Ytmkakofnabfinaa.P
open Go.RowKit Go.Proofs.YtmkakofnabfinaaW.PrintWords Go.Proofs.YtmkakofnabfinaaW.PrintLast Go.Proofs.YtmkakofnabfinaaW.PrintMore
attribute [local go_sem] max2_int min2_int max_two min_two max_three min_three max_four min_four
set_option linter.unusedVariables false
set_option linter.unusedSimpArgs false
theorem DocF.ptr {w : World} {v : Value} {f : Nat → Option S56} {next : Int} (h : DocF w v f next) : ∃ p, v = .pointer (some p) := by
  obtain ⟨b, t, e, _⟩ := h
  exact ⟨_, e⟩
set_option maxHeartbeats 1000000 in
set_option maxRecDepth 100000 in
theorem deep_calls (n : Int) (w : World) (h0 : 0 ≤ n) (h1 : n < 18446744073709551616) :
    Calls Try.prog 3 #[.int .u64 n] w fun e w' => e = .returned (.bool true) ∧ Below w.heap.size w w' := by
  have HN := Aside0.mk (And.intro h0 h1)
  clear h0 h1
  go_enter Try.func3, Try.ntmps3
  go_upto_region 5 with (first
    | (go_at_call 13; refine (dnew_calls (fun _ => True) 3 ⟨#[97]⟩ true _ (fun _ _ => trivial) lives_n1).mono ?_; rintro e W1 ⟨v1, rfl, hD1, hb1⟩; have hd1 : DocF W1 v1 (chF 1) 2 := ch_one ▸ (show DocO (fun _ => True) W1 v1 (newF ⟨#[97]⟩) 2 from hD1).doc; obtain ⟨p1, rfl⟩ := hd1.ptr; have HD1 := Aside0.mk hd1; have HB1 := Aside0.mk hb1; clear hd1 hD1 hb1)
    | fail)
  obtain ⟨K, hK, hKr⟩ : ∃ K : Nat, wrap64 (wrap64 (n.tmod 4) + 510) = (K : Int) ∧ 510 ≤ K ∧ K ≤ 513 := by
    have h1 := HN.out
    rw [Int.tmod_eq_emod_of_nonneg h1.1]
    exact ⟨(n % 4).toNat + 510, by unfold wrap64; omega, by omega, by omega⟩
  rw [hK]
  have HK := Aside0.mk hKr
  clear hK hKr
  go_wp2_with fail
  go_loopg [3, 6, 7, 8, 9] 600 (fun kq v3 v6 v7 v8 v9 w' => ∃ (i : Nat) (p : Addr), v3 = .pointer (some p) ∧ v6 = .int .i64 i ∧ Aside0 (1 ≤ i ∧ i ≤ K ∧ i ≤ 512 ∧ i + kq = 601) ∧ Aside0 (DocF w' (.pointer (some p)) (chF i) ((i : Int) + 1)) ∧ Aside0 (Below w.heap.size w w'))
  case atStart => exact ⟨1, p1, rfl, rfl, ⟨by have := HK.out; omega⟩, HD1, HB1⟩
  case round =>
    clear HD1 HB1
    obtain ⟨i, p, rfl, rfl, HI, HD, HB⟩ := hrel
    cases gk with
    | zero => exact absurd HI.out (by omega)
    | succ g0 =>
      by_cases c : i < K
      · have d1 : decide (i < K) = true := decide_eq_true c
        have d1' : decide ((i : Int) < (K : Int)) = true := decide_eq_true (by omega)
        by_cases c2 : i < 512
        · have d2 : decide (512 ≤ (i : Int)) = false := decide_eq_false (by omega)
          have d2' : decide (512 ≤ i) = false := decide_eq_false (by omega)
          have hw : wrap64 ((i : Int) + 1) = (i : Int) + 1 := by unfold wrap64; omega
          have HC := Aside0.mk (And.intro c c2)
          clear c c2
          go_wp2_with (first
            | (go_at_call 14; refine (ch_O _ _ HI.out.1 HC.out.2 HD.out).mono ?_; rintro e W2 ⟨v2, rfl, hD2, hb2⟩; obtain ⟨p2, rfl⟩ := hD2.ptr; have HD2 := Aside0.mk hD2; have HB2 := Aside0.mk (below_then HB.out HB.out.size hb2); clear hD2 hb2)
            | fail)
          go_roundg g0
          case measure => omega
          case rel => exact ⟨i + 1, p2, rfl, by rw [show wrap64 ((i : Int) + 1) = ((i + 1 : Nat) : Int) by (have := HC.out; unfold wrap64; omega)], ⟨by have := HI.out; have := HC.out; omega⟩, ⟨by rw [Int.natCast_add]; exact HD2.out⟩, HB2⟩
        · have HX := Aside0.mk (show i = 512 by have := HI.out; omega)
          have d2 : decide (512 ≤ (i : Int)) = true := decide_eq_true (by omega)
          have d2' : decide (512 ≤ i) = true := decide_eq_true (by omega)
          have heq := fun w => doc_eq p w
          clear c c2
          go_wp2_with (first
            | (go_at_call 14; refine (ch_XI i HX.out _ _ HD.out).mono ?_; rintro e W2 ⟨rfl, hb2⟩; have HB2 := Aside0.mk (below_then HB.out HB.out.size hb2); clear hb2)
            | (go_at_call 15; refine (lives_calls _).mono ?_; rintro e W3 ⟨rfl, hb3⟩; have HB3 := Aside0.mk (below_then HB2.out HB2.out.size hb3); clear hb3)
            | fail)
          go_ret
          exact ⟨rfl, HB3.out⟩
      · have d1 : decide (i < K) = false := decide_eq_false c
        have d1' : decide ((i : Int) < (K : Int)) = false := decide_eq_false (by omega)
        have hiK : i = K ∧ (K = 510 ∨ K = 511 ∨ K = 512) := by have := HI.out; have := HK.out; omega
        obtain ⟨rfl, hc⟩ := hiK
        clear c
        rcases hc with rfl | rfl | rfl
        · have hD1 : DocF wr (.pointer (some p)) (chF 510) 511 := by
            have h := HD.out
            rw [show ((((510 : Nat)) : Int) + 1) = 511 by omega] at h
            exact h
          have HD1 := Aside0.mk hD1
          clear hD1
          go_upto_region 17 with (first
            | (go_at_call 14; refine (ddA_calls510 _ _ HD1.out).mono ?_; rintro e W3 ⟨v3, rfl, hD3, hb3⟩; obtain ⟨p3, rfl⟩ := hD3.ptr; have HD3 := Aside0.mk hD3; have HB3 := Aside0.mk (below_then HB.out HB.out.size hb3); clear hD3 hb3)
            | fail)
          go_upto_region 20 with (first
            | (go_at_call 14; refine (ddB_calls510 _ _ HD3.out).mono ?_; rintro e W4 ⟨v4, rfl, hD4, hb4⟩; obtain ⟨p4, rfl⟩ := hD4.ptr; have HD4 := Aside0.mk hD4; have HB4 := Aside0.mk (below_then HB3.out HB3.out.size hb4); clear hD4 hb4)
            | fail)
          have hw : wrap64 ((((510 : Nat)) : Int) + 2) = 512 := by kernel_rfl
          have hw' : wrap64 ((510 : Int) + 2) = 512 := by kernel_rfl
          go_wp2_with (first
            | (go_at_call 16; refine (ddM_calls510 _ _ HD4.out).mono ?_; rintro e W5 ⟨v5, rfl, hb5⟩; have HB5 := Aside0.mk (below_then HB4.out HB4.out.size hb5); clear hb5)
            | (go_at_call 15; refine (lives_calls _).mono ?_; rintro e W6 ⟨rfl, hb6⟩; have HB6 := Aside0.mk (below_then HB5.out HB5.out.size hb6); clear hb6)
            | fail)
          go_ret
          exact ⟨rfl, HB6.out⟩
        · have hD1 : DocF wr (.pointer (some p)) (chF 511) 512 := by
            have h := HD.out
            rw [show ((((511 : Nat)) : Int) + 1) = 512 by omega] at h
            exact h
          have HD1 := Aside0.mk hD1
          clear hD1
          go_upto_region 17 with (first
            | (go_at_call 14; refine (ddA_calls511 _ _ HD1.out).mono ?_; rintro e W3 ⟨v3, rfl, hD3, hb3⟩; obtain ⟨p3, rfl⟩ := hD3.ptr; have HD3 := Aside0.mk hD3; have HB3 := Aside0.mk (below_then HB.out HB.out.size hb3); clear hD3 hb3)
            | fail)
          go_upto_region 20 with (first
            | (go_at_call 14; refine (ddB_calls511 _ _ HD3.out).mono ?_; rintro e W4 ⟨v4, rfl, hD4, hb4⟩; obtain ⟨p4, rfl⟩ := hD4.ptr; have HD4 := Aside0.mk hD4; have HB4 := Aside0.mk (below_then HB3.out HB3.out.size hb4); clear hD4 hb4)
            | fail)
          have hw : wrap64 ((((511 : Nat)) : Int) + 2) = 513 := by kernel_rfl
          have hw' : wrap64 ((511 : Int) + 2) = 513 := by kernel_rfl
          go_wp2_with (first
            | (go_at_call 16; refine (ddM_calls511 _ _ HD4.out).mono ?_; rintro e W5 ⟨rfl, hb5⟩; have HB5 := Aside0.mk (below_then HB4.out HB4.out.size hb5); clear hb5)
            | (go_at_call 15; refine (lives_calls _).mono ?_; rintro e W6 ⟨rfl, hb6⟩; have HB6 := Aside0.mk (below_then HB5.out HB5.out.size hb6); clear hb6)
            | fail)
          go_ret
          exact ⟨rfl, HB6.out⟩
        · have hD1 : DocF wr (.pointer (some p)) (chF 512) 513 := by
            have h := HD.out
            rw [show ((((512 : Nat)) : Int) + 1) = 513 by omega] at h
            exact h
          have HD1 := Aside0.mk hD1
          clear hD1
          go_upto_region 17 with (first
            | (go_at_call 14; refine (ddA_calls512 _ _ HD1.out).mono ?_; rintro e W3 ⟨v3, rfl, hD3, hb3⟩; obtain ⟨p3, rfl⟩ := hD3.ptr; have HD3 := Aside0.mk hD3; have HB3 := Aside0.mk (below_then HB.out HB.out.size hb3); clear hD3 hb3)
            | fail)
          go_upto_region 20 with (first
            | (go_at_call 14; refine (ddB_calls512 _ _ HD3.out).mono ?_; rintro e W4 ⟨v4, rfl, hD4, hb4⟩; obtain ⟨p4, rfl⟩ := hD4.ptr; have HD4 := Aside0.mk hD4; have HB4 := Aside0.mk (below_then HB3.out HB3.out.size hb4); clear hD4 hb4)
            | fail)
          have hw : wrap64 ((((512 : Nat)) : Int) + 2) = 514 := by kernel_rfl
          have hw' : wrap64 ((512 : Int) + 2) = 514 := by kernel_rfl
          go_wp2_with (first
            | (go_at_call 16; refine (ddM_calls512 _ _ HD4.out).mono ?_; rintro e W5 ⟨rfl, hb5⟩; have HB5 := Aside0.mk (below_then HB4.out HB4.out.size hb5); clear hb5)
            | (go_at_call 15; refine (lives_calls _).mono ?_; rintro e W6 ⟨rfl, hb6⟩; have HB6 := Aside0.mk (below_then HB5.out HB5.out.size hb6); clear hb6)
            | fail)
          go_ret
          exact ⟨rfl, HB6.out⟩
theorem pure_DomDeep (n : Int) (h : (Lit.int .u64 n).wf = true) : ∃ k : Unit, 0 ≤ n ∧ n < 18446744073709551616 := ⟨(), by have := bounds_u64 h; omega⟩
theorem lawDomDeep.calls (k : Unit) (n : Int) (r : Bool) (w : World) (h : 0 ≤ n ∧ n < 18446744073709551616) : Calls Try.prog 3 #[.int .u64 n] w fun e w' => e = .returned (.bool true) ∧ Below w.heap.size w w' := deep_calls n w h.1 h.2
end Go.Proofs.Ytmkakofnabfinaa.P
end
