/- WalkOnce: for every input the law returns true, and each argument reads behind the call as it read before. -/
import Derived.Test.YtpnlbmeeihbjaaaZWC8
import Derived.Lib.OthersKept
section
set_option linter.unusedVariables false
set_option linter.unusedSimpArgs false
namespace Go.Proofs.Ytpnlbmeeihbjaaa.P
open Go.RowKit Go.Proofs.YtpnlbmeeihbjaaaW.PrintWords Go.Proofs.YtpnlbmeeihbjaaaW.PrintLast Go.Proofs.YtpnlbmeeihbjaaaW.PrintMore
open Go.Lib
attribute [local go_sem] max2_int min2_int max_two min_two max_three min_three max_four min_four
set_option linter.unusedVariables false
set_option linter.unusedSimpArgs false
def btw (lo hi c : Int) : Bool := decide (lo ≤ c) && decide (c ≤ hi)
def nameC (pos : Nat) (c : Int) : Bool := btw 97 122 c || (decide (0 < pos) && (c == 45 || c == 95 || btw 48 57 c))
def nameL (s : ByteArray) : Nat → Nat → Option Bool
  | 0, _ => none
  | n + 1, pos => if pos < s.size then (if nameC pos (Utf8.decode s pos).1 = true then nameL s n (pos + (Utf8.decode s pos).2) else some false) else some (!s.toList.isEmpty && decide ((s.size : Int) ≤ 64))
set_option maxHeartbeats 8000000 in
set_option maxRecDepth 100000 in
theorem in_calls (lo hi c : Int) (B1 B2 : Nat) (w : World) (h1 : w.cell? ⟨B1, 0, none⟩ = some (.int .i32 lo)) (h2 : w.cell? ⟨B2, 0, none⟩ = some (.int .i32 hi)) :
    Calls Try.prog 101 #[.int .i32 c, .pointer (some ⟨B1, 0, none⟩), .pointer (some ⟨B2, 0, none⟩)] w fun e w' => e = .returned (.bool (btw lo hi c)) ∧ Below w.heap.size w w' := by
  unfold btw
  by_cases k : lo ≤ c
  · have k1 : decide (lo ≤ c) = true := decide_eq_true k
    rw [k1]
    clear k
    go_enter Try.func101, Try.ntmps101
    go_wp2_with fail
    go_ret
    exact ⟨rfl, Below.refl _ _⟩
  · have k1 : decide (lo ≤ c) = false := decide_eq_false k
    rw [k1]
    clear k
    go_enter Try.func101, Try.ntmps101
    go_wp2_with fail
    go_ret
    exact ⟨rfl, Below.refl _ _⟩
set_option maxHeartbeats 8000000 in
set_option maxRecDepth 100000 in
theorem txwithin_calls (lo hi : Int) (w : World) :
    Calls Try.prog 80 #[.int .i32 lo, .int .i32 hi] w fun e w' => ∃ b1 b2, e = .returned (.func (.func 101) #[] #[.pointer (some ⟨b1, 0, none⟩), .pointer (some ⟨b2, 0, none⟩)]) ∧ w'.cell? ⟨b1, 0, none⟩ = some (.int .i32 lo) ∧ w'.cell? ⟨b2, 0, none⟩ = some (.int .i32 hi) ∧ Below w.heap.size w w' := by
  have hmf : ∀ (fn : Fn) (first cap : Array Value) (w : World), (Instr.makeFunc fn first cap).run Try.prog w = .ok (.func fn first cap) w := fun _ _ _ _ => rfl
  go_enter Try.func80, Try.ntmps80
  go_wp2_with fail
  go_ret
  exact ⟨_, _, rfl, (blk_cell (blk_alloc (blk_new _ _) _) 0).trans rfl, (blk_cell (heap_alloc2_new _ _ _) 0).trans rfl, below_alloc (below_alloc (Below.refl _ _) _) _⟩
set_option maxHeartbeats 8000000 in
set_option maxRecDepth 100000 in
theorem digit_calls (c : Int) (w : World) :
    Calls Try.prog 81 #[.int .i32 c] w fun e w' => e = .returned (.bool (btw 48 57 c)) ∧ Below w.heap.size w w' := by
  go_enter Try.func81, Try.ntmps81
  go_wp2_with (first
    | (go_at_call 80; refine (txwithin_calls 48 57 _).mono ?_; rintro e w1 ⟨b1, b2, rfl, h1, h2, hb1⟩; have HB1 := Aside0.mk hb1; have H12 := Aside0.mk (And.intro h1 h2); clear hb1 h1 h2)
    | fail)
  refine (in_calls 48 57 c b1 b2 _ H12.out.1 H12.out.2).mono ?_
  rintro e w2 ⟨rfl, hb2⟩
  have HB2 := Aside0.mk (below_then HB1.out HB1.out.size hb2)
  clear hb2
  go_wp2_with fail
  go_ret
  exact ⟨rfl, HB2.out⟩
set_option maxHeartbeats 8000000 in
set_option maxRecDepth 100000 in
theorem name_calls (n : Nat) (s : ByteArray) (r : Bool) (w : World) (hr : nameL s n 0 = some r) :
    Calls Try.prog 50 #[.string s] w fun e w' => e = .returned (.bool r) ∧ Below w.heap.size w w' := by
  have HR := Aside0.mk hr
  clear hr
  go_enter Try.func50, Try.ntmps50
  go_wp2_with fail
  go_loopg [3, 4, 11, 15] n (fun kq v3 v4 v11 v15 w' => ∃ (pos : Nat), Aside0 (w'.heap[w.heap.size]? = some (.stringIter s pos)) ∧ Aside0 (Below w.heap.size w w') ∧ Aside0 (nameL s kq pos = some r))
  case atStart => exact ⟨0, ⟨World.iter_heap w s 0⟩, ⟨below_alloc (Below.refl _ _) _⟩, HR⟩
  case round =>
    clear HR
    obtain ⟨pos, HI, HB, HE⟩ := hrel
    cases gk with
    | zero => exact absurd HE.out (by simp [nameL])
    | succ n =>
      by_cases c0 : pos < s.size
      · have hnx : ∀ ty, (Instr.next (.pointer (some ⟨w.heap.size, 0, none⟩)) true ty).run Try.prog wr = .ok (.tuple #[.bool true, .int .i64 pos, .int .i32 (Utf8.decode s pos).1]) (wr.iterAt w.heap.size s (pos + (Utf8.decode s pos).2)) := fun ty => run_next_any_at wr w.heap.size s pos ty HI.out c0
        have hE := HE.out
        rw [nameL, if_pos c0] at hE
        clear c0
        obtain ⟨c, hc⟩ : ∃ c : Int, c = ((Utf8.decode s pos).1 : Int) := ⟨_, rfl⟩
        rw [← hc] at hnx hE
        have HC := Aside0.mk hc
        clear hc
        have hpos : (0 < (pos : Int)) = (0 < pos) := propext (by omega)
        unfold nameC at hE
        cases k1 : btw 97 122 c with
        | true =>
          rw [k1, Bool.true_or, if_pos rfl] at hE
          have HE2 := Aside0.mk hE
          clear hE
          go_wp2_with (first | (go_at_call 80; refine (txwithin_calls 97 122 _).mono ?_; rintro e w1 ⟨b1, b2, rfl, h1, h2, hb1⟩; have HB1 := Aside0.mk (below_then (below_iterAt HB.out (Nat.le_refl _) s _) (below_iterAt HB.out (Nat.le_refl _) s _).size hb1); have HI1 := Aside0.mk ((hb1.block _ (by rw [iterAt_size]; exact blk_lt HI.out)).trans (iterAt_heap wr w.heap.size s pos _ HI.out)); have H12 := Aside0.mk (And.intro h1 h2); clear hb1 h1 h2) | fail)
          refine (in_calls 97 122 c b1 b2 _ H12.out.1 H12.out.2).mono ?_
          rintro e w2 ⟨rfl, hb2⟩
          have HB2 := Aside0.mk (below_then HB1.out HB1.out.size hb2)
          have HI2 := Aside0.mk ((hb2.block _ (blk_lt HI1.out)).trans HI1.out)
          clear hb2
          rw [k1]
          clear k1
          go_wp2_with fail
          go_roundg n
          case measure => omega
          case rel => exact ⟨_, HI2, HB2, HE2⟩
        | false =>
          rw [k1, Bool.false_or] at hE
          by_cases c1 : 0 < pos
          · have d1 : decide (0 < pos) = true := decide_eq_true c1
            have d2 : decide ((0 : Int) < (pos : Int)) = true := decide_eq_true (by omega)
            rw [d1, Bool.true_and] at hE
            clear c1
            cases k2 : (c == 45 || c == 95 || btw 48 57 c) with
            | true =>
              rw [k2, if_pos rfl] at hE
              have HE2 := Aside0.mk hE
              clear hE
              by_cases k3 : (c == 45) = true
              · clear k2
                go_wp2_with (first | (go_at_call 80; refine (txwithin_calls 97 122 _).mono ?_; rintro e w1 ⟨b1, b2, rfl, h1, h2, hb1⟩; have HB1 := Aside0.mk (below_then (below_iterAt HB.out (Nat.le_refl _) s _) (below_iterAt HB.out (Nat.le_refl _) s _).size hb1); have HI1 := Aside0.mk ((hb1.block _ (by rw [iterAt_size]; exact blk_lt HI.out)).trans (iterAt_heap wr w.heap.size s pos _ HI.out)); have H12 := Aside0.mk (And.intro h1 h2); clear hb1 h1 h2) | fail)
                refine (in_calls 97 122 c b1 b2 _ H12.out.1 H12.out.2).mono ?_
                rintro e w2 ⟨rfl, hb2⟩
                have HB2 := Aside0.mk (below_then HB1.out HB1.out.size hb2)
                have HI2 := Aside0.mk ((hb2.block _ (blk_lt HI1.out)).trans HI1.out)
                clear hb2
                rw [k1]
                clear k1
                go_wp2_with fail
                go_roundg n
                case measure => omega
                case rel => exact ⟨_, HI2, HB2, HE2⟩
              · have k3 : (c == 45) = false := by simpa using k3
                by_cases k4 : (c == 95) = true
                · clear k2
                  go_wp2_with (first | (go_at_call 80; refine (txwithin_calls 97 122 _).mono ?_; rintro e w1 ⟨b1, b2, rfl, h1, h2, hb1⟩; have HB1 := Aside0.mk (below_then (below_iterAt HB.out (Nat.le_refl _) s _) (below_iterAt HB.out (Nat.le_refl _) s _).size hb1); have HI1 := Aside0.mk ((hb1.block _ (by rw [iterAt_size]; exact blk_lt HI.out)).trans (iterAt_heap wr w.heap.size s pos _ HI.out)); have H12 := Aside0.mk (And.intro h1 h2); clear hb1 h1 h2) | fail)
                  refine (in_calls 97 122 c b1 b2 _ H12.out.1 H12.out.2).mono ?_
                  rintro e w2 ⟨rfl, hb2⟩
                  have HB2 := Aside0.mk (below_then HB1.out HB1.out.size hb2)
                  have HI2 := Aside0.mk ((hb2.block _ (blk_lt HI1.out)).trans HI1.out)
                  clear hb2
                  rw [k1]
                  clear k1
                  go_wp2_with fail
                  go_roundg n
                  case measure => omega
                  case rel => exact ⟨_, HI2, HB2, HE2⟩
                · have k4 : (c == 95) = false := by simpa using k4
                  rw [k3, k4, Bool.false_or, Bool.false_or] at k2
                  go_wp2_with (first | (go_at_call 80; refine (txwithin_calls 97 122 _).mono ?_; rintro e w1 ⟨b1, b2, rfl, h1, h2, hb1⟩; have HB1 := Aside0.mk (below_then (below_iterAt HB.out (Nat.le_refl _) s _) (below_iterAt HB.out (Nat.le_refl _) s _).size hb1); have HI1 := Aside0.mk ((hb1.block _ (by rw [iterAt_size]; exact blk_lt HI.out)).trans (iterAt_heap wr w.heap.size s pos _ HI.out)); have H12 := Aside0.mk (And.intro h1 h2); clear hb1 h1 h2) | fail)
                  refine (in_calls 97 122 c b1 b2 _ H12.out.1 H12.out.2).mono ?_
                  rintro e w2 ⟨rfl, hb2⟩
                  have HB2 := Aside0.mk (below_then HB1.out HB1.out.size hb2)
                  have HI2 := Aside0.mk ((hb2.block _ (blk_lt HI1.out)).trans HI1.out)
                  clear hb2
                  rw [k1]
                  clear k1
                  go_wp2_with (first | (go_at_call 81; refine (digit_calls c _).mono ?_; rintro e w3 ⟨rfl, hb3⟩; have HB3 := Aside0.mk (below_then HB2.out HB2.out.size hb3); have HI3 := Aside0.mk ((hb3.block _ (blk_lt HI2.out)).trans HI2.out); clear hb3) | fail)
                  go_roundg n
                  case measure => omega
                  case rel => exact ⟨_, HI3, HB3, HE2⟩
            | false =>
              rw [k2, if_neg (by decide)] at hE
              obtain rfl := Option.some.inj hE
              clear hE
              simp only [Bool.or_eq_false_iff] at k2
              obtain ⟨⟨k3, k4⟩, k2⟩ := k2
              go_wp2_with (first | (go_at_call 80; refine (txwithin_calls 97 122 _).mono ?_; rintro e w1 ⟨b1, b2, rfl, h1, h2, hb1⟩; have HB1 := Aside0.mk (below_then (below_iterAt HB.out (Nat.le_refl _) s _) (below_iterAt HB.out (Nat.le_refl _) s _).size hb1); have HI1 := Aside0.mk ((hb1.block _ (by rw [iterAt_size]; exact blk_lt HI.out)).trans (iterAt_heap wr w.heap.size s pos _ HI.out)); have H12 := Aside0.mk (And.intro h1 h2); clear hb1 h1 h2) | fail)
              refine (in_calls 97 122 c b1 b2 _ H12.out.1 H12.out.2).mono ?_
              rintro e w2 ⟨rfl, hb2⟩
              have HB2 := Aside0.mk (below_then HB1.out HB1.out.size hb2)
              have HI2 := Aside0.mk ((hb2.block _ (blk_lt HI1.out)).trans HI1.out)
              clear hb2
              rw [k1]
              clear k1
              go_wp2_with (first | (go_at_call 81; refine (digit_calls c _).mono ?_; rintro e w3 ⟨rfl, hb3⟩; have HB3 := Aside0.mk (below_then HB2.out HB2.out.size hb3); have HI3 := Aside0.mk ((hb3.block _ (blk_lt HI2.out)).trans HI2.out); clear hb3) | fail)
              go_ret
              exact ⟨rfl, HB3.out⟩
          · have d1 : decide (0 < pos) = false := decide_eq_false c1
            have d2 : decide ((0 : Int) < (pos : Int)) = false := decide_eq_false (by omega)
            rw [d1, Bool.false_and, if_neg (by decide)] at hE
            obtain rfl := Option.some.inj hE
            clear hE c1
            go_wp2_with (first | (go_at_call 80; refine (txwithin_calls 97 122 _).mono ?_; rintro e w1 ⟨b1, b2, rfl, h1, h2, hb1⟩; have HB1 := Aside0.mk (below_then (below_iterAt HB.out (Nat.le_refl _) s _) (below_iterAt HB.out (Nat.le_refl _) s _).size hb1); have HI1 := Aside0.mk ((hb1.block _ (by rw [iterAt_size]; exact blk_lt HI.out)).trans (iterAt_heap wr w.heap.size s pos _ HI.out)); have H12 := Aside0.mk (And.intro h1 h2); clear hb1 h1 h2) | fail)
            refine (in_calls 97 122 c b1 b2 _ H12.out.1 H12.out.2).mono ?_
            rintro e w2 ⟨rfl, hb2⟩
            have HB2 := Aside0.mk (below_then HB1.out HB1.out.size hb2)
            have HI2 := Aside0.mk ((hb2.block _ (blk_lt HI1.out)).trans HI1.out)
            clear hb2
            rw [k1]
            clear k1
            go_wp2_with fail
            go_ret
            exact ⟨rfl, HB2.out⟩
      · have hnx : ∀ ty, (Instr.next (.pointer (some ⟨w.heap.size, 0, none⟩)) true ty).run Try.prog wr = .ok (.tuple #[.bool false]) wr := fun ty => run_next_end_at wr w.heap.size s pos ty HI.out c0
        have hE := HE.out
        rw [nameL, if_neg c0] at hE
        have hE := Option.some.inj hE
        clear c0
        obtain rfl := hE
        go_wp2_with fail
        all_goals
          go_ret
          exact ⟨by simp_all, HB.out⟩
end Go.Proofs.Ytpnlbmeeihbjaaa.P
end
