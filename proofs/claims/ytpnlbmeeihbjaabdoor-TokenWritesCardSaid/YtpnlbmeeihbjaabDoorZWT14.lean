/- The law TokenWrites (layer 2): the row and its tied card: for every input the law returns true, and the arguments read behind the call as they read before. No condition of ours. -/
import Derived.Test.YtpnlbmeeihbjaabDoorZWT7
import Derived.Test.YtpnlbmeeihbjaabDoorZWT12
import Derived.Test.YtpnlbmeeihbjaabDoorZWT13
import Derived.Lib.TrimU
section
set_option linter.unusedVariables false
set_option linter.unusedSimpArgs false
namespace Go.Proofs.YtpnlbmeeihbjaabDoor.P
open Go.RowKit Go.Proofs.YtpnlbmeeihbjaabDoorW.PrintWords Go.Proofs.YtpnlbmeeihbjaabDoorW.PrintLast Go.Proofs.YtpnlbmeeihbjaabDoorW.PrintMore
open Go.Lib
attribute [local go_sem] max2_int min2_int max_two min_two max_three min_three max_four min_four
set_option linter.unusedVariables false
set_option linter.unusedSimpArgs false
open Go.Lib
def decL (S : ByteArray) : Nat → Nat → List Int
  | 0, _ => []
  | k + 1, pos => if pos < S.size then ((Utf8.decode S pos).1 : Int) :: decL S k (pos + (Utf8.decode S pos).2) else []
def decS (S : ByteArray) : List Int := decL S (S.size + 1) 0
def partsB (sb : Int → Bool) (xs : List Int) : List UInt8 := xs.flatMap (charB sb)
theorem partsB_cons (sb : Int → Bool) (c : Int) (xs : List Int) : partsB sb (c :: xs) = charB sb c ++ partsB sb xs := rfl
def quoB (c : Int) : Bool := c != 34 && c != 92
theorem WT.keep {B : Nat} {w W : World} (h : WT w) (h3 : 3 < B) (hb : Below B w W) : WT W := by
  have : W.heap[3]? = w.heap[3]? := hb.block 3 h3
  unfold WT World.cell? at *
  rw [this]
  exact h
set_option maxHeartbeats 4000000 in
set_option maxRecDepth 100000 in
theorem quo1_calls (c : Int) (w : World) : Calls Tryd.prog 27 #[.int .i32 c] w fun e w' => e = .returned (.bool (quoB c)) ∧ Below w.heap.size w w' := by
  unfold quoB
  by_cases d1 : c = 34
  · subst d1
    go_enter Tryd.func27, Tryd.ntmps27
    go_wp2_with fail
    go_ret
    exact ⟨rfl, Below.refl _ _⟩
  · have d2 : (c == 34) = false := by simp [d1]
    have d3 : (c != 34) = true := by simp [d1]
    rw [d3, Bool.true_and]
    go_enter Tryd.func27, Tryd.ntmps27
    go_wp2_with fail
    go_ret
    exact ⟨rfl, Below.refl _ _⟩
set_option maxHeartbeats 4000000 in
set_option maxRecDepth 100000 in
theorem plain_quo (B b : Nat) (l : List UInt8) (c : Int) (h0 : 0 ≤ c) (h1 : c ≤ 2147483647) (w : World) (hT : WT w) (h : Blw w B b l) (hlen : l.length + 10 ≤ 140737488355328) (hBw : B ≤ w.heap.size) :
    Calls Tryd.prog 26 #[.pointer (some ⟨b, 0, none⟩), .int .i32 c, .func (.func 27) #[] #[]] w fun e w' => e = .returned (.bool (plainB quoB c).isSome) ∧ (Blw w' B b (l ++ optL (plainB quoB c)) ∧ Below B w w' ∧ Lib.OthersKept 5 (some b) w w') := by
  have hu46 := Tryd.underlying46
  by_cases k0 : c = 0
  · have hp : plainB quoB c = some (Lib.encodeRune 65533) := by rw [plainB, if_pos k0]
    have c1 := wrune B b l 65533 (by omega) (by omega) w h (by omega) hBw
    subst k0
    rw [hp]
    clear h hlen hBw h1 h0 hT
    go_enter Tryd.func26, Tryd.ntmps26
    go_wp2_with (first | (go_at_call 52; refine c1.mono ?_; rintro e W ⟨u, rfl, hB1⟩) | fail)
    go_ret
    exact ⟨rfl, hB1⟩
  · by_cases k1 : c < 32 ∨ c = 127
    · have hp : plainB quoB c = some (hexC c.toNat) := by rw [plainB, if_neg k0, if_pos k1]
      have c1 := number_w B b l c.toNat (by omega) w hT h hlen hBw
      rw [show ((c.toNat : Nat) : Int) = c by omega] at c1
      have d0 : (c == 0) = false := by simp [k0]
      rw [hp]
      clear hlen hBw h1 h hT hp
      have d1 : (decide (c < 32) || (c == 127)) = true := by simpa using k1
      by_cases k2 : c < 32
      · clear k1 d1
        go_enter Tryd.func26, Tryd.ntmps26
        go_wp2_with (first | (go_at_call 32; refine c1.mono ?_; rintro e W ⟨rfl, hB1⟩) | fail)
        go_ret
        exact ⟨rfl, hB1⟩
      · obtain rfl : c = 127 := k1.resolve_left k2
        clear k1 d1 k2
        go_enter Tryd.func26, Tryd.ntmps26
        go_wp2_with (first | (go_at_call 32; refine c1.mono ?_; rintro e W ⟨rfl, hB1⟩) | fail)
        go_ret
        exact ⟨rfl, hB1⟩
    · have k2 : ¬ c < 32 := fun h => k1 (Or.inl h)
      have d2 : (c == 127) = false := by simpa using (fun h => k1 (Or.inr h))
      have d0 : (c == 0) = false := by simp [k0]
      obtain ⟨o, ho⟩ : ∃ o, quoB c = o := ⟨_, rfl⟩
      have hp : plainB quoB c = if o then some (Lib.encodeRune c) else none := by rw [plainB, if_neg k0, if_neg k1, ho]
      have c1 := quo1_calls c w
      rw [ho] at c1
      rw [hp]
      have HT := Aside0.mk h
      have HL := Aside0.mk hlen
      have HW := Aside0.mk hBw
      have H01 : Aside0 (-2147483648 ≤ c ∧ c ≤ 2147483647) := ⟨by omega⟩
      clear h hlen hBw h1 hT hp ho k1
      cases o with
      | true =>
        go_enter Tryd.func26, Tryd.ntmps26
        go_wp2_with (first | (go_at_call 27; refine c1.mono ?_; rintro e W ⟨rfl, hb⟩) | (go_at_call 52; refine (wrune B b l c H01.out.1 H01.out.2 _ (HT.out.mono hb) (by have := HL.out; omega) (by have := HW.out; have := hb.size; omega)).mono ?_; rintro e W2 ⟨u, rfl, hB1⟩) | fail)
        go_ret
        exact ⟨rfl, hB1.1, (below_less hb HW.out).trans hB1.2.1, (kept_of_below hb).trans hB1.2.2⟩
      | false =>
        go_enter Tryd.func26, Tryd.ntmps26
        go_wp2_with (first | (go_at_call 27; refine c1.mono ?_; rintro e W ⟨rfl, hb⟩) | fail)
        go_ret
        refine ⟨rfl, ?_, below_less hb HW.out, kept_of_below hb⟩
        show Blw _ B b (l ++ [])
        rw [List.append_nil]
        exact HT.out.mono hb
theorem Blw.iterAt {B b : Nat} {l : List UInt8} {w : World} (h : Blw w B b l) {k : Nat} {S : ByteArray} {pos : Nat} (hk : w.heap[k]? = some (.stringIter S pos)) (pos' : Nat) : Blw (w.iterAt k S pos') B b l := by
  obtain ⟨p, hp, h, hn⟩ := h
  refine ⟨p, hp, h.iterAt hk pos', fun e => ?_⟩
  have h0 := hn e
  have hkb : b ≠ k := by
    intro e1
    rw [e1, hk] at h0
    cases h0
  exact (iterAt_other w k b S pos' hkb).trans h0
set_option maxHeartbeats 16000000 in
set_option maxRecDepth 100000 in
theorem parts_w (B b : Nat) (l : List UInt8) (S : ByteArray) (w : World) (hT : WT w) (h3 : 3 < B) (h : Blw w B b l) (hlen : l.length + 10 * S.size + 20 ≤ 140737488355328) (hBw : B ≤ w.heap.size) :
    Calls Tryd.prog 33 #[.pointer (some ⟨b, 0, none⟩), .string S] w fun e w' => e = .returned (.tuple #[]) ∧ (Blw w' B b (l ++ partsB partB (decS S)) ∧ Below B w w') := by
  have HT := Aside0.mk hT
  have HL := Aside0.mk hlen
  have HGB : Aside0 (B ≤ w.heap.size ∧ 3 < B ∧ w.heap.size ≠ b) := ⟨hBw, h3, by have := h.lt; omega⟩
  have HI : Aside0 ((w.iter S 0).heap[w.heap.size]? = some (.stringIter S 0)) := ⟨World.iter_heap w S 0⟩
  have HBL : Aside0 (Blw (w.iter S 0) B b l) := ⟨h.mono (below_alloc (Below.refl w.heap.size w) (.stringIter S 0))⟩
  have HBB : Aside0 (Below B w (w.iter S 0)) := ⟨below_less (below_alloc (Below.refl w.heap.size w) (.stringIter S 0)) hBw⟩
  clear hT hlen hBw h3 h
  go_enter Tryd.func33, Tryd.ntmps33
  go_wp2_with fail
  go_loopg [] (S.size + 1) (fun kq w' => ∃ (pos : Nat) (out : List UInt8), Aside0 (out ++ partsB partB (decL S kq pos) = partsB partB (decS S)) ∧ Aside0 (out.length + 10 * kq ≤ 10 * (S.size + 1) ∧ S.size + 1 ≤ pos + kq) ∧ Aside0 (w'.heap[w.heap.size]? = some (.stringIter S pos)) ∧ Aside0 (Blw w' B b (l ++ out)) ∧ Aside0 (Below B w w'))
  case atStart => exact ⟨0, [], ⟨rfl⟩, ⟨by simp⟩, HI, ⟨by rw [List.append_nil]; exact HBL.out⟩, HBB⟩
  case round =>
    clear HI HBL HBB
    obtain ⟨pos, out, HE, HN, HI, HBL, HBB⟩ := hrel
    cases gk with
    | zero =>
      have c0 : ¬ pos < S.size := by have := HN.out; omega
      have hnx : ∀ ty, (Instr.next (.pointer (some ⟨w.heap.size, 0, none⟩)) true ty).run Tryd.prog wr = .ok (.tuple #[.bool false]) wr := fun ty => run_next_end_at wr w.heap.size S pos ty HI.out c0
      have HE2 : Aside0 (out = partsB partB (decS S)) := ⟨by rw [← HE.out, show decL S 0 pos = [] from rfl]; simp [partsB]⟩
      clear c0
      go_wp2_with fail
      go_end0
      exact ⟨rfl, by rw [← HE2.out]; exact HBL.out, HBB.out⟩
    | succ n =>
      by_cases c0 : pos < S.size
      · have hnx : ∀ ty, (Instr.next (.pointer (some ⟨w.heap.size, 0, none⟩)) true ty).run Tryd.prog wr = .ok (.tuple #[.bool true, .int .i64 pos, .int .i32 (Utf8.decode S pos).1]) (wr.iterAt w.heap.size S (pos + (Utf8.decode S pos).2)) := fun ty => run_next_any_at wr w.heap.size S pos ty HI.out c0
        have hE : partsB partB (decS S) = (out ++ charB partB ((Utf8.decode S pos).1 : Int)) ++ partsB partB (decL S n (pos + (Utf8.decode S pos).2)) := by rw [← HE.out, decL, if_pos c0, partsB_cons, List.append_assoc]
        have HDP : Aside0 (pos + 1 ≤ pos + (Utf8.decode S pos).2) := ⟨by have := dec_pos S pos c0; omega⟩
        have HC : Aside0 ((0 : Int) ≤ ((Utf8.decode S pos).1 : Int) ∧ ((Utf8.decode S pos).1 : Int) ≤ 1114111) := ⟨by have := rune_le S pos; omega⟩
        have HI2 := Aside0.mk (iterAt_heap wr w.heap.size S pos (pos + (Utf8.decode S pos).2) HI.out)
        have HBL2 : Aside0 (Blw (wr.iterAt w.heap.size S (pos + (Utf8.decode S pos).2)) B b (l ++ out)) := ⟨HBL.out.iterAt HI.out _⟩
        have HBB2 : Aside0 (Below B w (wr.iterAt w.heap.size S (pos + (Utf8.decode S pos).2))) := ⟨iter_below HBB.out HGB.out.1 S _⟩
        generalize wr.iterAt w.heap.size S (pos + (Utf8.decode S pos).2) = W3 at HI2 HBL2 HBB2 hnx
        have HI := HI2
        have HBL := HBL2
        have HBB := HBB2
        clear HI2 HBL2 HBB2
        generalize pos + (Utf8.decode S pos).2 = pos' at hE HI HDP
        generalize ((Utf8.decode S pos).1 : Int) = c at hE HC hnx
        have hl := HL.out
        have hs := HN.out
        have hcl := charB_len partB c
        have cp := plain_part B b (l ++ out) c HC.out.1 (by have := HC.out.2; omega) W3 (HT.out.keep HGB.out.2.1 HBB.out) HBL.out (by rw [List.length_append]; omega) (by have := HBB.out.size; have := HGB.out; omega)
        have HE3 := Aside0.mk hE
        have HLL : Aside0 ((l ++ out).length + 10 ≤ 140737488355328) := ⟨by rw [List.length_append]; omega⟩
        have HOL : Aside0 ((out ++ charB partB c).length + 10 * n ≤ 10 * (S.size + 1)) := ⟨by rw [List.length_append]; omega⟩
        clear hE hl hs hcl
        cases hp : plainB partB c with
        | some o =>
          rw [hp] at cp
          have HO : Aside0 (charB partB c = o) := ⟨by rw [charB, hp]⟩
          clear hp
          go_wp2_with (first | (go_at_call 26; refine cp.mono ?_; rintro e W4 ⟨rfl, hB4⟩; have HB4 := Aside0.mk hB4; clear hB4) | fail)
          go_roundg n
          case measure => omega
          case rel => exact ⟨pos', out ++ charB partB c, ⟨HE3.out.symm⟩, ⟨by have := HN.out; have := HDP.out; have := HOL.out; omega⟩, ⟨HB4.out.2.2.iter HI.out HGB.out.2.2⟩, ⟨by rw [HO.out, ← List.append_assoc]; exact HB4.out.1⟩, ⟨HBB.out.trans HB4.out.2.1⟩⟩
        | none =>
          rw [hp] at cp
          have HO : Aside0 (charB partB c = 92 :: Lib.encodeRune c) := ⟨by rw [charB, hp]⟩
          clear hp
          go_wp2_with (first | (go_at_call 26; refine cp.mono ?_; rintro e W4 ⟨rfl, hB4⟩; have HB4 := Aside0.mk hB4; clear hB4) | (go_at_call 28; refine (barred_w B b (l ++ out) c (by have := HC.out.1; omega) (by have := HC.out.2; omega) _ (by have := HB4.out.1; rwa [show optL none = [] from rfl, List.append_nil] at this) HLL.out (by have := HBB.out.size; have := HB4.out.2.1.size; have := HGB.out; omega)).mono ?_; rintro e W5 ⟨rfl, hB5⟩; have HB5 := Aside0.mk hB5; clear hB5) | fail)
          go_roundg n
          case measure => omega
          case rel => exact ⟨pos', out ++ charB partB c, ⟨HE3.out.symm⟩, ⟨by have := HN.out; have := HDP.out; have := HOL.out; omega⟩, ⟨HB5.out.2.2.iter (HB4.out.2.2.iter HI.out HGB.out.2.2) HGB.out.2.2⟩, ⟨by rw [HO.out, ← List.append_assoc]; exact HB5.out.1⟩, ⟨(HBB.out.trans HB4.out.2.1).trans HB5.out.2.1⟩⟩
      · have hnx : ∀ ty, (Instr.next (.pointer (some ⟨w.heap.size, 0, none⟩)) true ty).run Tryd.prog wr = .ok (.tuple #[.bool false]) wr := fun ty => run_next_end_at wr w.heap.size S pos ty HI.out c0
        have HE2 : Aside0 (out = partsB partB (decS S)) := ⟨by rw [← HE.out, decL, if_neg c0]; simp [partsB]⟩
        clear c0
        go_wp2_with fail
        go_end0
        exact ⟨rfl, by rw [← HE2.out]; exact HBL.out, HBB.out⟩
end Go.Proofs.YtpnlbmeeihbjaabDoor.P
end
section
set_option linter.unusedVariables false
set_option linter.unusedSimpArgs false
namespace Go.Proofs.YtpnlbmeeihbjaabDoor.P
open Go.RowKit Go.Proofs.YtpnlbmeeihbjaabDoorW.PrintWords Go.Proofs.YtpnlbmeeihbjaabDoorW.PrintLast Go.Proofs.YtpnlbmeeihbjaabDoorW.PrintMore
open Go.Lib
attribute [local go_sem] max2_int min2_int max_two min_two max_three min_three max_four min_four
set_option linter.unusedVariables false
set_option linter.unusedSimpArgs false
open Go.Lib
def quoteS (S : ByteArray) : List UInt8 := 34 :: (partsB quoB (decS S) ++ [34])
set_option maxHeartbeats 16000000 in
set_option maxRecDepth 100000 in
theorem quote_w (S : ByteArray) (w : World) (hT : WT w) (hlen : S.size ≤ 1099511627776) :
    Calls Tryd.prog 13 #[.string S] w fun e w' => e = .returned (.string ⟨(quoteS S).toArray⟩) ∧ Below w.heap.size w w' := by
  have hu44 := Tryd.underlying44
  have hu40 := Tryd.underlying40
  have hu42 := Tryd.underlying42
  have hu46 := Tryd.underlying46
  have hu41 := Tryd.underlying41
  have h3 : 3 < w.heap.size := by
    have : w.cell? ⟨3, 15, none⟩ = some (.int .u8 4) := hT
    obtain ⟨c, e, fr, hb, _⟩ := Go.Sort.cells_of_cell? this
    exact blk_lt hb
  have HT := Aside0.mk hT
  have HS := Aside0.mk hlen
  have H3 := Aside0.mk h3
  have c1 := wbyte w.heap.size w.heap.size [] 34 _ (Blw.new w w.heap.size (Nat.le_refl _)) (by simp) (by rw [World.size_alloc]; omega)
  have hbn : Below w.heap.size w (w.alloc (.cells #[.pointer none, .slice none 0 0] 46)) := below_alloc (Below.refl w.heap.size w) _
  have HBN := Aside0.mk hbn
  clear hT hlen h3 hbn
  go_enter Tryd.func13, Tryd.ntmps13
  go_wp2_with (first | (go_at_call 25; refine c1.mono ?_; rintro e W1 ⟨rfl, hB1⟩; have HB1 := Aside0.mk hB1; clear hB1) | fail)
  obtain ⟨b, hb⟩ : ∃ b, b = w.heap.size := ⟨_, rfl⟩
  have HI : Aside0 ((W1.iter S 0).heap[W1.heap.size]? = some (.stringIter S 0)) := ⟨World.iter_heap W1 S 0⟩
  have HBL : Aside0 (Blw (W1.iter S 0) w.heap.size w.heap.size [34]) := ⟨HB1.out.1.mono (below_alloc (Below.refl W1.heap.size W1) (.stringIter S 0))⟩
  have hsz : w.heap.size < W1.heap.size := HB1.out.1.lt.2
  have HBB : Aside0 (Below w.heap.size w (W1.iter S 0)) := ⟨(HBN.out.trans HB1.out.2.1).trans (below_less (below_alloc (Below.refl W1.heap.size W1) (.stringIter S 0)) (by omega))⟩
  have HGB : Aside0 (w.heap.size ≤ W1.heap.size ∧ 3 < w.heap.size ∧ W1.heap.size ≠ w.heap.size) := ⟨by omega, H3.out, by omega⟩
  have HL : Aside0 (([34] : List UInt8).length + 10 * S.size + 20 ≤ 140737488355328) := ⟨by have := HS.out; simp; omega⟩
  clear hsz c1 HB1
  generalize W1.iter S 0 = W2 at HI HBL HBB ⊢
  generalize W1.heap.size = gi at HI HGB ⊢
  go_loopg [] (S.size + 1) (fun kq w' => ∃ (pos : Nat) (out : List UInt8), Aside0 (out ++ partsB quoB (decL S kq pos) = partsB quoB (decS S)) ∧ Aside0 (out.length + 10 * kq ≤ 10 * (S.size + 1) ∧ S.size + 1 ≤ pos + kq) ∧ Aside0 (w'.heap[gi]? = some (.stringIter S pos)) ∧ Aside0 (Blw w' w.heap.size w.heap.size ([34] ++ out)) ∧ Aside0 (Below w.heap.size w w'))
  case atStart => exact ⟨0, [], ⟨rfl⟩, ⟨by simp⟩, HI, ⟨by rw [List.append_nil]; exact HBL.out⟩, HBB⟩
  case round =>
    clear HI HBL HBB
    obtain ⟨pos, out, HE, HN, HI, HBL, HBB⟩ := hrel
    cases gk with
    | zero =>
      have c0 : ¬ pos < S.size := by have := HN.out; omega
      have hnx : ∀ ty, (Instr.next (.pointer (some ⟨gi, 0, none⟩)) true ty).run Tryd.prog wr = .ok (.tuple #[.bool false]) wr := fun ty => run_next_end_at wr gi S pos ty HI.out c0
      have HE2 : Aside0 (out = partsB quoB (decS S)) := ⟨by rw [← HE.out, show decL S 0 pos = [] from rfl]; simp [partsB]⟩
      clear c0
      have hcl := HBL.out.lt
      have hol : out.length ≤ 10 * (S.size + 1) := by have := HN.out; omega
      go_wp2_with (first | (go_at_call 25; refine (wbyte w.heap.size w.heap.size _ 34 _ HBL.out (by have := HS.out; rw [List.length_append, List.length_singleton]; omega) (by omega)).mono ?_; rintro e W6 ⟨rfl, hB6⟩; have HB6 := Aside0.mk hB6; clear hB6) | (go_at_call 29; refine (wstring w.heap.size w.heap.size _ _ HB6.out.1).mono ?_; rintro e W7 ⟨rfl, hB7⟩) | fail)
      go_ret
      exact ⟨by rw [HE2.out]; rfl, (HBB.out.trans HB6.out.2.1).trans hB7⟩
    | succ n =>
      by_cases c0 : pos < S.size
      · have hnx : ∀ ty, (Instr.next (.pointer (some ⟨gi, 0, none⟩)) true ty).run Tryd.prog wr = .ok (.tuple #[.bool true, .int .i64 pos, .int .i32 (Utf8.decode S pos).1]) (wr.iterAt gi S (pos + (Utf8.decode S pos).2)) := fun ty => run_next_any_at wr gi S pos ty HI.out c0
        have hE : partsB quoB (decS S) = (out ++ charB quoB ((Utf8.decode S pos).1 : Int)) ++ partsB quoB (decL S n (pos + (Utf8.decode S pos).2)) := by rw [← HE.out, decL, if_pos c0, partsB_cons, List.append_assoc]
        have HDP : Aside0 (pos + 1 ≤ pos + (Utf8.decode S pos).2) := ⟨by have := dec_pos S pos c0; omega⟩
        have HC : Aside0 ((0 : Int) ≤ ((Utf8.decode S pos).1 : Int) ∧ ((Utf8.decode S pos).1 : Int) ≤ 1114111) := ⟨by have := rune_le S pos; omega⟩
        have HI2 := Aside0.mk (iterAt_heap wr gi S pos (pos + (Utf8.decode S pos).2) HI.out)
        have HBL2 : Aside0 (Blw (wr.iterAt gi S (pos + (Utf8.decode S pos).2)) w.heap.size w.heap.size ([34] ++ out)) := ⟨HBL.out.iterAt HI.out _⟩
        have HBB2 : Aside0 (Below w.heap.size w (wr.iterAt gi S (pos + (Utf8.decode S pos).2))) := ⟨iter_below HBB.out HGB.out.1 S _⟩
        generalize wr.iterAt gi S (pos + (Utf8.decode S pos).2) = W3 at HI2 HBL2 HBB2 hnx
        have HI := HI2
        have HBL := HBL2
        have HBB := HBB2
        clear HI2 HBL2 HBB2
        generalize pos + (Utf8.decode S pos).2 = pos' at hE HI HDP
        generalize ((Utf8.decode S pos).1 : Int) = c at hE HC hnx
        have hl := HL.out
        have hs := HN.out
        have hcl := charB_len quoB c
        have cp := plain_quo w.heap.size w.heap.size ([34] ++ out) c HC.out.1 (by have := HC.out.2; omega) W3 (HT.out.keep HGB.out.2.1 HBB.out) HBL.out (by rw [List.length_append]; omega) (by have := HBB.out.size; have := HGB.out; omega)
        have HE3 := Aside0.mk hE
        have HLL : Aside0 (([34] ++ out).length + 10 ≤ 140737488355328) := ⟨by rw [List.length_append]; omega⟩
        have HOL : Aside0 ((out ++ charB quoB c).length + 10 * n ≤ 10 * (S.size + 1)) := ⟨by rw [List.length_append]; omega⟩
        clear hE hl hs hcl
        cases hp : plainB quoB c with
        | some o =>
          rw [hp] at cp
          have HO : Aside0 (charB quoB c = o) := ⟨by rw [charB, hp]⟩
          clear hp
          go_wp2_with (first | (go_at_call 26; refine cp.mono ?_; rintro e W4 ⟨rfl, hB4⟩; have HB4 := Aside0.mk hB4; clear hB4) | fail)
          go_roundg n
          case measure => omega
          case rel => exact ⟨pos', out ++ charB quoB c, ⟨HE3.out.symm⟩, ⟨by have := HN.out; have := HDP.out; have := HOL.out; omega⟩, ⟨HB4.out.2.2.iter HI.out HGB.out.2.2⟩, ⟨by rw [HO.out, ← List.append_assoc]; exact HB4.out.1⟩, ⟨HBB.out.trans HB4.out.2.1⟩⟩
        | none =>
          rw [hp] at cp
          have HO : Aside0 (charB quoB c = 92 :: Lib.encodeRune c) := ⟨by rw [charB, hp]⟩
          clear hp
          go_wp2_with (first | (go_at_call 26; refine cp.mono ?_; rintro e W4 ⟨rfl, hB4⟩; have HB4 := Aside0.mk hB4; clear hB4) | (go_at_call 28; refine (barred_w w.heap.size w.heap.size ([34] ++ out) c (by have := HC.out.1; omega) (by have := HC.out.2; omega) _ (by have := HB4.out.1; rwa [show optL none = [] from rfl, List.append_nil] at this) HLL.out (by have := HBB.out.size; have := HB4.out.2.1.size; have := HGB.out; omega)).mono ?_; rintro e W5 ⟨rfl, hB5⟩; have HB5 := Aside0.mk hB5; clear hB5) | fail)
          go_roundg n
          case measure => omega
          case rel => exact ⟨pos', out ++ charB quoB c, ⟨HE3.out.symm⟩, ⟨by have := HN.out; have := HDP.out; have := HOL.out; omega⟩, ⟨HB5.out.2.2.iter (HB4.out.2.2.iter HI.out HGB.out.2.2) HGB.out.2.2⟩, ⟨by rw [HO.out, ← List.append_assoc]; exact HB5.out.1⟩, ⟨(HBB.out.trans HB4.out.2.1).trans HB5.out.2.1⟩⟩
      · have hnx : ∀ ty, (Instr.next (.pointer (some ⟨gi, 0, none⟩)) true ty).run Tryd.prog wr = .ok (.tuple #[.bool false]) wr := fun ty => run_next_end_at wr gi S pos ty HI.out c0
        have HE2 : Aside0 (out = partsB quoB (decS S)) := ⟨by rw [← HE.out, decL, if_neg c0]; simp [partsB]⟩
        clear c0
        have hcl := HBL.out.lt
        have hol : out.length ≤ 10 * (S.size + 1) := by have := HN.out; omega
        go_wp2_with (first | (go_at_call 25; refine (wbyte w.heap.size w.heap.size _ 34 _ HBL.out (by have := HS.out; rw [List.length_append, List.length_singleton]; omega) (by omega)).mono ?_; rintro e W6 ⟨rfl, hB6⟩; have HB6 := Aside0.mk hB6; clear hB6) | (go_at_call 29; refine (wstring w.heap.size w.heap.size _ _ HB6.out.1).mono ?_; rintro e W7 ⟨rfl, hB7⟩) | fail)
        go_ret
        exact ⟨by rw [HE2.out]; rfl, (HBB.out.trans HB6.out.2.1).trans hB7⟩
end Go.Proofs.YtpnlbmeeihbjaabDoor.P
end
section
set_option linter.unusedVariables false
set_option linter.unusedSimpArgs false
namespace Go.Proofs.YtpnlbmeeihbjaabDoor.P
open Go.RowKit Go.Proofs.YtpnlbmeeihbjaabDoorW.PrintWords Go.Proofs.YtpnlbmeeihbjaabDoorW.PrintLast Go.Proofs.YtpnlbmeeihbjaabDoorW.PrintMore
open Go.Lib
attribute [local go_sem] max2_int min2_int max_two min_two max_three min_three max_four min_four
set_option linter.unusedVariables false
set_option linter.unusedSimpArgs false
open Go.Lib
def hpB (S D : ByteArray) : Bool := decide (D.size ≤ S.size) && ((S.extract 0 D.size).toList == D.toList)
theorem hasPrefix_f (S D : ByteArray) : strings_HasPrefix.f S D = some (hpB S D) := by
  simp only [strings_HasPrefix.f, stringslite_HasPrefix.f, hpB, Option.bind_some]
  by_cases h : D.size ≤ S.size
  · rw [if_pos (by omega), if_pos (by omega), if_pos (by omega)]
    simp [h]
  · rw [if_neg (by omega)]
    simp [h]
theorem hasPrefix_calls (S D : ByteArray) (w : World) : Calls Tryd.prog 30 #[.string S, .string D] w fun e w' => e = .returned (.bool (hpB S D)) ∧ Below w.heap.size w w' :=
  (strings_HasPrefix.calls S D _ w (hasPrefix_f S D)).mono (fun e w' h => ⟨h.1, h.2.below⟩)
def hd0 (R : ByteArray) : Nat := if h : 0 < R.size then (R[0]'h).toNat else 0
theorem hd0_at (R : ByteArray) (h : 0 < R.size) : hd0 R = (R[0]'h).toNat := dif_pos h
def escR (R : ByteArray) : List UInt8 := if 0 < R.size ∧ btw 48 57 (hd0 R) = true then hexC (hd0 R) ++ partsB partB (decS (R.extract 1 R.size)) else partsB partB (decS R)
def escS (S : ByteArray) : List UInt8 := if hpB S ⟨#[45]⟩ = true ∧ 1 < S.size then 45 :: escR (S.extract 1 S.size) else if S.toList = [45] then [92, 45] else escR S
theorem bytes_len (S : ByteArray) : S.toList.length = S.size := by
  rw [ByteArray.toList_eq]
  rfl
theorem ne_nil (S : ByteArray) (h : 0 < S.size) : S.toList.isEmpty = false := by
  have : S.toList ≠ [] := fun e => by
    have h2 := congrArg List.length e
    rw [bytes_len] at h2
    have h3 : S.size = 0 := h2
    omega
  simp [this]
theorem eq_nil (S : ByteArray) (h : ¬ 0 < S.size) : S.toList.isEmpty = true := by
  have : S.toList = [] := List.eq_nil_of_length_eq_zero (by rw [bytes_len]; omega)
  simp [this]
theorem ne_one (S : ByteArray) (h : 1 < S.size) : (S.toList == [45]) = false := by
  have : S.toList ≠ [45] := fun e => by
    have h2 := congrArg List.length e
    rw [bytes_len] at h2
    have h3 : S.size = 1 := h2
    omega
  simp [this]
set_option maxHeartbeats 16000000 in
set_option maxRecDepth 100000 in
theorem escape_A (S : ByteArray) (w : World) (hT : WT w) (hlen : S.size ≤ 1099511627776) (h1 : hpB S ⟨#[45]⟩ = true) (h2 : 1 < S.size) :
    Calls Tryd.prog 14 #[.string S] w fun e w' => e = .returned (.string ⟨(escS S).toArray⟩) ∧ Below w.heap.size w w' := by
  have hu44 := Tryd.underlying44
  have hu40 := Tryd.underlying40
  have hu42 := Tryd.underlying42
  have hu46 := Tryd.underlying46
  have hu41 := Tryd.underlying41
  have h3 : 3 < w.heap.size := by
    have : w.cell? ⟨3, 15, none⟩ = some (.int .u8 4) := hT
    obtain ⟨c, e, fr, hb, _⟩ := Go.Sort.cells_of_cell? this
    exact blk_lt hb
  have hp := hasPrefix_calls S ⟨#[45]⟩
  have HBN : Aside0 (Below w.heap.size w (w.alloc (.cells #[.pointer none, .slice none 0 0] 46))) := ⟨below_alloc (Below.refl w.heap.size w) _⟩
  have HWR : Aside0 (Blw (w.alloc (.cells #[.pointer none, .slice none 0 0] 46)) w.heap.size w.heap.size []) := ⟨Blw.new w w.heap.size (Nat.le_refl _)⟩
  have HT := Aside0.mk hT
  have HS := Aside0.mk hlen
  have H3 := Aside0.mk h3
  clear hT hlen h3
  have HU0 : Aside0 (escS S = 45 :: escR (S.extract 1 S.size)) := ⟨by rw [escS, if_pos ⟨h1, h2⟩]⟩
  have d1 : decide ((1 : Int) < (S.size : Int)) = true := decide_eq_true (by omega)
  have d2 : (S.toList == [45]) = false := ne_one S h2
  have HR : Aside0 ((S.extract 1 S.size).size ≤ S.size ∧ ((S.extract 1 S.size).extract 1 (S.extract 1 S.size).size).size ≤ S.size) := ⟨by simp; omega⟩
  go_enter Tryd.func14, Tryd.ntmps14
  go_upto_region 6 with (first | (go_at_call 30; (with_reducible refine (hp _).mono ?_); rintro e W ⟨rfl, hb⟩; rw [h1]; have HBN := Aside0.mk (HBN.out.trans (below_less hb HBN.out.size)); have HWR := Aside0.mk (HWR.out.mono hb); clear hb) | (go_at_call 25; refine (wbyte w.heap.size w.heap.size _ 45 _ HWR.out (by simp) (by have := HBN.out.size; omega)).mono ?_; rintro e W ⟨rfl, hb⟩; have HBN := Aside0.mk (HBN.out.trans hb.2.1); have HWR := Aside0.mk hb.1; clear hb) | fail)
  generalize S.extract 1 S.size = R at HU0 HR ⊢
  by_cases hz : 0 < R.size
  · have HZ := Aside0.mk hz
    have e0 : hd0 R = (R[0]'hz).toNat := hd0_at R hz
    have hw : wrap32 (((R[0]'hz).toNat : Nat) : Int) = (((R[0]'hz).toNat : Nat) : Int) := by have := UInt8.toNat_lt (R[0]'hz); unfold wrap32; omega
    have d3 : R.toList.isEmpty = false := ne_nil R hz
    cases hd : btw 48 57 (((R[0]'hz).toNat : Nat) : Int)
    · have HD := Aside0.mk hd
      have HF : Aside0 (escR R = partsB partB (decS R)) := ⟨by rw [escR, if_neg (fun h => by rw [e0, hd] at h; exact absurd h.2 (by simp))]⟩
      clear hd e0
      go_wp2_with (first | (go_at_call 31; (with_reducible refine (digit_calls _ _).mono ?_); rintro e W ⟨rfl, hb⟩; rw [HD.out]; have HBN := Aside0.mk (HBN.out.trans (below_less hb HBN.out.size)); have HWR := Aside0.mk (HWR.out.mono hb); clear hb) | (go_at_call 33; refine (parts_w w.heap.size w.heap.size _ R _ (HT.out.keep H3.out HBN.out) H3.out HWR.out (by have h6 := HS.out; have h7 := HR.out.1; have h8 := HR.out.2; have h9 := hexC_len (R[0]?.getD 0).toNat; simp only [List.length_append, List.length_cons, List.length_nil]; omega) (by have := HBN.out.size; omega)).mono ?_; rintro e W ⟨rfl, hb⟩; have HBN := Aside0.mk (HBN.out.trans hb.2); have HWR := Aside0.mk hb.1; clear hb) | (go_at_call 29; refine (wstring w.heap.size w.heap.size _ _ HWR.out).mono ?_; rintro e W ⟨rfl, hb⟩; have HBN := Aside0.mk (HBN.out.trans hb); clear hb) | fail)
      go_ret
      exact ⟨by rw [HU0.out, HF.out]; simp, HBN.out⟩
    · have HD := Aside0.mk hd
      have HF : Aside0 (escR R = hexC (R[0]'hz).toNat ++ partsB partB (decS (R.extract 1 R.size))) := ⟨by rw [escR, if_pos ⟨hz, by rw [e0]; exact hd⟩, e0]⟩
      have HLN : Aside0 ((hexC (R[0]'hz).toNat).length ≤ 10) := ⟨hexC_len _⟩
      clear hd e0
      go_wp2_with (first | (go_at_call 31; (with_reducible refine (digit_calls _ _).mono ?_); rintro e W ⟨rfl, hb⟩; rw [HD.out]; have HBN := Aside0.mk (HBN.out.trans (below_less hb HBN.out.size)); have HWR := Aside0.mk (HWR.out.mono hb); clear hb) | (go_at_call 32; refine (number_w w.heap.size w.heap.size _ (R[0]'HZ.out).toNat (by have := UInt8.toNat_lt (R[0]'HZ.out); omega) _ (HT.out.keep H3.out HBN.out) HWR.out (by simp) (by have := HBN.out.size; omega)).mono ?_; rintro e W ⟨rfl, hb⟩; have HBN := Aside0.mk (HBN.out.trans hb.2.1); have HWR := Aside0.mk hb.1; clear hb) | (go_at_call 33; refine (parts_w w.heap.size w.heap.size _ (R.extract 1 R.size) _ (HT.out.keep H3.out HBN.out) H3.out HWR.out (by have h6 := HS.out; have h7 := HR.out.1; have h8 := HR.out.2; have h10 := HLN.out; simp only [List.length_append, List.length_cons, List.length_nil]; omega) (by have := HBN.out.size; omega)).mono ?_; rintro e W ⟨rfl, hb⟩; have HBN := Aside0.mk (HBN.out.trans hb.2); have HWR := Aside0.mk hb.1; clear hb) | (go_at_call 29; refine (wstring w.heap.size w.heap.size _ _ HWR.out).mono ?_; rintro e W ⟨rfl, hb⟩; have HBN := Aside0.mk (HBN.out.trans hb); clear hb) | fail)
      go_ret
      exact ⟨by rw [HU0.out, HF.out]; simp, HBN.out⟩
  · have d3 : R.toList.isEmpty = true := eq_nil R hz
    have HF : Aside0 (escR R = partsB partB (decS R)) := ⟨by rw [escR, if_neg (fun h => hz h.1)]⟩
    clear hz
    go_wp2_with (first | (go_at_call 33; refine (parts_w w.heap.size w.heap.size _ R _ (HT.out.keep H3.out HBN.out) H3.out HWR.out (by have h6 := HS.out; have h7 := HR.out.1; have h8 := HR.out.2; have h9 := hexC_len (R[0]?.getD 0).toNat; simp only [List.length_append, List.length_cons, List.length_nil]; omega) (by have := HBN.out.size; omega)).mono ?_; rintro e W ⟨rfl, hb⟩; have HBN := Aside0.mk (HBN.out.trans hb.2); have HWR := Aside0.mk hb.1; clear hb) | (go_at_call 29; refine (wstring w.heap.size w.heap.size _ _ HWR.out).mono ?_; rintro e W ⟨rfl, hb⟩; have HBN := Aside0.mk (HBN.out.trans hb); clear hb) | fail)
    go_ret
    exact ⟨by rw [HU0.out, HF.out]; simp, HBN.out⟩
set_option maxHeartbeats 16000000 in
set_option maxRecDepth 100000 in
theorem escape_C (S : ByteArray) (w : World) (hT : WT w) (hlen : S.size ≤ 1099511627776) (h1 : hpB S ⟨#[45]⟩ = true → ¬ 1 < S.size) (h2 : S.toList ≠ [45]) :
    Calls Tryd.prog 14 #[.string S] w fun e w' => e = .returned (.string ⟨(escS S).toArray⟩) ∧ Below w.heap.size w w' := by
  have hu44 := Tryd.underlying44
  have hu40 := Tryd.underlying40
  have hu42 := Tryd.underlying42
  have hu46 := Tryd.underlying46
  have hu41 := Tryd.underlying41
  have h3 : 3 < w.heap.size := by
    have : w.cell? ⟨3, 15, none⟩ = some (.int .u8 4) := hT
    obtain ⟨c, e, fr, hb, _⟩ := Go.Sort.cells_of_cell? this
    exact blk_lt hb
  have hp := hasPrefix_calls S ⟨#[45]⟩
  have HBN : Aside0 (Below w.heap.size w (w.alloc (.cells #[.pointer none, .slice none 0 0] 46))) := ⟨below_alloc (Below.refl w.heap.size w) _⟩
  have HWR : Aside0 (Blw (w.alloc (.cells #[.pointer none, .slice none 0 0] 46)) w.heap.size w.heap.size []) := ⟨Blw.new w w.heap.size (Nat.le_refl _)⟩
  have HT := Aside0.mk hT
  have HS := Aside0.mk hlen
  have H3 := Aside0.mk h3
  clear hT hlen h3
  have HU0 : Aside0 (escS S = escR S) := ⟨by rw [escS, if_neg (fun h => h1 h.1 h.2), if_neg h2]⟩
  have d2 : (S.toList == [45]) = false := by simp [h2]
  have HR : Aside0 (S.size ≤ S.size ∧ (S.extract 1 S.size).size ≤ S.size) := ⟨by simp⟩
  obtain ⟨R, hR⟩ : ∃ R, R = S := ⟨_, rfl⟩
  cases ho : hpB S ⟨#[45]⟩
  · have h1 := ho
    go_enter Tryd.func14, Tryd.ntmps14
    go_upto_region 6 with (first | (go_at_call 30; (with_reducible refine (hp _).mono ?_); rintro e W ⟨rfl, hb⟩; rw [h1]; have HBN := Aside0.mk (HBN.out.trans (below_less hb HBN.out.size)); have HWR := Aside0.mk (HWR.out.mono hb); clear hb) | (go_at_call 25; refine (wbyte w.heap.size w.heap.size _ 45 _ HWR.out (by simp) (by have := HBN.out.size; omega)).mono ?_; rintro e W ⟨rfl, hb⟩; have HBN := Aside0.mk (HBN.out.trans hb.2.1); have HWR := Aside0.mk hb.1; clear hb) | fail)
    subst hR
    by_cases hz : 0 < R.size
    · have HZ := Aside0.mk hz
      have e0 : hd0 R = (R[0]'hz).toNat := hd0_at R hz
      have hw : wrap32 (((R[0]'hz).toNat : Nat) : Int) = (((R[0]'hz).toNat : Nat) : Int) := by have := UInt8.toNat_lt (R[0]'hz); unfold wrap32; omega
      have d3 : R.toList.isEmpty = false := ne_nil R hz
      cases hd : btw 48 57 (((R[0]'hz).toNat : Nat) : Int)
      · have HD := Aside0.mk hd
        have HF : Aside0 (escR R = partsB partB (decS R)) := ⟨by rw [escR, if_neg (fun h => by rw [e0, hd] at h; exact absurd h.2 (by simp))]⟩
        clear hd e0
        go_wp2_with (first | (go_at_call 31; (with_reducible refine (digit_calls _ _).mono ?_); rintro e W ⟨rfl, hb⟩; rw [HD.out]; have HBN := Aside0.mk (HBN.out.trans (below_less hb HBN.out.size)); have HWR := Aside0.mk (HWR.out.mono hb); clear hb) | (go_at_call 33; refine (parts_w w.heap.size w.heap.size _ R _ (HT.out.keep H3.out HBN.out) H3.out HWR.out (by have h6 := HS.out; have h7 := HR.out.1; have h8 := HR.out.2; have h9 := hexC_len (R[0]?.getD 0).toNat; simp only [List.length_append, List.length_cons, List.length_nil]; omega) (by have := HBN.out.size; omega)).mono ?_; rintro e W ⟨rfl, hb⟩; have HBN := Aside0.mk (HBN.out.trans hb.2); have HWR := Aside0.mk hb.1; clear hb) | (go_at_call 29; refine (wstring w.heap.size w.heap.size _ _ HWR.out).mono ?_; rintro e W ⟨rfl, hb⟩; have HBN := Aside0.mk (HBN.out.trans hb); clear hb) | fail)
        go_ret
        exact ⟨by rw [HU0.out, HF.out]; simp, HBN.out⟩
      · have HD := Aside0.mk hd
        have HF : Aside0 (escR R = hexC (R[0]'hz).toNat ++ partsB partB (decS (R.extract 1 R.size))) := ⟨by rw [escR, if_pos ⟨hz, by rw [e0]; exact hd⟩, e0]⟩
        have HLN : Aside0 ((hexC (R[0]'hz).toNat).length ≤ 10) := ⟨hexC_len _⟩
        clear hd e0
        go_wp2_with (first | (go_at_call 31; (with_reducible refine (digit_calls _ _).mono ?_); rintro e W ⟨rfl, hb⟩; rw [HD.out]; have HBN := Aside0.mk (HBN.out.trans (below_less hb HBN.out.size)); have HWR := Aside0.mk (HWR.out.mono hb); clear hb) | (go_at_call 32; refine (number_w w.heap.size w.heap.size _ (R[0]'HZ.out).toNat (by have := UInt8.toNat_lt (R[0]'HZ.out); omega) _ (HT.out.keep H3.out HBN.out) HWR.out (by simp) (by have := HBN.out.size; omega)).mono ?_; rintro e W ⟨rfl, hb⟩; have HBN := Aside0.mk (HBN.out.trans hb.2.1); have HWR := Aside0.mk hb.1; clear hb) | (go_at_call 33; refine (parts_w w.heap.size w.heap.size _ (R.extract 1 R.size) _ (HT.out.keep H3.out HBN.out) H3.out HWR.out (by have h6 := HS.out; have h7 := HR.out.1; have h8 := HR.out.2; have h10 := HLN.out; simp only [List.length_append, List.length_cons, List.length_nil]; omega) (by have := HBN.out.size; omega)).mono ?_; rintro e W ⟨rfl, hb⟩; have HBN := Aside0.mk (HBN.out.trans hb.2); have HWR := Aside0.mk hb.1; clear hb) | (go_at_call 29; refine (wstring w.heap.size w.heap.size _ _ HWR.out).mono ?_; rintro e W ⟨rfl, hb⟩; have HBN := Aside0.mk (HBN.out.trans hb); clear hb) | fail)
        go_ret
        exact ⟨by rw [HU0.out, HF.out]; simp, HBN.out⟩
    · have d3 : R.toList.isEmpty = true := eq_nil R hz
      have HF : Aside0 (escR R = partsB partB (decS R)) := ⟨by rw [escR, if_neg (fun h => hz h.1)]⟩
      clear hz
      go_wp2_with (first | (go_at_call 33; refine (parts_w w.heap.size w.heap.size _ R _ (HT.out.keep H3.out HBN.out) H3.out HWR.out (by have h6 := HS.out; have h7 := HR.out.1; have h8 := HR.out.2; have h9 := hexC_len (R[0]?.getD 0).toNat; simp only [List.length_append, List.length_cons, List.length_nil]; omega) (by have := HBN.out.size; omega)).mono ?_; rintro e W ⟨rfl, hb⟩; have HBN := Aside0.mk (HBN.out.trans hb.2); have HWR := Aside0.mk hb.1; clear hb) | (go_at_call 29; refine (wstring w.heap.size w.heap.size _ _ HWR.out).mono ?_; rintro e W ⟨rfl, hb⟩; have HBN := Aside0.mk (HBN.out.trans hb); clear hb) | fail)
      go_ret
      exact ⟨by rw [HU0.out, HF.out]; simp, HBN.out⟩
  · have d1 : decide ((1 : Int) < (S.size : Int)) = false := decide_eq_false (by have := h1 ho; omega)
    have h1 := ho
    go_enter Tryd.func14, Tryd.ntmps14
    go_upto_region 6 with (first | (go_at_call 30; (with_reducible refine (hp _).mono ?_); rintro e W ⟨rfl, hb⟩; rw [h1]; have HBN := Aside0.mk (HBN.out.trans (below_less hb HBN.out.size)); have HWR := Aside0.mk (HWR.out.mono hb); clear hb) | (go_at_call 25; refine (wbyte w.heap.size w.heap.size _ 45 _ HWR.out (by simp) (by have := HBN.out.size; omega)).mono ?_; rintro e W ⟨rfl, hb⟩; have HBN := Aside0.mk (HBN.out.trans hb.2.1); have HWR := Aside0.mk hb.1; clear hb) | fail)
    subst hR
    by_cases hz : 0 < R.size
    · have HZ := Aside0.mk hz
      have e0 : hd0 R = (R[0]'hz).toNat := hd0_at R hz
      have hw : wrap32 (((R[0]'hz).toNat : Nat) : Int) = (((R[0]'hz).toNat : Nat) : Int) := by have := UInt8.toNat_lt (R[0]'hz); unfold wrap32; omega
      have d3 : R.toList.isEmpty = false := ne_nil R hz
      cases hd : btw 48 57 (((R[0]'hz).toNat : Nat) : Int)
      · have HD := Aside0.mk hd
        have HF : Aside0 (escR R = partsB partB (decS R)) := ⟨by rw [escR, if_neg (fun h => by rw [e0, hd] at h; exact absurd h.2 (by simp))]⟩
        clear hd e0
        go_wp2_with (first | (go_at_call 31; (with_reducible refine (digit_calls _ _).mono ?_); rintro e W ⟨rfl, hb⟩; rw [HD.out]; have HBN := Aside0.mk (HBN.out.trans (below_less hb HBN.out.size)); have HWR := Aside0.mk (HWR.out.mono hb); clear hb) | (go_at_call 33; refine (parts_w w.heap.size w.heap.size _ R _ (HT.out.keep H3.out HBN.out) H3.out HWR.out (by have h6 := HS.out; have h7 := HR.out.1; have h8 := HR.out.2; have h9 := hexC_len (R[0]?.getD 0).toNat; simp only [List.length_append, List.length_cons, List.length_nil]; omega) (by have := HBN.out.size; omega)).mono ?_; rintro e W ⟨rfl, hb⟩; have HBN := Aside0.mk (HBN.out.trans hb.2); have HWR := Aside0.mk hb.1; clear hb) | (go_at_call 29; refine (wstring w.heap.size w.heap.size _ _ HWR.out).mono ?_; rintro e W ⟨rfl, hb⟩; have HBN := Aside0.mk (HBN.out.trans hb); clear hb) | fail)
        go_ret
        exact ⟨by rw [HU0.out, HF.out]; simp, HBN.out⟩
      · have HD := Aside0.mk hd
        have HF : Aside0 (escR R = hexC (R[0]'hz).toNat ++ partsB partB (decS (R.extract 1 R.size))) := ⟨by rw [escR, if_pos ⟨hz, by rw [e0]; exact hd⟩, e0]⟩
        have HLN : Aside0 ((hexC (R[0]'hz).toNat).length ≤ 10) := ⟨hexC_len _⟩
        clear hd e0
        go_wp2_with (first | (go_at_call 31; (with_reducible refine (digit_calls _ _).mono ?_); rintro e W ⟨rfl, hb⟩; rw [HD.out]; have HBN := Aside0.mk (HBN.out.trans (below_less hb HBN.out.size)); have HWR := Aside0.mk (HWR.out.mono hb); clear hb) | (go_at_call 32; refine (number_w w.heap.size w.heap.size _ (R[0]'HZ.out).toNat (by have := UInt8.toNat_lt (R[0]'HZ.out); omega) _ (HT.out.keep H3.out HBN.out) HWR.out (by simp) (by have := HBN.out.size; omega)).mono ?_; rintro e W ⟨rfl, hb⟩; have HBN := Aside0.mk (HBN.out.trans hb.2.1); have HWR := Aside0.mk hb.1; clear hb) | (go_at_call 33; refine (parts_w w.heap.size w.heap.size _ (R.extract 1 R.size) _ (HT.out.keep H3.out HBN.out) H3.out HWR.out (by have h6 := HS.out; have h7 := HR.out.1; have h8 := HR.out.2; have h10 := HLN.out; simp only [List.length_append, List.length_cons, List.length_nil]; omega) (by have := HBN.out.size; omega)).mono ?_; rintro e W ⟨rfl, hb⟩; have HBN := Aside0.mk (HBN.out.trans hb.2); have HWR := Aside0.mk hb.1; clear hb) | (go_at_call 29; refine (wstring w.heap.size w.heap.size _ _ HWR.out).mono ?_; rintro e W ⟨rfl, hb⟩; have HBN := Aside0.mk (HBN.out.trans hb); clear hb) | fail)
        go_ret
        exact ⟨by rw [HU0.out, HF.out]; simp, HBN.out⟩
    · have d3 : R.toList.isEmpty = true := eq_nil R hz
      have HF : Aside0 (escR R = partsB partB (decS R)) := ⟨by rw [escR, if_neg (fun h => hz h.1)]⟩
      clear hz
      go_wp2_with (first | (go_at_call 33; refine (parts_w w.heap.size w.heap.size _ R _ (HT.out.keep H3.out HBN.out) H3.out HWR.out (by have h6 := HS.out; have h7 := HR.out.1; have h8 := HR.out.2; have h9 := hexC_len (R[0]?.getD 0).toNat; simp only [List.length_append, List.length_cons, List.length_nil]; omega) (by have := HBN.out.size; omega)).mono ?_; rintro e W ⟨rfl, hb⟩; have HBN := Aside0.mk (HBN.out.trans hb.2); have HWR := Aside0.mk hb.1; clear hb) | (go_at_call 29; refine (wstring w.heap.size w.heap.size _ _ HWR.out).mono ?_; rintro e W ⟨rfl, hb⟩; have HBN := Aside0.mk (HBN.out.trans hb); clear hb) | fail)
      go_ret
      exact ⟨by rw [HU0.out, HF.out]; simp, HBN.out⟩
set_option maxHeartbeats 16000000 in
set_option maxRecDepth 100000 in
theorem escape_B (S : ByteArray) (w : World) (hT : WT w) (hlen : S.size ≤ 1099511627776) (h2 : S.toList = [45]) :
    Calls Tryd.prog 14 #[.string S] w fun e w' => e = .returned (.string ⟨(escS S).toArray⟩) ∧ Below w.heap.size w w' := by
  have hu44 := Tryd.underlying44
  have hu40 := Tryd.underlying40
  have hu42 := Tryd.underlying42
  have hu46 := Tryd.underlying46
  have hu41 := Tryd.underlying41
  have h3 : 3 < w.heap.size := by
    have : w.cell? ⟨3, 15, none⟩ = some (.int .u8 4) := hT
    obtain ⟨c, e, fr, hb, _⟩ := Go.Sort.cells_of_cell? this
    exact blk_lt hb
  have hp := hasPrefix_calls S ⟨#[45]⟩
  have HBN : Aside0 (Below w.heap.size w (w.alloc (.cells #[.pointer none, .slice none 0 0] 46))) := ⟨below_alloc (Below.refl w.heap.size w) _⟩
  have HWR : Aside0 (Blw (w.alloc (.cells #[.pointer none, .slice none 0 0] 46)) w.heap.size w.heap.size []) := ⟨Blw.new w w.heap.size (Nat.le_refl _)⟩
  have HT := Aside0.mk hT
  have HS := Aside0.mk hlen
  have H3 := Aside0.mk h3
  clear hT hlen h3
  have hs : S.size = 1 := by
    have := congrArg List.length h2
    rw [bytes_len] at this
    exact this
  have HU0 : Aside0 (escS S = [92, 45]) := ⟨by rw [escS, if_neg (fun h => by omega), if_pos h2]⟩
  have d2 : (S.toList == [45]) = true := by simp [h2]
  have d1 : decide ((1 : Int) < (S.size : Int)) = false := decide_eq_false (by omega)
  cases ho : hpB S ⟨#[45]⟩
  all_goals have h1 := ho
  all_goals clear h2 hs
  all_goals go_enter Tryd.func14, Tryd.ntmps14
  all_goals go_wp2_with (first | (go_at_call 30; (with_reducible refine (hp _).mono ?_); rintro e W ⟨rfl, hb⟩; rw [h1]; have HBN := Aside0.mk (HBN.out.trans (below_less hb HBN.out.size)); have HWR := Aside0.mk (HWR.out.mono hb); clear hb) | (go_at_call 28; refine (barred_w w.heap.size w.heap.size _ 45 (by omega) (by omega) _ HWR.out (by simp) (by have := HBN.out.size; omega)).mono ?_; rintro e W ⟨rfl, hb⟩; have HBN := Aside0.mk (HBN.out.trans hb.2.1); have HWR := Aside0.mk hb.1; clear hb) | (go_at_call 29; refine (wstring w.heap.size w.heap.size _ _ HWR.out).mono ?_; rintro e W ⟨rfl, hb⟩; have HBN := Aside0.mk (HBN.out.trans hb); clear hb) | fail)
  all_goals go_ret
  all_goals exact ⟨by rw [HU0.out]; rfl, HBN.out⟩
theorem escape_w (S : ByteArray) (w : World) (hT : WT w) (hlen : S.size ≤ 1099511627776) :
    Calls Tryd.prog 14 #[.string S] w fun e w' => e = .returned (.string ⟨(escS S).toArray⟩) ∧ Below w.heap.size w w' := by
  by_cases h2 : S.toList = [45]
  · exact escape_B S w hT hlen h2
  · by_cases h1 : hpB S ⟨#[45]⟩ = true ∧ 1 < S.size
    · exact escape_A S w hT hlen h1.1 h1.2
    · exact escape_C S w hT hlen (fun a b => h1 ⟨a, b⟩) h2
end Go.Proofs.YtpnlbmeeihbjaabDoor.P
end
section
set_option linter.unusedVariables false
set_option linter.unusedSimpArgs false
namespace Go.Proofs.YtpnlbmeeihbjaabDoor.P
open Go.RowKit Go.Proofs.YtpnlbmeeihbjaabDoorW.PrintWords Go.Proofs.YtpnlbmeeihbjaabDoorW.PrintLast Go.Proofs.YtpnlbmeeihbjaabDoorW.PrintMore
open Go.Lib
attribute [local go_sem] max2_int min2_int max_two min_two max_three min_three max_four min_four
set_option linter.unusedVariables false
set_option linter.unusedSimpArgs false
open Go.Lib
def cutS (S : ByteArray) : List S26 := toksS (runS S)
theorem runL_len (S : ByteArray) : ∀ (k pos : Nat) (was : Int), (runL S k pos was).length ≤ k
  | 0, _, _ => Nat.le_refl _
  | k + 1, pos, was => by
    have := runL_len S k (pos + (Utf8.decode S pos).2) (Utf8.decode S pos).1
    unfold runL
    split
    · rw [List.length_append]
      split <;> simp <;> omega
    · simp
theorem runL_char (S : ByteArray) : ∀ (k pos : Nat) (was : Int), ∀ c ∈ runL S k pos was, 0 < c ∧ c ≤ 1114111
  | 0, _, _, c, h => by cases h
  | k + 1, pos, was, c, h => by
    have ih := runL_char S k (pos + (Utf8.decode S pos).2) (Utf8.decode S pos).1 c
    have hr := rune_le S pos
    unfold runL at h
    split at h
    · rcases List.mem_append.1 h with h | h
      · split at h
        · cases h
        · simp only [List.mem_singleton] at h
          subst h
          split
          · omega
          · split <;> omega
      · exact ih h
    · cases h
theorem okL_run (S : ByteArray) (h : S.size < 1099511627776) : OkL (runS S) := by
  refine ⟨?_, fun c hc => ?_⟩
  · have := runL_len S (S.size + 1) 0 0
    unfold runS
    omega
  · have := runL_char S (S.size + 1) 0 0 c hc
    omega
theorem nums_back (S : ByteArray) : strOfNums (bytesOfS S) = S := by
  have h : (strOfNums (bytesOfS S)).data.toList = S.data.toList := by
    rw [strOfNums_data]
    unfold bytesOfS
    rw [List.map_map]
    conv => rhs; rw [← List.map_id S.data.toList]
    refine List.map_congr_left fun b _ => ?_
    simp
  exact Go.WideShapes.bytes_inj h
set_option maxHeartbeats 4000000 in
set_option maxRecDepth 100000 in
theorem cut_calls (S : ByteArray) (w : World) (hS : S.size < 1099511627776) :
    Calls Tryd.prog 10 #[.string S] w fun e w' => ∃ v, e = .returned v ∧ Kd.R k26 26 w' w.heap.size (fun _ => True) v (cutS S) ∧ Below w.heap.size w w' := by
  have hu9 := Tryd.underlying9
  have hu40 := Tryd.underlying40
  have hO := Aside0.mk (okL_run S hS)
  have hcv := Lib.run_convert_string_bytes (P := Tryd.prog) w 9 40 5 S Tryd.underlying9 Tryd.underlying40 Tryd.underlying5
  have HB := Aside0.mk (bytesWorld_below w 5 S)
  have c24 := runes_calls S (some ⟨w.heap.size, 0, none⟩) (grownCap w S.size 0 5) (Lib.bytesWorld w 5 S) (by omega) (fun W hW => by
    have h := ((BRow.made w 5 S).below hW).str (P := Tryd.prog) 40 9 (grownCap w S.size 0 5) Tryd.underlying40 Tryd.underlying5 Tryd.underlying9 S.size (bytesOfS_len S)
    rw [nums_back] at h
    exact h)
  clear hS
  go_enter Tryd.func10, Tryd.ntmps10
  go_wp2_with fail
  refine c24.mono ?_
  rintro e W1 ⟨u, rfl, hR, hb⟩
  obtain ⟨A1, n1, rfl, hn1, hC1⟩ := Kd.R_reads hR
  have c23 := tokens_calls (runS S) A1 n1 W1 hC1 hn1 hO.out
  have HB1 := Aside0.mk (HB.out.trans (below_less hb HB.out.size))
  clear hcv c24 hR hC1 hb
  go_wp2_with fail
  refine c23.mono ?_
  rintro e W2 ⟨u, rfl, hR, hb⟩
  have HB2 := Aside0.mk (HB1.out.trans (below_less hb HB1.out.size))
  have HC2 := Aside0.mk (Kd.R_lower hR HB1.out.size)
  clear c23 hR hb
  go_wp2_with fail
  go_ret
  exact ⟨_, rfl, HC2.out, HB2.out⟩
end Go.Proofs.YtpnlbmeeihbjaabDoor.P
end
section
set_option linter.unusedVariables false
set_option linter.unusedSimpArgs false
namespace Go.Proofs.YtpnlbmeeihbjaabDoor.P
open Go.RowKit Go.Proofs.YtpnlbmeeihbjaabDoorW.PrintWords Go.Proofs.YtpnlbmeeihbjaabDoorW.PrintLast Go.Proofs.YtpnlbmeeihbjaabDoorW.PrintMore
open Go.Lib
attribute [local go_sem] max2_int min2_int max_two min_two max_three min_three max_four min_four
set_option linter.unusedVariables false
set_option linter.unusedSimpArgs false
theorem WT.three {w : World} (hT : WT w) : 3 < w.heap.size := by
  have : w.cell? ⟨3, 15, none⟩ = some (.int .u8 4) := hT
  obtain ⟨c, e, fr, hb, _⟩ := Go.Sort.cells_of_cell? this
  exact blk_lt hb
def hashT (x1 : ByteArray) (x4 : Bool) : List UInt8 := if x4 then escS x1 else partsB partB (decS x1)
set_option maxHeartbeats 16000000 in
set_option maxRecDepth 100000 in
theorem hash_w (x0 : Int) (x1 x2 : ByteArray) (x3 x4 : Bool) (w : World) (hT : WT w) (hlen : x1.size ≤ 1099511627776) :
    Calls Tryd.prog 34 #[.agg #[.int .i64 x0, .string x1, .string x2, .bool x3, .bool x4]] w fun e w' => e = .returned (.string ⟨(hashT x1 x4).toArray⟩) ∧ Below w.heap.size w w' := by
  have hu44 := Tryd.underlying44
  have hu40 := Tryd.underlying40
  have hu42 := Tryd.underlying42
  have hu46 := Tryd.underlying46
  have hu41 := Tryd.underlying41
  have hu26 := Tryd.underlying26
  have HB : Aside0 (Below w.heap.size w (w.alloc (.cells #[.int .i64 x0, .string x1, .string x2, .bool x3, .bool x4] 26))) := ⟨below_alloc (Below.refl w.heap.size w) _⟩
  have HT := Aside0.mk hT
  have H3 := Aside0.mk hT.three
  have HS := Aside0.mk hlen
  clear hT hlen
  cases x4 with
  | true =>
    go_enter Tryd.func34, Tryd.ntmps34
    go_wp2_with (first | (go_at_call 14; refine (escape_w x1 _ (HT.out.below HB.out) HS.out).mono ?_; rintro e W ⟨rfl, hb⟩; have HB := Aside0.mk (HB.out.trans (below_less hb HB.out.size)); clear hb) | fail)
    go_ret
    exact ⟨rfl, HB.out⟩
  | false =>
    go_enter Tryd.func34, Tryd.ntmps34
    go_upto_region 3 with fail
    have HC : Aside0 ((w.alloc (.cells #[.int .i64 x0, .string x1, .string x2, .bool x3, .bool false] 26)).cell? ⟨w.heap.size, 1, none⟩ = some (.string x1)) := ⟨by rw [World.cell?_alloc_new]; rfl⟩
    have HZ : Aside0 ((w.alloc (.cells #[.int .i64 x0, .string x1, .string x2, .bool x3, .bool false] 26)).heap.size = w.heap.size + 1) := ⟨by simp⟩
    generalize w.alloc (.cells #[.int .i64 x0, .string x1, .string x2, .bool x3, .bool false] 26) = W1 at HB HC HZ ⊢
    have HBN : Aside0 (Below W1.heap.size W1 (W1.alloc (.cells #[.pointer none, .slice none 0 0] 46))) := ⟨below_alloc (Below.refl W1.heap.size W1) _⟩
    have HWR : Aside0 (Blw (W1.alloc (.cells #[.pointer none, .slice none 0 0] 46)) W1.heap.size W1.heap.size []) := ⟨Blw.new W1 W1.heap.size (Nat.le_refl _)⟩
    have hc1 : (W1.alloc (.cells #[.pointer none, .slice none 0 0] 46)).cell? ⟨w.heap.size, 1, none⟩ = some (.string x1) := pw_cell_below HBN.out HC.out
    go_wp2_with (first | (go_at_call 33; refine (parts_w W1.heap.size W1.heap.size _ x1 _ ((HT.out.below HB.out).keep (by have := H3.out; have := HZ.out; omega) HBN.out) (by have := H3.out; have := HZ.out; omega) HWR.out (by have := HS.out; simp only [List.length_nil]; omega) (by have := HBN.out.size; omega)).mono ?_; rintro e W ⟨rfl, hb⟩; have HBN := Aside0.mk (HBN.out.trans hb.2); have HWR := Aside0.mk hb.1; clear hb) | (go_at_call 29; refine (wstring W1.heap.size W1.heap.size _ _ HWR.out).mono ?_; rintro e W ⟨rfl, hb⟩; have HBN := Aside0.mk (HBN.out.trans hb); clear hb) | fail)
    go_ret
    exact ⟨by simp [hashT], HB.out.trans (below_less HBN.out HB.out.size)⟩
def bigE (c : Nat) : Bool := c == 69 || c == 101
def unitT (S : ByteArray) : List UInt8 := if 0 < S.size ∧ bigE (hd0 S) = true then hexC (hd0 S) ++ partsB partB (decS (S.extract 1 S.size)) else escS S
theorem or_e : ∀ c : Fin 256, (bits .or .u8 (c.val : Int) 32 == 101) = bigE c.val := by decide +kernel
set_option maxHeartbeats 16000000 in
set_option maxRecDepth 100000 in
theorem unit_w (S : ByteArray) (w : World) (hT : WT w) (hlen : S.size ≤ 1099511627776) :
    Calls Tryd.prog 35 #[.string S] w fun e w' => e = .returned (.string ⟨(unitT S).toArray⟩) ∧ Below w.heap.size w w' := by
  have hu44 := Tryd.underlying44
  have hu40 := Tryd.underlying40
  have hu42 := Tryd.underlying42
  have hu46 := Tryd.underlying46
  have hu41 := Tryd.underlying41
  have hu26 := Tryd.underlying26
  have HBN : Aside0 (Below w.heap.size w (w.alloc (.cells #[.pointer none, .slice none 0 0] 46))) := ⟨below_alloc (Below.refl w.heap.size w) _⟩
  have HWR : Aside0 (Blw (w.alloc (.cells #[.pointer none, .slice none 0 0] 46)) w.heap.size w.heap.size []) := ⟨Blw.new w w.heap.size (Nat.le_refl _)⟩
  have HT := Aside0.mk hT
  have H3 := Aside0.mk hT.three
  have HS := Aside0.mk hlen
  clear hT hlen
  have HX : Aside0 ((S.extract 1 S.size).size ≤ S.size) := ⟨by simp⟩
  by_cases hz : 0 < S.size
  · have HZ := Aside0.mk hz
    have e0 : hd0 S = (S[0]'hz).toNat := hd0_at S hz
    have hw : wrap32 (((S[0]'hz).toNat : Nat) : Int) = (((S[0]'hz).toNat : Nat) : Int) := by have := UInt8.toNat_lt (S[0]'hz); unfold wrap32; omega
    have d3 : S.toList.isEmpty = false := ne_nil S hz
    have ho := or_e ⟨(S[0]'hz).toNat, UInt8.toNat_lt _⟩
    simp only at ho
    cases hd : bigE (S[0]'hz).toNat
    · have HF : Aside0 (unitT S = escS S) := ⟨by rw [unitT, if_neg (fun h => by rw [e0, hd] at h; exact absurd h.2 (by simp))]⟩
      have ho2 : (bits .or .u8 (((S[0]'hz).toNat : Nat) : Int) 32 != 101) = true := by rw [bne, ho, hd]; rfl
      rw [hd] at ho
      clear hd e0
      go_enter Tryd.func35, Tryd.ntmps35
      go_wp2_with (first | (go_at_call 14; refine (escape_w S _ HT.out HS.out).mono ?_; rintro e W ⟨rfl, hb⟩; have HB := Aside0.mk hb; clear hb) | fail)
      go_ret
      exact ⟨by rw [HF.out]; rfl, HB.out⟩
    · have HF : Aside0 (unitT S = hexC (S[0]'hz).toNat ++ partsB partB (decS (S.extract 1 S.size))) := ⟨by rw [unitT, if_pos ⟨hz, by rw [e0]; exact hd⟩, e0]⟩
      have HLN : Aside0 ((hexC (S[0]'hz).toNat).length ≤ 10) := ⟨hexC_len _⟩
      have ho2 : (bits .or .u8 (((S[0]'hz).toNat : Nat) : Int) 32 != 101) = false := by rw [bne, ho, hd]; rfl
      rw [hd] at ho
      clear hd e0
      go_enter Tryd.func35, Tryd.ntmps35
      go_wp2_with (first | (go_at_call 32; refine (number_w w.heap.size w.heap.size _ (S[0]'HZ.out).toNat (by have := UInt8.toNat_lt (S[0]'HZ.out); omega) _ (HT.out.keep H3.out HBN.out) HWR.out (by simp) (by have := HBN.out.size; omega)).mono ?_; rintro e W ⟨rfl, hb⟩; have HBN := Aside0.mk (HBN.out.trans hb.2.1); have HWR := Aside0.mk hb.1; clear hb) | (go_at_call 33; refine (parts_w w.heap.size w.heap.size _ (S.extract 1 S.size) _ (HT.out.keep H3.out HBN.out) H3.out HWR.out (by have h6 := HS.out; have h7 := HX.out; have h8 := HLN.out; simp only [List.length_append, List.length_nil]; omega) (by have := HBN.out.size; omega)).mono ?_; rintro e W ⟨rfl, hb⟩; have HBN := Aside0.mk (HBN.out.trans hb.2); have HWR := Aside0.mk hb.1; clear hb) | (go_at_call 29; refine (wstring w.heap.size w.heap.size _ _ HWR.out).mono ?_; rintro e W ⟨rfl, hb⟩; have HBN := Aside0.mk (HBN.out.trans hb); clear hb) | fail)
      go_ret
      exact ⟨by rw [HF.out]; simp, HBN.out⟩
  · have d3 : S.toList.isEmpty = true := eq_nil S hz
    have HF : Aside0 (unitT S = escS S) := ⟨by rw [unitT, if_neg (fun h => hz h.1)]⟩
    clear hz
    go_enter Tryd.func35, Tryd.ntmps35
    go_wp2_with (first | (go_at_call 14; refine (escape_w S _ HT.out HS.out).mono ?_; rintro e W ⟨rfl, hb⟩; have HB := Aside0.mk hb; clear hb) | fail)
    go_ret
    exact ⟨by rw [HF.out]; rfl, HB.out⟩
end Go.Proofs.YtpnlbmeeihbjaabDoor.P
end
section
set_option linter.unusedVariables false
set_option linter.unusedSimpArgs false
namespace Go.Proofs.YtpnlbmeeihbjaabDoor.P
open Go.RowKit Go.Proofs.YtpnlbmeeihbjaabDoorW.PrintWords Go.Proofs.YtpnlbmeeihbjaabDoorW.PrintLast Go.Proofs.YtpnlbmeeihbjaabDoorW.PrintMore
open Go.Lib
attribute [local go_sem] max2_int min2_int max_two min_two max_three min_three max_four min_four
set_option linter.unusedVariables false
set_option linter.unusedSimpArgs false
def allD (S : ByteArray) : Bool := (decS S).all digB
theorem int1_calls (c : Int) (w : World) : Calls Tryd.prog 38 #[.int .i32 c] w fun e w' => e = .returned (.bool (!digB c)) ∧ Below w.heap.size w w' := by
  go_enter Tryd.func38, Tryd.ntmps38
  go_wp2_with (first | (go_at_call 31; (with_reducible refine (digit_calls _ _).mono ?_); rintro e W ⟨rfl, hb⟩; have HB := Aside0.mk hb; clear hb) | fail)
  go_ret
  exact ⟨rfl, HB.out⟩
set_option maxHeartbeats 16000000 in
set_option maxRecDepth 100000 in
theorem idx_calls (S : ByteArray) (w : World) : Calls Tryd.prog 59 #[.string S, .func (.func 38) #[] #[], .bool true] w fun e w' => ∃ v : Int, e = .returned (.int .i64 v) ∧ decide (0 ≤ v) = (!allD S) ∧ Below w.heap.size w w' := by
  have HI : Aside0 ((w.iter S 0).heap[w.heap.size]? = some (.stringIter S 0)) := ⟨World.iter_heap w S 0⟩
  have HBB : Aside0 (Below w.heap.size w (w.iter S 0)) := ⟨below_alloc (Below.refl w.heap.size w) (.stringIter S 0)⟩
  go_enter Tryd.func59, Tryd.ntmps59
  go_wp2_with fail
  go_loopg [] (S.size + 1) (fun kq w' => ∃ (pos : Nat), Aside0 ((decL S kq pos).all digB = allD S) ∧ Aside0 (S.size + 1 ≤ pos + kq) ∧ Aside0 (w'.heap[w.heap.size]? = some (.stringIter S pos)) ∧ Aside0 (Below w.heap.size w w'))
  case atStart => exact ⟨0, ⟨rfl⟩, ⟨by simp⟩, HI, HBB⟩
  case round =>
    clear HI HBB
    obtain ⟨pos, HE, HN, HI, HBB⟩ := hrel
    cases gk with
    | zero =>
      have c0 : ¬ pos < S.size := by have := HN.out; omega
      have hnx : ∀ ty, (Instr.next (.pointer (some ⟨w.heap.size, 0, none⟩)) true ty).run Tryd.prog wr = .ok (.tuple #[.bool false]) wr := fun ty => run_next_end_at wr w.heap.size S pos ty HI.out c0
      have HE2 : Aside0 (allD S = true) := ⟨by rw [← HE.out]; rfl⟩
      clear c0
      go_wp2_with fail
      go_ret
      exact ⟨-1, rfl, by rw [HE2.out]; rfl, HBB.out⟩
    | succ n =>
      by_cases c0 : pos < S.size
      · have hnx : ∀ ty, (Instr.next (.pointer (some ⟨w.heap.size, 0, none⟩)) true ty).run Tryd.prog wr = .ok (.tuple #[.bool true, .int .i64 pos, .int .i32 (Utf8.decode S pos).1]) (wr.iterAt w.heap.size S (pos + (Utf8.decode S pos).2)) := fun ty => run_next_any_at wr w.heap.size S pos ty HI.out c0
        have hE : allD S = (digB ((Utf8.decode S pos).1 : Int) && (decL S n (pos + (Utf8.decode S pos).2)).all digB) := by rw [← HE.out, decL, if_pos c0, List.all_cons]
        have HDP : Aside0 (pos + 1 ≤ pos + (Utf8.decode S pos).2) := ⟨by have := dec_pos S pos c0; omega⟩
        have HI2 := Aside0.mk (iterAt_heap wr w.heap.size S pos (pos + (Utf8.decode S pos).2) HI.out)
        have HBB2 : Aside0 (Below w.heap.size w (wr.iterAt w.heap.size S (pos + (Utf8.decode S pos).2))) := ⟨iter_below HBB.out (Nat.le_refl _) S _⟩
        generalize wr.iterAt w.heap.size S (pos + (Utf8.decode S pos).2) = W3 at HI2 HBB2 hnx
        generalize pos + (Utf8.decode S pos).2 = pos' at hE HI2 HDP
        generalize ((Utf8.decode S pos).1 : Int) = c at hE hnx
        have cc := int1_calls c W3
        have HGS : Aside0 (w.heap.size < W3.heap.size) := ⟨blk_lt HI2.out⟩
        cases hd : digB c with
        | true =>
          rw [hd] at cc hE
          have HR : Aside0 ((decL S n pos').all digB = allD S) := ⟨by rw [hE]; simp⟩
          clear hE
          go_wp2_with (first | (go_at_call 38; refine cc.mono ?_; rintro e W4 ⟨rfl, hb⟩; have HB4 := Aside0.mk hb; clear hb) | fail)
          go_roundg n
          case measure => omega
          case rel => exact ⟨pos', HR, ⟨by have := HN.out; have := HDP.out; omega⟩, ⟨by rw [HB4.out.block _ HGS.out]; exact HI2.out⟩, ⟨HBB2.out.trans (below_less HB4.out (by have := HGS.out; omega))⟩⟩
        | false =>
          rw [hd] at cc hE
          have HR : Aside0 (allD S = false) := ⟨by rw [hE]; simp⟩
          clear hE
          go_wp2_with (first | (go_at_call 38; refine cc.mono ?_; rintro e W4 ⟨rfl, hb⟩; have HB4 := Aside0.mk hb; clear hb) | fail)
          go_ret
          exact ⟨(pos : Int), rfl, by rw [HR.out]; simp, HBB2.out.trans (below_less HB4.out (by have := HGS.out; omega))⟩
      · have hnx : ∀ ty, (Instr.next (.pointer (some ⟨w.heap.size, 0, none⟩)) true ty).run Tryd.prog wr = .ok (.tuple #[.bool false]) wr := fun ty => run_next_end_at wr w.heap.size S pos ty HI.out c0
        have HE2 : Aside0 (allD S = true) := ⟨by rw [← HE.out, decL, if_neg c0]; rfl⟩
        clear c0
        go_wp2_with fail
        go_ret
        exact ⟨-1, rfl, by rw [HE2.out]; rfl, HBB.out⟩
theorem index_calls (S : ByteArray) (w : World) : Calls Tryd.prog 37 #[.string S, .func (.func 38) #[] #[]] w fun e w' => ∃ v : Int, e = .returned (.int .i64 v) ∧ decide (0 ≤ v) = (!allD S) ∧ Below w.heap.size w w' := by
  have cc := idx_calls S w
  go_enter Tryd.func37, Tryd.ntmps37
  go_wp2_with (first | (go_at_call 59; refine cc.mono ?_; rintro e W ⟨v, rfl, hv, hb⟩; have HB := Aside0.mk hb; have HV := Aside0.mk hv; clear hb hv) | fail)
  go_ret
  exact ⟨v, rfl, HV.out, HB.out⟩
def trimB (S : ByteArray) (c : UInt8) : ByteArray := if hpB S ⟨#[c]⟩ = true then S.extract 1 S.size else S
theorem trim_calls (S : ByteArray) (c : UInt8) (w : World) : Calls Tryd.prog 36 #[.string S, .string ⟨#[c]⟩] w fun e w' => e = .returned (.string (trimB S c)) ∧ Below w.heap.size w w' := by
  refine (strings_TrimPrefix.calls S ⟨#[c]⟩ (trimB S c) w ?_).mono (fun e w' h => ⟨h.1, h.2.below⟩)
  have h0 : stringslite_HasPrefix.f S ⟨#[c]⟩ = some (hpB S ⟨#[c]⟩) := by
    have := hasPrefix_f S ⟨#[c]⟩
    unfold strings_HasPrefix.f at this
    cases e : stringslite_HasPrefix.f S ⟨#[c]⟩ with
    | none => rw [e] at this; cases this
    | some b => rw [e] at this; simpa using this
  unfold strings_TrimPrefix.f stringslite_TrimPrefix.f trimB
  rw [h0]
  simp only [Option.bind_some]
  cases hb : hpB S ⟨#[c]⟩ with
  | false => rfl
  | true =>
    have hs : (1 : Int) ≤ (S.size : Int) := by
      unfold hpB at hb
      rw [Bool.and_eq_true, decide_eq_true_eq] at hb
      have h1 : 1 ≤ S.size := hb.1
      omega
    rw [if_pos rfl, if_pos (by omega), if_pos (show ((⟨#[c]⟩ : ByteArray).size : Int) ≤ (S.size : Int) from hs)]
    rfl
end Go.Proofs.YtpnlbmeeihbjaabDoor.P
end
section
set_option linter.unusedVariables false
set_option linter.unusedSimpArgs false
namespace Go.Proofs.YtpnlbmeeihbjaabDoor.P
open Go.RowKit Go.Proofs.YtpnlbmeeihbjaabDoorW.PrintWords Go.Proofs.YtpnlbmeeihbjaabDoorW.PrintLast Go.Proofs.YtpnlbmeeihbjaabDoorW.PrintMore
open Go.Lib
attribute [local go_sem] max2_int min2_int max_two min_two max_three min_three max_four min_four
set_option linter.unusedVariables false
set_option linter.unusedSimpArgs false
def numF (n : Int) (xs : List Int) : Int := xs.foldl (fun a c => min (10 * a + (c - 48)) 1000000) n
def numV (d : ByteArray) : Int := numF 0 (decS d)
theorem dig_range {c : Int} (h : digB c = true) : 48 ≤ c ∧ c ≤ 57 := by
  unfold digB btw at h
  simpa using h
def intD (d s : ByteArray) : Int × Bool := if d.toList.isEmpty = true ∨ allD d = false then (0, false) else (if (d.toList == s.toList) = true then numV d else -numV d, true)
def intK (k : Int) (t : ByteArray) (wh : Bool) : Int × Bool :=
  if wh = false ∨ k < 10 ∨ 12 < k then (0, false)
  else if (trimB t 43).size < t.size then intD (trimB t 43) (trimB t 43) else intD (trimB (trimB t 43) 45) (trimB t 43)
theorem intK_in {k : Int} {t : ByteArray} {wh : Bool} (h : ¬ (wh = false ∨ k < 10 ∨ 12 < k)) : intK k t wh = if (trimB t 43).size < t.size then intD (trimB t 43) (trimB t 43) else intD (trimB (trimB t 43) 45) (trimB t 43) := by unfold intK; rw [if_neg h]
theorem intD_dig {d s : ByteArray} (h1 : d.toList.isEmpty = false) (h2 : allD d = true) : intD d s = (if (d.toList == s.toList) = true then numV d else -numV d, true) := by unfold intD; rw [if_neg (by rw [h1, h2]; simp)]
set_option maxHeartbeats 16000000 in
set_option maxRecDepth 100000 in
theorem int_bad (x0 : Int) (x1 x2 : ByteArray) (x3 x4 : Bool) (w : World) (hb : x3 = false ∨ x0 < 10 ∨ 12 < x0) :
    Calls Tryd.prog 17 #[.agg #[.int .i64 x0, .string x1, .string x2, .bool x3, .bool x4]] w fun e w' => e = .returned (.tuple #[.int .i64 0, .bool false]) ∧ Below w.heap.size w w' := by
  have hu26 := Tryd.underlying26
  have HB : Aside0 (Below w.heap.size w (w.alloc (.cells #[.int .i64 x0, .string x1, .string x2, .bool x3, .bool x4] 26))) := ⟨below_alloc (Below.refl w.heap.size w) _⟩
  cases x3 with
  | false =>
    clear hb
    go_enter Tryd.func17, Tryd.ntmps17
    go_wp2_with fail
    go_ret2
    exact ⟨rfl, HB.out⟩
  | true =>
    by_cases c1 : x0 < 10
    · have d1 : decide (x0 < 10) = true := decide_eq_true c1
      clear hb
      go_enter Tryd.func17, Tryd.ntmps17
      go_wp2_with fail
      go_ret2
      exact ⟨rfl, HB.out⟩
    · have d1 : decide (x0 < 10) = false := decide_eq_false c1
      have c2 : 12 < x0 := by rcases hb with h | h | h
                              · cases h
                              · exact absurd h c1
                              · exact h
      have d2 : decide (12 < x0) = true := decide_eq_true c2
      clear hb
      go_enter Tryd.func17, Tryd.ntmps17
      go_wp2_with fail
      go_ret2
      exact ⟨rfl, HB.out⟩
set_option maxHeartbeats 16000000 in
set_option maxRecDepth 100000 in
theorem int_good (x0 : Int) (x1 x2 : ByteArray) (x4 : Bool) (w : World) (h1 : 10 ≤ x0) (h2 : x0 ≤ 12) :
    Calls Tryd.prog 17 #[.agg #[.int .i64 x0, .string x1, .string x2, .bool true, .bool x4]] w fun e w' => e = .returned (.tuple #[.int .i64 (intK x0 x1 true).1, .bool (intK x0 x1 true).2]) ∧ Below w.heap.size w w' := by
  have hu26 := Tryd.underlying26
  have d1 : decide (x0 < 10) = false := decide_eq_false (by omega)
  have d2 : decide (12 < x0) = false := decide_eq_false (by omega)
  have HK : Aside0 (intK x0 x1 true = if (trimB x1 43).size < x1.size then intD (trimB x1 43) (trimB x1 43) else intD (trimB (trimB x1 43) 45) (trimB x1 43)) := ⟨intK_in (by simp; omega)⟩
  have HB : Aside0 (Below w.heap.size w (w.alloc (.cells #[.int .i64 x0, .string x1, .string x2, .bool true, .bool x4] 26))) := ⟨below_alloc (Below.refl w.heap.size w) _⟩
  have HC : Aside0 ((w.alloc (.cells #[.int .i64 x0, .string x1, .string x2, .bool true, .bool x4] 26)).cell? ⟨w.heap.size, 1, none⟩ = some (.string x1)) := ⟨by rw [World.cell?_alloc_new]; rfl⟩
  have HZ : Aside0 ((w.alloc (.cells #[.int .i64 x0, .string x1, .string x2, .bool true, .bool x4] 26)).heap.size = w.heap.size + 1) := ⟨by simp⟩
  clear h1 h2
  go_enter Tryd.func17, Tryd.ntmps17
  go_upto_region 3 with fail
  generalize w.alloc (.cells #[.int .i64 x0, .string x1, .string x2, .bool true, .bool x4] 26) = W1 at HB HC HZ ⊢
  have hc1 := HC.out
  generalize hs0 : trimB x1 43 = s at HK
  go_upto_region 5 with (first | (go_at_call 36; refine (trim_calls _ _ _).mono ?_; rintro e W ⟨rfl, hb⟩; (try rw [hs0]); have HC := Aside0.mk (pw_cell_below hb HC.out); have HB := Aside0.mk (HB.out.trans (below_less hb HB.out.size)); clear hb) | fail)
  have hc2 := HC.out
  by_cases c : s.size < x1.size
  · have d3 : decide ((s.size : Int) < (x1.size : Int)) = true := decide_eq_true (by omega)
    have d4 : decide (s.size < x1.size) = true := decide_eq_true c
    have HK : Aside0 (intK x0 x1 true = intD s s) := ⟨by rw [HK.out, if_pos c]⟩
    clear c hc1 hs0
    go_upto_region 7 with fail
    clear d3 d4 hc2
    cases he : s.toList.isEmpty with
    | true =>
      have HR2 : Aside0 (intK x0 x1 true = (0, false)) := ⟨by rw [HK.out]; unfold intD; rw [if_pos (.inl he)]⟩
      go_wp2_with fail
      go_ret2
      exact ⟨by rw [HR2.out]; rfl, HB.out⟩
    | false =>
      cases hA : allD s with
      | false =>
        have HR2 : Aside0 (intK x0 x1 true = (0, false)) := ⟨by rw [HK.out]; unfold intD; rw [if_pos (.inr hA)]⟩
        have cc : ∀ W, Calls Tryd.prog 37 #[.string s, .func (.func 38) #[] #[]] W fun e w' => ∃ v : Int, e = .returned (.int .i64 v) ∧ decide (0 ≤ v) = true ∧ Below W.heap.size W w' := fun W => by have h_ := index_calls s W; rw [hA] at h_; exact h_
        clear hA
        go_wp2_with (first | (go_at_call 37; refine (cc _).mono ?_; rintro e W ⟨v, rfl, hv, hb⟩; have HB := Aside0.mk (HB.out.trans (below_less hb HB.out.size)); clear hb) | fail)
        go_ret2
        exact ⟨by rw [HR2.out]; rfl, HB.out⟩
      | true =>
        have HR : Aside0 (intK x0 x1 true = (if (s.toList == s.toList) = true then numV s else -numV s, true)) := ⟨by rw [HK.out]; exact intD_dig he hA⟩
        have cc : ∀ W, Calls Tryd.prog 37 #[.string s, .func (.func 38) #[] #[]] W fun e w' => ∃ v : Int, e = .returned (.int .i64 v) ∧ decide (0 ≤ v) = false ∧ Below W.heap.size W w' := fun W => by have h_ := index_calls s W; rw [hA] at h_; exact h_
        have HD : Aside0 ((decL s (s.size + 1) 0).all digB = true) := ⟨hA⟩
        clear hA
        go_upto_region 9 with (first | (go_at_call 37; refine (cc _).mono ?_; rintro e W ⟨v, rfl, hv, hb⟩; have HB := Aside0.mk (HB.out.trans (below_less hb HB.out.size)); clear hb) | fail)
        clear cc
        have HI : Aside0 ((W.iter s 0).heap[W.heap.size]? = some (.stringIter s 0)) := ⟨World.iter_heap W s 0⟩
        have HBB : Aside0 (Below w.heap.size w (W.iter s 0)) := ⟨HB.out.trans (below_less (below_alloc (Below.refl W.heap.size W) (.stringIter s 0)) HB.out.size)⟩
        have HGE : Aside0 (w.heap.size ≤ W.heap.size) := ⟨HB.out.size⟩
        go_wp2_with fail
        generalize W.iter s 0 = W2 at HI HBB ⊢
        generalize W.heap.size = gi at HI HGE ⊢
        go_loopg [6] (s.size + 1) (fun kq v6 w' => ∃ (pos : Nat) (n : Int), v6 = .int .i64 n ∧ Aside0 (numF n (decL s kq pos) = numV s) ∧ Aside0 (0 ≤ n ∧ n ≤ 1000000) ∧ Aside0 ((decL s kq pos).all digB = true) ∧ Aside0 (s.size + 1 ≤ pos + kq) ∧ Aside0 (w'.heap[gi]? = some (.stringIter s pos)) ∧ Aside0 (Below w.heap.size w w'))
        case atStart => exact ⟨0, 0, rfl, ⟨rfl⟩, ⟨by simp⟩, HD, ⟨by simp⟩, HI, HBB⟩
        case round =>
          clear HI HBB HD
          obtain ⟨pos, n, rfl, HE, HM, HA, HN, HI, HBB⟩ := hrel
          cases gk with
          | zero =>
            have c0 : ¬ pos < s.size := by have := HN.out; omega
            have hnx : ∀ ty, (Instr.next (.pointer (some ⟨gi, 0, none⟩)) true ty).run Tryd.prog wr = .ok (.tuple #[.bool false]) wr := fun ty => run_next_end_at wr gi s pos ty HI.out c0
            have HE2 : Aside0 (numV s = n) := ⟨by rw [← HE.out]; rfl⟩
            clear c0
            have hm := HM.out
            have e5 : wrap64 (-n) = -n := by unfold wrap64; omega
            clear hm
            go_wp2_with fail
            go_ret2
            exact ⟨by rw [HR.out, HE2.out, if_pos (beq_self_eq_true _)]; rfl, HBB.out⟩
          | succ m =>
            by_cases c0 : pos < s.size
            · have hnx : ∀ ty, (Instr.next (.pointer (some ⟨gi, 0, none⟩)) true ty).run Tryd.prog wr = .ok (.tuple #[.bool true, .int .i64 pos, .int .i32 (Utf8.decode s pos).1]) (wr.iterAt gi s (pos + (Utf8.decode s pos).2)) := fun ty => run_next_any_at wr gi s pos ty HI.out c0
              have hE : numV s = numF (min (10 * n + (((Utf8.decode s pos).1 : Int) - 48)) 1000000) (decL s m (pos + (Utf8.decode s pos).2)) := by rw [← HE.out, decL, if_pos c0]; rfl
              have hA : digB ((Utf8.decode s pos).1 : Int) = true ∧ (decL s m (pos + (Utf8.decode s pos).2)).all digB = true := by have := HA.out; rw [decL, if_pos c0, List.all_cons, Bool.and_eq_true] at this; exact this
              have HDP : Aside0 (pos + 1 ≤ pos + (Utf8.decode s pos).2) := ⟨by have := dec_pos s pos c0; omega⟩
              have HI2 := Aside0.mk (iterAt_heap wr gi s pos (pos + (Utf8.decode s pos).2) HI.out)
              have HBB2 : Aside0 (Below w.heap.size w (wr.iterAt gi s (pos + (Utf8.decode s pos).2))) := ⟨iter_below HBB.out HGE.out s _⟩
              generalize wr.iterAt gi s (pos + (Utf8.decode s pos).2) = W3 at HI2 HBB2 hnx
              generalize pos + (Utf8.decode s pos).2 = pos' at hE HI2 HDP hA
              generalize ((Utf8.decode s pos).1 : Int) = c at hE hnx hA
              have hc : 48 ≤ c ∧ c ≤ 57 := dig_range hA.1
              have HC := Aside0.mk hc
              have hm := HM.out
              have e1 : wrap64 (10 * n) = 10 * n := by unfold wrap64; omega
              have e2 : wrap32 (c - 48) = c - 48 := by unfold wrap32; omega
              have e3 : wrap64 (c - 48) = c - 48 := by unfold wrap64; omega
              have e4 : wrap64 (10 * n + (c - 48)) = 10 * n + (c - 48) := by unfold wrap64; omega
              have HX := Aside0.mk hE
              have HA2 := Aside0.mk hA.2
              clear hE hA hc hm
              go_wp2_with fail
              all_goals
                go_roundg m
                case measure => omega
                case rel => exact ⟨pos', _, rfl, ⟨by rw [HX.out]; congr 1; omega⟩, ⟨by have := HM.out; have := HC.out; omega⟩, HA2, ⟨by have := HN.out; have := HDP.out; omega⟩, HI2, HBB2⟩
            · have hnx : ∀ ty, (Instr.next (.pointer (some ⟨gi, 0, none⟩)) true ty).run Tryd.prog wr = .ok (.tuple #[.bool false]) wr := fun ty => run_next_end_at wr gi s pos ty HI.out c0
              have HE2 : Aside0 (numV s = n) := ⟨by rw [← HE.out, decL, if_neg c0]; rfl⟩
              clear c0
              have hm := HM.out
              have e5 : wrap64 (-n) = -n := by unfold wrap64; omega
              clear hm
              go_wp2_with fail
              go_ret2
              exact ⟨by rw [HR.out, HE2.out, if_pos (beq_self_eq_true _)]; rfl, HBB.out⟩
  · have d3 : decide ((s.size : Int) < (x1.size : Int)) = false := decide_eq_false (by omega)
    have d4 : decide (s.size < x1.size) = false := decide_eq_false c
    have HK : Aside0 (intK x0 x1 true = intD (trimB s 45) s) := ⟨by rw [HK.out, if_neg c]⟩
    clear c hc1 hs0
    go_upto_region 7 with fail
    clear d3 d4 hc2
    generalize trimB s 45 = d at HK ⊢
    cases he : d.toList.isEmpty with
    | true =>
      have HR2 : Aside0 (intK x0 x1 true = (0, false)) := ⟨by rw [HK.out]; unfold intD; rw [if_pos (.inl he)]⟩
      go_wp2_with fail
      go_ret2
      exact ⟨by rw [HR2.out]; rfl, HB.out⟩
    | false =>
      cases hA : allD d with
      | false =>
        have HR2 : Aside0 (intK x0 x1 true = (0, false)) := ⟨by rw [HK.out]; unfold intD; rw [if_pos (.inr hA)]⟩
        have cc : ∀ W, Calls Tryd.prog 37 #[.string d, .func (.func 38) #[] #[]] W fun e w' => ∃ v : Int, e = .returned (.int .i64 v) ∧ decide (0 ≤ v) = true ∧ Below W.heap.size W w' := fun W => by have h_ := index_calls d W; rw [hA] at h_; exact h_
        clear hA
        go_wp2_with (first | (go_at_call 37; refine (cc _).mono ?_; rintro e W ⟨v, rfl, hv, hb⟩; have HB := Aside0.mk (HB.out.trans (below_less hb HB.out.size)); clear hb) | fail)
        go_ret2
        exact ⟨by rw [HR2.out]; rfl, HB.out⟩
      | true =>
        have HR : Aside0 (intK x0 x1 true = (if (d.toList == s.toList) = true then numV d else -numV d, true)) := ⟨by rw [HK.out]; exact intD_dig he hA⟩
        have cc : ∀ W, Calls Tryd.prog 37 #[.string d, .func (.func 38) #[] #[]] W fun e w' => ∃ v : Int, e = .returned (.int .i64 v) ∧ decide (0 ≤ v) = false ∧ Below W.heap.size W w' := fun W => by have h_ := index_calls d W; rw [hA] at h_; exact h_
        have HD : Aside0 ((decL d (d.size + 1) 0).all digB = true) := ⟨hA⟩
        clear hA
        go_upto_region 9 with (first | (go_at_call 37; refine (cc _).mono ?_; rintro e W ⟨v, rfl, hv, hb⟩; have HB := Aside0.mk (HB.out.trans (below_less hb HB.out.size)); clear hb) | fail)
        clear cc
        have HI : Aside0 ((W.iter d 0).heap[W.heap.size]? = some (.stringIter d 0)) := ⟨World.iter_heap W d 0⟩
        have HBB : Aside0 (Below w.heap.size w (W.iter d 0)) := ⟨HB.out.trans (below_less (below_alloc (Below.refl W.heap.size W) (.stringIter d 0)) HB.out.size)⟩
        have HGE : Aside0 (w.heap.size ≤ W.heap.size) := ⟨HB.out.size⟩
        go_wp2_with fail
        generalize W.iter d 0 = W2 at HI HBB ⊢
        generalize W.heap.size = gi at HI HGE ⊢
        go_loopg [6] (d.size + 1) (fun kq v6 w' => ∃ (pos : Nat) (n : Int), v6 = .int .i64 n ∧ Aside0 (numF n (decL d kq pos) = numV d) ∧ Aside0 (0 ≤ n ∧ n ≤ 1000000) ∧ Aside0 ((decL d kq pos).all digB = true) ∧ Aside0 (d.size + 1 ≤ pos + kq) ∧ Aside0 (w'.heap[gi]? = some (.stringIter d pos)) ∧ Aside0 (Below w.heap.size w w'))
        case atStart => exact ⟨0, 0, rfl, ⟨rfl⟩, ⟨by simp⟩, HD, ⟨by simp⟩, HI, HBB⟩
        case round =>
          clear HI HBB HD
          obtain ⟨pos, n, rfl, HE, HM, HA, HN, HI, HBB⟩ := hrel
          cases gk with
          | zero =>
            have c0 : ¬ pos < d.size := by have := HN.out; omega
            have hnx : ∀ ty, (Instr.next (.pointer (some ⟨gi, 0, none⟩)) true ty).run Tryd.prog wr = .ok (.tuple #[.bool false]) wr := fun ty => run_next_end_at wr gi d pos ty HI.out c0
            have HE2 : Aside0 (numV d = n) := ⟨by rw [← HE.out]; rfl⟩
            clear c0
            have hm := HM.out
            have e5 : wrap64 (-n) = -n := by unfold wrap64; omega
            clear hm
            cases hq : (d.toList == s.toList) with
            | true =>
              have HQ := Aside0.mk hq
              go_wp2_with fail
              go_ret2
              exact ⟨by rw [HR.out, if_pos HQ.out, HE2.out]; rfl, HBB.out⟩
            | false =>
              have HQ := Aside0.mk hq
              go_wp2_with fail
              go_ret2
              exact ⟨by rw [e5, HR.out, if_neg (by rw [HQ.out]; simp), HE2.out]; rfl, HBB.out⟩
          | succ m =>
            by_cases c0 : pos < d.size
            · have hnx : ∀ ty, (Instr.next (.pointer (some ⟨gi, 0, none⟩)) true ty).run Tryd.prog wr = .ok (.tuple #[.bool true, .int .i64 pos, .int .i32 (Utf8.decode d pos).1]) (wr.iterAt gi d (pos + (Utf8.decode d pos).2)) := fun ty => run_next_any_at wr gi d pos ty HI.out c0
              have hE : numV d = numF (min (10 * n + (((Utf8.decode d pos).1 : Int) - 48)) 1000000) (decL d m (pos + (Utf8.decode d pos).2)) := by rw [← HE.out, decL, if_pos c0]; rfl
              have hA : digB ((Utf8.decode d pos).1 : Int) = true ∧ (decL d m (pos + (Utf8.decode d pos).2)).all digB = true := by have := HA.out; rw [decL, if_pos c0, List.all_cons, Bool.and_eq_true] at this; exact this
              have HDP : Aside0 (pos + 1 ≤ pos + (Utf8.decode d pos).2) := ⟨by have := dec_pos d pos c0; omega⟩
              have HI2 := Aside0.mk (iterAt_heap wr gi d pos (pos + (Utf8.decode d pos).2) HI.out)
              have HBB2 : Aside0 (Below w.heap.size w (wr.iterAt gi d (pos + (Utf8.decode d pos).2))) := ⟨iter_below HBB.out HGE.out d _⟩
              generalize wr.iterAt gi d (pos + (Utf8.decode d pos).2) = W3 at HI2 HBB2 hnx
              generalize pos + (Utf8.decode d pos).2 = pos' at hE HI2 HDP hA
              generalize ((Utf8.decode d pos).1 : Int) = c at hE hnx hA
              have hc : 48 ≤ c ∧ c ≤ 57 := dig_range hA.1
              have HC := Aside0.mk hc
              have hm := HM.out
              have e1 : wrap64 (10 * n) = 10 * n := by unfold wrap64; omega
              have e2 : wrap32 (c - 48) = c - 48 := by unfold wrap32; omega
              have e3 : wrap64 (c - 48) = c - 48 := by unfold wrap64; omega
              have e4 : wrap64 (10 * n + (c - 48)) = 10 * n + (c - 48) := by unfold wrap64; omega
              have HX := Aside0.mk hE
              have HA2 := Aside0.mk hA.2
              clear hE hA hc hm
              go_wp2_with fail
              all_goals
                go_roundg m
                case measure => omega
                case rel => exact ⟨pos', _, rfl, ⟨by rw [HX.out]; congr 1; omega⟩, ⟨by have := HM.out; have := HC.out; omega⟩, HA2, ⟨by have := HN.out; have := HDP.out; omega⟩, HI2, HBB2⟩
            · have hnx : ∀ ty, (Instr.next (.pointer (some ⟨gi, 0, none⟩)) true ty).run Tryd.prog wr = .ok (.tuple #[.bool false]) wr := fun ty => run_next_end_at wr gi d pos ty HI.out c0
              have HE2 : Aside0 (numV d = n) := ⟨by rw [← HE.out, decL, if_neg c0]; rfl⟩
              clear c0
              have hm := HM.out
              have e5 : wrap64 (-n) = -n := by unfold wrap64; omega
              clear hm
              cases hq : (d.toList == s.toList) with
              | true =>
                have HQ := Aside0.mk hq
                go_wp2_with fail
                go_ret2
                exact ⟨by rw [HR.out, if_pos HQ.out, HE2.out]; rfl, HBB.out⟩
              | false =>
                have HQ := Aside0.mk hq
                go_wp2_with fail
                go_ret2
                exact ⟨by rw [e5, HR.out, if_neg (by rw [HQ.out]; simp), HE2.out]; rfl, HBB.out⟩
end Go.Proofs.YtpnlbmeeihbjaabDoor.P
end
section
set_option linter.unusedVariables false
set_option linter.unusedSimpArgs false
namespace Go.Proofs.YtpnlbmeeihbjaabDoor.P
open Go.RowKit Go.Proofs.YtpnlbmeeihbjaabDoorW.PrintWords Go.Proofs.YtpnlbmeeihbjaabDoorW.PrintLast Go.Proofs.YtpnlbmeeihbjaabDoorW.PrintMore
open Go.Lib
attribute [local go_sem] max2_int min2_int max_two min_two max_three min_three max_four min_four
set_option linter.unusedVariables false
set_option linter.unusedSimpArgs false
def gouachelaw02_cut.f (a0 : ByteArray) : Option (List (S26)) := if a0.size < 1099511627776 then some (cutS a0) else none
theorem gouachelaw02_cut.calls (a0 : ByteArray) (r : List S26) (w : World) (h : gouachelaw02_cut.f a0 = some r) :
    Calls Tryd.prog 10 #[.string a0] w fun e w' => ∃ v, e = .returned v ∧ Kd.R k26 26 w' w.heap.size (fun _ => True) v r ∧ Below w.heap.size w w' := by
  unfold gouachelaw02_cut.f at h
  by_cases hs : a0.size < 1099511627776
  · rw [if_pos hs] at h
    obtain rfl := Option.some.inj h
    exact cut_calls a0 w hs
  · rw [if_neg hs] at h
    cases h
end Go.Proofs.YtpnlbmeeihbjaabDoor.P
end
section
set_option linter.unusedVariables false
set_option linter.unusedSimpArgs false
namespace Go.Proofs.YtpnlbmeeihbjaabDoor.P
open Go.RowKit Go.Proofs.YtpnlbmeeihbjaabDoorW.PrintWords Go.Proofs.YtpnlbmeeihbjaabDoorW.PrintLast Go.Proofs.YtpnlbmeeihbjaabDoorW.PrintMore
open Go.Lib
attribute [local go_sem] max2_int min2_int max_two min_two max_three min_three max_four min_four
set_option linter.unusedVariables false
set_option linter.unusedSimpArgs false
def token_Escape.f (a0 : ByteArray) : Option ByteArray := if a0.size ≤ 1099511627776 then some ⟨(escS a0).toArray⟩ else none
theorem token_Escape.calls (a0 : ByteArray) (r : ByteArray) (w : World) (h : token_Escape.f a0 = some r) (hT : WT w) :
    Calls Tryd.prog 14 #[.string a0] w fun e w' => e = .returned (.string r) ∧ Below w.heap.size w w' := by
  unfold token_Escape.f at h
  by_cases hs : a0.size ≤ 1099511627776
  · rw [if_pos hs] at h
    obtain rfl := Option.some.inj h
    exact escape_w a0 w hT hs
  · rw [if_neg hs] at h
    cases h
end Go.Proofs.YtpnlbmeeihbjaabDoor.P
end
section
set_option linter.unusedVariables false
set_option linter.unusedSimpArgs false
namespace Go.Proofs.YtpnlbmeeihbjaabDoor.P
open Go.RowKit Go.Proofs.YtpnlbmeeihbjaabDoorW.PrintWords Go.Proofs.YtpnlbmeeihbjaabDoorW.PrintLast Go.Proofs.YtpnlbmeeihbjaabDoorW.PrintMore
attribute [local go_sem] max2_int min2_int max_two min_two max_three min_three max_four min_four
set_option linter.unusedVariables false
set_option linter.unusedSimpArgs false
def gouachelaw02_lives.f  : Option (Bool) := (gouachelaw02_cut.f (⟨#[97, 123, 98, 58, 49, 46, 53, 101, 109, 125]⟩ : ByteArray)).bind fun t101 => ((gouachelaw02_cut.f (⟨#[34, 97, 10]⟩ : ByteArray)).bind fun t104 => (if (t101.length : Int) = 6 then (if 0 < (t101.length : Int) then (if ((rd_T26 t101 0).f0) = 1 then (if 4 < (t101.length : Int) then (if ((rd_T26 t101 4).f0) = 12 then (if ((rd_T26 t101 4).f1).toList = ([49, 46, 53] : List UInt8) then (if ((rd_T26 t101 4).f2).toList = ([101, 109] : List UInt8) then (if ((rd_T26 t101 4).f3 = true) then (some false) else (if (t104.length : Int) = 2 then (if 0 < (t104.length : Int) then (if ((rd_T26 t104 0).f0) = 6 then (if 1 < (t104.length : Int) then (if ((rd_T26 t104 1).f0) = 13 then ((token_Escape.f (⟨#[49]⟩ : ByteArray)).bind fun t114 => (some (t114.toList == ([92, 51, 49, 32] : List UInt8)))) else (some false)) else (none)) else (some false)) else (none)) else (some false))) else (some false)) else (some false)) else (some false)) else (none)) else (some false)) else (none)) else (some false)))
set_option maxHeartbeats 8000000 in
set_option maxRecDepth 100000 in
theorem gouachelaw02_lives.calls  (r : Bool) (w : World) (h : gouachelaw02_lives.f  = some r) (hT : WT w) :
    Calls Tryd.prog 9 #[] w fun e w' => e = .returned (.bool r) ∧ Below w.heap.size w w' := by
  have HT := Aside0.mk hT
  clear hT
  have HB := Aside0.mk (Below.refl w.heap.size w)
  have H : ((gouachelaw02_cut.f (⟨#[97, 123, 98, 58, 49, 46, 53, 101, 109, 125]⟩ : ByteArray)).bind fun t101 => ((gouachelaw02_cut.f (⟨#[34, 97, 10]⟩ : ByteArray)).bind fun t104 => (if (t101.length : Int) = 6 then (if 0 < (t101.length : Int) then (if ((rd_T26 t101 0).f0) = 1 then (if 4 < (t101.length : Int) then (if ((rd_T26 t101 4).f0) = 12 then (if ((rd_T26 t101 4).f1).toList = ([49, 46, 53] : List UInt8) then (if ((rd_T26 t101 4).f2).toList = ([101, 109] : List UInt8) then (if ((rd_T26 t101 4).f3 = true) then (some false) else (if (t104.length : Int) = 2 then (if 0 < (t104.length : Int) then (if ((rd_T26 t104 0).f0) = 6 then (if 1 < (t104.length : Int) then (if ((rd_T26 t104 1).f0) = 13 then ((token_Escape.f (⟨#[49]⟩ : ByteArray)).bind fun t114 => (some (t114.toList == ([92, 51, 49, 32] : List UInt8)))) else (some false)) else (none)) else (some false)) else (none)) else (some false))) else (some false)) else (some false)) else (some false)) else (none)) else (some false)) else (none)) else (some false)))) = some r := h
  clear h
  replace H := Option.bind_eq_some_iff.mp H
  obtain ⟨t101, A10, H⟩ := H
  replace H : ((gouachelaw02_cut.f (⟨#[34, 97, 10]⟩ : ByteArray)).bind fun t104 => (if (t101.length : Int) = 6 then (if 0 < (t101.length : Int) then (if ((rd_T26 t101 0).f0) = 1 then (if 4 < (t101.length : Int) then (if ((rd_T26 t101 4).f0) = 12 then (if ((rd_T26 t101 4).f1).toList = ([49, 46, 53] : List UInt8) then (if ((rd_T26 t101 4).f2).toList = ([101, 109] : List UInt8) then (if ((rd_T26 t101 4).f3 = true) then (some false) else (if (t104.length : Int) = 2 then (if 0 < (t104.length : Int) then (if ((rd_T26 t104 0).f0) = 6 then (if 1 < (t104.length : Int) then (if ((rd_T26 t104 1).f0) = 13 then ((token_Escape.f (⟨#[49]⟩ : ByteArray)).bind fun t114 => (some (t114.toList == ([92, 51, 49, 32] : List UInt8)))) else (some false)) else (none)) else (some false)) else (none)) else (some false))) else (some false)) else (some false)) else (some false)) else (none)) else (some false)) else (none)) else (some false))) = some r := H
  have A1 := Aside0.mk A10
  clear A10
  replace H := Option.bind_eq_some_iff.mp H
  obtain ⟨t104, A20, H⟩ := H
  replace H : (if (t101.length : Int) = 6 then (if 0 < (t101.length : Int) then (if ((rd_T26 t101 0).f0) = 1 then (if 4 < (t101.length : Int) then (if ((rd_T26 t101 4).f0) = 12 then (if ((rd_T26 t101 4).f1).toList = ([49, 46, 53] : List UInt8) then (if ((rd_T26 t101 4).f2).toList = ([101, 109] : List UInt8) then (if ((rd_T26 t101 4).f3 = true) then (some false) else (if (t104.length : Int) = 2 then (if 0 < (t104.length : Int) then (if ((rd_T26 t104 0).f0) = 6 then (if 1 < (t104.length : Int) then (if ((rd_T26 t104 1).f0) = 13 then ((token_Escape.f (⟨#[49]⟩ : ByteArray)).bind fun t114 => (some (t114.toList == ([92, 51, 49, 32] : List UInt8)))) else (some false)) else (none)) else (some false)) else (none)) else (some false))) else (some false)) else (some false)) else (some false)) else (none)) else (some false)) else (none)) else (some false)) = some r := H
  have A2 := Aside0.mk A20
  clear A20
  by_cases c3 : (t101.length : Int) = 6
  · rw [if_pos c3] at H
    have c3b0 : ((t101.length : Int) == 6) = true := beq_iff_eq.mpr c3
    have c3b1 : ((t101.length : Int) != 6) = false := bne_eq_false_iff_eq.mpr c3
    clear c3
    by_cases c4 : 0 < (t101.length : Int)
    · rw [if_pos c4] at H
      have c4b0 : decide (0 < (t101.length : Int)) = true := decide_eq_true c4
      have c4b1 : decide (0 < t101.length) = true := decide_eq_true (by omega)
      clear c4
      by_cases c5 : ((rd_T26 t101 0).f0) = 1
      · rw [if_pos c5] at H
        have c5b0 : (((rd_T26 t101 0).f0) == 1) = true := beq_iff_eq.mpr c5
        have c5b1 : (((rd_T26 t101 0).f0) != 1) = false := bne_eq_false_iff_eq.mpr c5
        clear c5
        by_cases c6 : 4 < (t101.length : Int)
        · rw [if_pos c6] at H
          have c6b0 : decide (4 < (t101.length : Int)) = true := decide_eq_true c6
          have c6b1 : decide (4 < t101.length) = true := decide_eq_true (by omega)
          clear c6
          by_cases c7 : ((rd_T26 t101 4).f0) = 12
          · rw [if_pos c7] at H
            have c7b0 : (((rd_T26 t101 4).f0) == 12) = true := beq_iff_eq.mpr c7
            have c7b1 : (((rd_T26 t101 4).f0) != 12) = false := bne_eq_false_iff_eq.mpr c7
            clear c7
            by_cases c8 : ((rd_T26 t101 4).f1).toList = ([49, 46, 53] : List UInt8)
            · rw [if_pos c8] at H
              have c8b0 : (((rd_T26 t101 4).f1).toList == ([49, 46, 53] : List UInt8)) = true := beq_iff_eq.mpr c8
              have c8b1 : (((rd_T26 t101 4).f1).toList != ([49, 46, 53] : List UInt8)) = false := bne_eq_false_iff_eq.mpr c8
              clear c8
              by_cases c9 : ((rd_T26 t101 4).f2).toList = ([101, 109] : List UInt8)
              · rw [if_pos c9] at H
                have c9b0 : (((rd_T26 t101 4).f2).toList == ([101, 109] : List UInt8)) = true := beq_iff_eq.mpr c9
                have c9b1 : (((rd_T26 t101 4).f2).toList != ([101, 109] : List UInt8)) = false := bne_eq_false_iff_eq.mpr c9
                clear c9
                obtain ⟨bq10, hbq10⟩ : ∃ b_ : Bool, b_ = ((rd_T26 t101 4).f3) := ⟨_, rfl⟩
                replace H : (if (bq10 = true) then (some false) else (if (t104.length : Int) = 2 then (if 0 < (t104.length : Int) then (if ((rd_T26 t104 0).f0) = 6 then (if 1 < (t104.length : Int) then (if ((rd_T26 t104 1).f0) = 13 then ((token_Escape.f (⟨#[49]⟩ : ByteArray)).bind fun t114 => (some (t114.toList == ([92, 51, 49, 32] : List UInt8)))) else (some false)) else (none)) else (some false)) else (none)) else (some false))) = some r := by rw [← hbq10] at H; exact H
                have Nbq10 := Aside0.mk hbq10
                clear hbq10
                by_cases c11 : (bq10 = true)
                · subst c11
                  have H1 : (some false) = some r := by rw [if_pos rfl] at H; exact H
                  clear H
                  have H := H1
                  clear H1
                  obtain rfl := Option.some.inj H
                  go_enter Tryd.func9, Tryd.ntmps9
                  go_wp2_with (first | ((with_reducible refine gate_callee (f := 10) rfl ?_); refine goesL_ (some 3) rfl rfl Tryd.func10 (by kernel_rfl) rfl #[.string (⟨#[97, 123, 98, 58, 49, 46, 53, 101, 109, 125]⟩ : ByteArray)] rfl (by (try simp only [List.map_toArray, List.map_cons, List.map_nil]); first | done | rfl | (simp only [List.length_drop, List.length_take]; rfl)) ?_; (with_reducible refine (gouachelaw02_cut.calls (⟨#[97, 123, 98, 58, 49, 46, 53, 101, 109, 125]⟩ : ByteArray) t101 _ A1.out).mono ?_); rintro e w12 ⟨v102, rfl, ho0, hb⟩; refine ⟨_, rfl, ?_⟩; have n0_ := Aside0.mk (Kd.R_lower ho0 (below_size (by repeat (first | (with_reducible first | exact HB.out | apply below_alloc | apply pw_below_drewN | apply below_drew1) | exact HB.out)))); have n1_ := Aside0.mk (below_step (by repeat (first | (with_reducible first | exact HB.out | apply below_alloc | apply pw_below_drewN | apply below_drew1) | exact HB.out)) hb); clear HB; have HO103 := n0_; have HB := n1_; clear n0_ n1_; (try clear hb); (try clear hb2); (try clear hk); (try clear hi); (try clear ho0)) | ((with_reducible refine gate_callee (f := 10) rfl ?_); refine goesL_ (some 4) rfl rfl Tryd.func10 (by kernel_rfl) rfl #[.string (⟨#[34, 97, 10]⟩ : ByteArray)] rfl (by (try simp only [List.map_toArray, List.map_cons, List.map_nil]); first | done | rfl | (simp only [List.length_drop, List.length_take]; rfl)) ?_; (with_reducible refine (gouachelaw02_cut.calls (⟨#[34, 97, 10]⟩ : ByteArray) t104 _ A2.out).mono ?_); rintro e w13 ⟨v105, rfl, ho0, hb⟩; refine ⟨_, rfl, ?_⟩; have n0_ := Aside0.mk (Kd.R_elder' (by (with_reducible repeat (first | apply Kd.R_alloc | apply Kd.R_drewN | apply Kd.R_drew)); exact HO103.out) (Kd.R_base ho0) hb); have n1_ := Aside0.mk (Kd.R_lower (Kd.R_new' ho0 (Kd.R_lt (by (with_reducible repeat (first | apply Kd.R_alloc | apply Kd.R_drewN | apply Kd.R_drew)); exact HO103.out))) (below_size (by repeat (first | (with_reducible first | exact HB.out | apply below_alloc | apply pw_below_drewN | apply below_drew1) | exact HB.out)))); have n2_ := Aside0.mk (below_step (by repeat (first | (with_reducible first | exact HB.out | apply below_alloc | apply pw_below_drewN | apply below_drew1) | exact HB.out)) hb); clear HO103; clear HB; have HO103 := n0_; have HO106 := n1_; have HB := n2_; clear n0_ n1_ n2_; (try clear hb); (try clear hb2); (try clear hk); (try clear hi); (try clear ho0); obtain ⟨Ao14, co14, eo14⟩ := Kd.R_slice HO103.out; subst eo14; have p107 : 0 ≤ (0 : Int) := (by omega); have q107 : 0 < (t101.length : Int) := of_decide_eq_true (by first | (with_reducible assumption) | assumption); obtain ⟨ad107, e107, hx107_0, hx107_1, hx107_2, hx107_3, hx107_4⟩ := at_T26 (Kd.R_reads' HO103.out).2.2 0 p107 q107; (try rw [← Nbq10.out] at hx107_3); (try rw [← Nbq10.out] at hx107_4); cases e107; have qi107 : (0 < t101.length) = True := eq_true (by omega); (try rw [show ((0 : Int)).toNat = 0 from rfl] at hx107_0); (try rw [show 0 * 5 = 0 from rfl] at hx107_0); (try rw [Addr.add_zero'] at hx107_0); (try rw [show ((0 : Int)).toNat = 0 from rfl] at hx107_1); (try rw [show 0 * 5 = 0 from rfl] at hx107_1); (try rw [Addr.add_zero'] at hx107_1); (try rw [show ((0 : Int)).toNat = 0 from rfl] at hx107_2); (try rw [show 0 * 5 = 0 from rfl] at hx107_2); (try rw [Addr.add_zero'] at hx107_2); (try rw [show ((0 : Int)).toNat = 0 from rfl] at hx107_3); (try rw [show 0 * 5 = 0 from rfl] at hx107_3); (try rw [Addr.add_zero'] at hx107_3); (try rw [show ((0 : Int)).toNat = 0 from rfl] at hx107_4); (try rw [show 0 * 5 = 0 from rfl] at hx107_4); (try rw [Addr.add_zero'] at hx107_4); replace p107 := eq_true p107; replace q107 := eq_true q107; have p108 : 0 ≤ (4 : Int) := (by omega); have q108 : 4 < (t101.length : Int) := of_decide_eq_true (by first | (with_reducible assumption) | assumption); obtain ⟨ad108, e108, hx108_0, hx108_1, hx108_2, hx108_3, hx108_4⟩ := at_T26 (Kd.R_reads' HO103.out).2.2 4 p108 q108; (try rw [← Nbq10.out] at hx108_3); (try rw [← Nbq10.out] at hx108_4); obtain rfl : ad107 = ad108 := (by injection e108); (try simp only [show (4 : Int).toNat = 4 from rfl, Nat.reduceMul, Nat.reduceEqDiff, Go.Addr.add, ↓reduceIte] at hx108_0); (try simp only [show (4 : Int).toNat = 4 from rfl, Nat.reduceMul, Nat.reduceEqDiff, Go.Addr.add, ↓reduceIte] at hx108_1); (try simp only [show (4 : Int).toNat = 4 from rfl, Nat.reduceMul, Nat.reduceEqDiff, Go.Addr.add, ↓reduceIte] at hx108_2); (try simp only [show (4 : Int).toNat = 4 from rfl, Nat.reduceMul, Nat.reduceEqDiff, Go.Addr.add, ↓reduceIte] at hx108_3); (try simp only [show (4 : Int).toNat = 4 from rfl, Nat.reduceMul, Nat.reduceEqDiff, Go.Addr.add, ↓reduceIte] at hx108_4); have qi108 : (4 < t101.length) = True := eq_true (by omega); (try rw [show ((4 : Int)).toNat = 4 from rfl] at hx108_0); (try rw [show 4 * 5 = 20 from rfl] at hx108_0); (try rw [show ((4 : Int)).toNat = 4 from rfl] at hx108_1); (try rw [show 4 * 5 = 20 from rfl] at hx108_1); (try rw [show ((4 : Int)).toNat = 4 from rfl] at hx108_2); (try rw [show 4 * 5 = 20 from rfl] at hx108_2); (try rw [show ((4 : Int)).toNat = 4 from rfl] at hx108_3); (try rw [show 4 * 5 = 20 from rfl] at hx108_3); (try rw [show ((4 : Int)).toNat = 4 from rfl] at hx108_4); (try rw [show 4 * 5 = 20 from rfl] at hx108_4); replace p108 := eq_true p108; replace q108 := eq_true q108; have p109 : 0 ≤ (4 : Int) := (by omega); have q109 : 4 < (t101.length : Int) := of_decide_eq_true (by first | (with_reducible assumption) | assumption); obtain ⟨ad109, e109, hx109_0, hx109_1, hx109_2, hx109_3, hx109_4⟩ := at_T26 (Kd.R_reads' HO103.out).2.2 4 p109 q109; (try rw [← Nbq10.out] at hx109_3); (try rw [← Nbq10.out] at hx109_4); obtain rfl : ad107 = ad109 := (by injection e109); (try simp only [show (4 : Int).toNat = 4 from rfl, Nat.reduceMul, Nat.reduceEqDiff, Go.Addr.add, ↓reduceIte] at hx109_0); (try simp only [show (4 : Int).toNat = 4 from rfl, Nat.reduceMul, Nat.reduceEqDiff, Go.Addr.add, ↓reduceIte] at hx109_1); (try simp only [show (4 : Int).toNat = 4 from rfl, Nat.reduceMul, Nat.reduceEqDiff, Go.Addr.add, ↓reduceIte] at hx109_2); (try simp only [show (4 : Int).toNat = 4 from rfl, Nat.reduceMul, Nat.reduceEqDiff, Go.Addr.add, ↓reduceIte] at hx109_3); (try simp only [show (4 : Int).toNat = 4 from rfl, Nat.reduceMul, Nat.reduceEqDiff, Go.Addr.add, ↓reduceIte] at hx109_4); have qi109 : (4 < t101.length) = True := eq_true (by omega); (try rw [show ((4 : Int)).toNat = 4 from rfl] at hx109_0); (try rw [show 4 * 5 = 20 from rfl] at hx109_0); (try rw [show ((4 : Int)).toNat = 4 from rfl] at hx109_1); (try rw [show 4 * 5 = 20 from rfl] at hx109_1); (try rw [show ((4 : Int)).toNat = 4 from rfl] at hx109_2); (try rw [show 4 * 5 = 20 from rfl] at hx109_2); (try rw [show ((4 : Int)).toNat = 4 from rfl] at hx109_3); (try rw [show 4 * 5 = 20 from rfl] at hx109_3); (try rw [show ((4 : Int)).toNat = 4 from rfl] at hx109_4); (try rw [show 4 * 5 = 20 from rfl] at hx109_4); replace p109 := eq_true p109; replace q109 := eq_true q109; have p110 : 0 ≤ (4 : Int) := (by omega); have q110 : 4 < (t101.length : Int) := of_decide_eq_true (by first | (with_reducible assumption) | assumption); obtain ⟨ad110, e110, hx110_0, hx110_1, hx110_2, hx110_3, hx110_4⟩ := at_T26 (Kd.R_reads' HO103.out).2.2 4 p110 q110; (try rw [← Nbq10.out] at hx110_3); (try rw [← Nbq10.out] at hx110_4); obtain rfl : ad107 = ad110 := (by injection e110); (try simp only [show (4 : Int).toNat = 4 from rfl, Nat.reduceMul, Nat.reduceEqDiff, Go.Addr.add, ↓reduceIte] at hx110_0); (try simp only [show (4 : Int).toNat = 4 from rfl, Nat.reduceMul, Nat.reduceEqDiff, Go.Addr.add, ↓reduceIte] at hx110_1); (try simp only [show (4 : Int).toNat = 4 from rfl, Nat.reduceMul, Nat.reduceEqDiff, Go.Addr.add, ↓reduceIte] at hx110_2); (try simp only [show (4 : Int).toNat = 4 from rfl, Nat.reduceMul, Nat.reduceEqDiff, Go.Addr.add, ↓reduceIte] at hx110_3); (try simp only [show (4 : Int).toNat = 4 from rfl, Nat.reduceMul, Nat.reduceEqDiff, Go.Addr.add, ↓reduceIte] at hx110_4); have qi110 : (4 < t101.length) = True := eq_true (by omega); (try rw [show ((4 : Int)).toNat = 4 from rfl] at hx110_0); (try rw [show 4 * 5 = 20 from rfl] at hx110_0); (try rw [show ((4 : Int)).toNat = 4 from rfl] at hx110_1); (try rw [show 4 * 5 = 20 from rfl] at hx110_1); (try rw [show ((4 : Int)).toNat = 4 from rfl] at hx110_2); (try rw [show 4 * 5 = 20 from rfl] at hx110_2); (try rw [show ((4 : Int)).toNat = 4 from rfl] at hx110_3); (try rw [show 4 * 5 = 20 from rfl] at hx110_3); (try rw [show ((4 : Int)).toNat = 4 from rfl] at hx110_4); (try rw [show 4 * 5 = 20 from rfl] at hx110_4); replace p110 := eq_true p110; replace q110 := eq_true q110; have p111 : 0 ≤ (4 : Int) := (by omega); have q111 : 4 < (t101.length : Int) := of_decide_eq_true (by first | (with_reducible assumption) | assumption); obtain ⟨ad111, e111, hx111_0, hx111_1, hx111_2, hx111_3, hx111_4⟩ := at_T26 (Kd.R_reads' HO103.out).2.2 4 p111 q111; (try rw [← Nbq10.out] at hx111_3); (try rw [← Nbq10.out] at hx111_4); obtain rfl : ad107 = ad111 := (by injection e111); (try simp only [show (4 : Int).toNat = 4 from rfl, Nat.reduceMul, Nat.reduceEqDiff, Go.Addr.add, ↓reduceIte] at hx111_0); (try simp only [show (4 : Int).toNat = 4 from rfl, Nat.reduceMul, Nat.reduceEqDiff, Go.Addr.add, ↓reduceIte] at hx111_1); (try simp only [show (4 : Int).toNat = 4 from rfl, Nat.reduceMul, Nat.reduceEqDiff, Go.Addr.add, ↓reduceIte] at hx111_2); (try simp only [show (4 : Int).toNat = 4 from rfl, Nat.reduceMul, Nat.reduceEqDiff, Go.Addr.add, ↓reduceIte] at hx111_3); (try simp only [show (4 : Int).toNat = 4 from rfl, Nat.reduceMul, Nat.reduceEqDiff, Go.Addr.add, ↓reduceIte] at hx111_4); have qi111 : (4 < t101.length) = True := eq_true (by omega); (try rw [show ((4 : Int)).toNat = 4 from rfl] at hx111_0); (try rw [show 4 * 5 = 20 from rfl] at hx111_0); (try rw [show ((4 : Int)).toNat = 4 from rfl] at hx111_1); (try rw [show 4 * 5 = 20 from rfl] at hx111_1); (try rw [show ((4 : Int)).toNat = 4 from rfl] at hx111_2); (try rw [show 4 * 5 = 20 from rfl] at hx111_2); (try rw [show ((4 : Int)).toNat = 4 from rfl] at hx111_3); (try rw [show 4 * 5 = 20 from rfl] at hx111_3); (try rw [show ((4 : Int)).toNat = 4 from rfl] at hx111_4); (try rw [show 4 * 5 = 20 from rfl] at hx111_4); replace p111 := eq_true p111; replace q111 := eq_true q111))
                  go_ret
                  exact ⟨by first | rfl | (simp [errW_none, errW_some] <;> rfl) | (simp [*, errW_none, errW_some] <;> rfl), by repeat (first | (with_reducible first | exact HB.out | apply below_alloc | apply pw_below_drewN | apply below_drew1) | exact HB.out)⟩
                · replace c11 := Bool.eq_false_iff.mpr c11
                  subst c11
                  have H1 : (if (t104.length : Int) = 2 then (if 0 < (t104.length : Int) then (if ((rd_T26 t104 0).f0) = 6 then (if 1 < (t104.length : Int) then (if ((rd_T26 t104 1).f0) = 13 then ((token_Escape.f (⟨#[49]⟩ : ByteArray)).bind fun t114 => (some (t114.toList == ([92, 51, 49, 32] : List UInt8)))) else (some false)) else (none)) else (some false)) else (none)) else (some false)) = some r := by rw [if_neg (show ¬ (false = true) by decide)] at H; exact H
                  clear H
                  have H := H1
                  clear H1
                  by_cases c15 : (t104.length : Int) = 2
                  · rw [if_pos c15] at H
                    have c15b0 : ((t104.length : Int) == 2) = true := beq_iff_eq.mpr c15
                    have c15b1 : ((t104.length : Int) != 2) = false := bne_eq_false_iff_eq.mpr c15
                    clear c15
                    by_cases c16 : 0 < (t104.length : Int)
                    · rw [if_pos c16] at H
                      have c16b0 : decide (0 < (t104.length : Int)) = true := decide_eq_true c16
                      have c16b1 : decide (0 < t104.length) = true := decide_eq_true (by omega)
                      clear c16
                      by_cases c17 : ((rd_T26 t104 0).f0) = 6
                      · rw [if_pos c17] at H
                        have c17b0 : (((rd_T26 t104 0).f0) == 6) = true := beq_iff_eq.mpr c17
                        have c17b1 : (((rd_T26 t104 0).f0) != 6) = false := bne_eq_false_iff_eq.mpr c17
                        clear c17
                        by_cases c18 : 1 < (t104.length : Int)
                        · rw [if_pos c18] at H
                          have c18b0 : decide (1 < (t104.length : Int)) = true := decide_eq_true c18
                          have c18b1 : decide (1 < t104.length) = true := decide_eq_true (by omega)
                          clear c18
                          by_cases c19 : ((rd_T26 t104 1).f0) = 13
                          · rw [if_pos c19] at H
                            have c19b0 : (((rd_T26 t104 1).f0) == 13) = true := beq_iff_eq.mpr c19
                            have c19b1 : (((rd_T26 t104 1).f0) != 13) = false := bne_eq_false_iff_eq.mpr c19
                            clear c19
                            replace H := Option.bind_eq_some_iff.mp H
                            obtain ⟨t114, A200, H⟩ := H
                            replace H : (some (t114.toList == ([92, 51, 49, 32] : List UInt8))) = some r := H
                            have A20 := Aside0.mk A200
                            clear A200
                            obtain rfl := Option.some.inj H
                            go_enter Tryd.func9, Tryd.ntmps9
                            go_wp2_with (first | ((with_reducible refine gate_callee (f := 10) rfl ?_); refine goesL_ (some 3) rfl rfl Tryd.func10 (by kernel_rfl) rfl #[.string (⟨#[97, 123, 98, 58, 49, 46, 53, 101, 109, 125]⟩ : ByteArray)] rfl (by (try simp only [List.map_toArray, List.map_cons, List.map_nil]); first | done | rfl | (simp only [List.length_drop, List.length_take]; rfl)) ?_; (with_reducible refine (gouachelaw02_cut.calls (⟨#[97, 123, 98, 58, 49, 46, 53, 101, 109, 125]⟩ : ByteArray) t101 _ A1.out).mono ?_); rintro e w21 ⟨v102, rfl, ho0, hb⟩; refine ⟨_, rfl, ?_⟩; have n0_ := Aside0.mk (Kd.R_lower ho0 (below_size (by repeat (first | (with_reducible first | exact HB.out | apply below_alloc | apply pw_below_drewN | apply below_drew1) | exact HB.out)))); have n1_ := Aside0.mk (below_step (by repeat (first | (with_reducible first | exact HB.out | apply below_alloc | apply pw_below_drewN | apply below_drew1) | exact HB.out)) hb); clear HB; have HO103 := n0_; have HB := n1_; clear n0_ n1_; (try clear hb); (try clear hb2); (try clear hk); (try clear hi); (try clear ho0)) | ((with_reducible refine gate_callee (f := 10) rfl ?_); refine goesL_ (some 4) rfl rfl Tryd.func10 (by kernel_rfl) rfl #[.string (⟨#[34, 97, 10]⟩ : ByteArray)] rfl (by (try simp only [List.map_toArray, List.map_cons, List.map_nil]); first | done | rfl | (simp only [List.length_drop, List.length_take]; rfl)) ?_; (with_reducible refine (gouachelaw02_cut.calls (⟨#[34, 97, 10]⟩ : ByteArray) t104 _ A2.out).mono ?_); rintro e w22 ⟨v105, rfl, ho0, hb⟩; refine ⟨_, rfl, ?_⟩; have n0_ := Aside0.mk (Kd.R_elder' (by (with_reducible repeat (first | apply Kd.R_alloc | apply Kd.R_drewN | apply Kd.R_drew)); exact HO103.out) (Kd.R_base ho0) hb); have n1_ := Aside0.mk (Kd.R_lower (Kd.R_new' ho0 (Kd.R_lt (by (with_reducible repeat (first | apply Kd.R_alloc | apply Kd.R_drewN | apply Kd.R_drew)); exact HO103.out))) (below_size (by repeat (first | (with_reducible first | exact HB.out | apply below_alloc | apply pw_below_drewN | apply below_drew1) | exact HB.out)))); have n2_ := Aside0.mk (below_step (by repeat (first | (with_reducible first | exact HB.out | apply below_alloc | apply pw_below_drewN | apply below_drew1) | exact HB.out)) hb); clear HO103; clear HB; have HO103 := n0_; have HO106 := n1_; have HB := n2_; clear n0_ n1_ n2_; (try clear hb); (try clear hb2); (try clear hk); (try clear hi); (try clear ho0); obtain ⟨Ao23, co23, eo23⟩ := Kd.R_slice HO103.out; subst eo23; have p107 : 0 ≤ (0 : Int) := (by omega); have q107 : 0 < (t101.length : Int) := of_decide_eq_true (by first | (with_reducible assumption) | assumption); obtain ⟨ad107, e107, hx107_0, hx107_1, hx107_2, hx107_3, hx107_4⟩ := at_T26 (Kd.R_reads' HO103.out).2.2 0 p107 q107; (try rw [← Nbq10.out] at hx107_3); (try rw [← Nbq10.out] at hx107_4); cases e107; have qi107 : (0 < t101.length) = True := eq_true (by omega); (try rw [show ((0 : Int)).toNat = 0 from rfl] at hx107_0); (try rw [show 0 * 5 = 0 from rfl] at hx107_0); (try rw [Addr.add_zero'] at hx107_0); (try rw [show ((0 : Int)).toNat = 0 from rfl] at hx107_1); (try rw [show 0 * 5 = 0 from rfl] at hx107_1); (try rw [Addr.add_zero'] at hx107_1); (try rw [show ((0 : Int)).toNat = 0 from rfl] at hx107_2); (try rw [show 0 * 5 = 0 from rfl] at hx107_2); (try rw [Addr.add_zero'] at hx107_2); (try rw [show ((0 : Int)).toNat = 0 from rfl] at hx107_3); (try rw [show 0 * 5 = 0 from rfl] at hx107_3); (try rw [Addr.add_zero'] at hx107_3); (try rw [show ((0 : Int)).toNat = 0 from rfl] at hx107_4); (try rw [show 0 * 5 = 0 from rfl] at hx107_4); (try rw [Addr.add_zero'] at hx107_4); replace p107 := eq_true p107; replace q107 := eq_true q107; have p108 : 0 ≤ (4 : Int) := (by omega); have q108 : 4 < (t101.length : Int) := of_decide_eq_true (by first | (with_reducible assumption) | assumption); obtain ⟨ad108, e108, hx108_0, hx108_1, hx108_2, hx108_3, hx108_4⟩ := at_T26 (Kd.R_reads' HO103.out).2.2 4 p108 q108; (try rw [← Nbq10.out] at hx108_3); (try rw [← Nbq10.out] at hx108_4); obtain rfl : ad107 = ad108 := (by injection e108); (try simp only [show (4 : Int).toNat = 4 from rfl, Nat.reduceMul, Nat.reduceEqDiff, Go.Addr.add, ↓reduceIte] at hx108_0); (try simp only [show (4 : Int).toNat = 4 from rfl, Nat.reduceMul, Nat.reduceEqDiff, Go.Addr.add, ↓reduceIte] at hx108_1); (try simp only [show (4 : Int).toNat = 4 from rfl, Nat.reduceMul, Nat.reduceEqDiff, Go.Addr.add, ↓reduceIte] at hx108_2); (try simp only [show (4 : Int).toNat = 4 from rfl, Nat.reduceMul, Nat.reduceEqDiff, Go.Addr.add, ↓reduceIte] at hx108_3); (try simp only [show (4 : Int).toNat = 4 from rfl, Nat.reduceMul, Nat.reduceEqDiff, Go.Addr.add, ↓reduceIte] at hx108_4); have qi108 : (4 < t101.length) = True := eq_true (by omega); (try rw [show ((4 : Int)).toNat = 4 from rfl] at hx108_0); (try rw [show 4 * 5 = 20 from rfl] at hx108_0); (try rw [show ((4 : Int)).toNat = 4 from rfl] at hx108_1); (try rw [show 4 * 5 = 20 from rfl] at hx108_1); (try rw [show ((4 : Int)).toNat = 4 from rfl] at hx108_2); (try rw [show 4 * 5 = 20 from rfl] at hx108_2); (try rw [show ((4 : Int)).toNat = 4 from rfl] at hx108_3); (try rw [show 4 * 5 = 20 from rfl] at hx108_3); (try rw [show ((4 : Int)).toNat = 4 from rfl] at hx108_4); (try rw [show 4 * 5 = 20 from rfl] at hx108_4); replace p108 := eq_true p108; replace q108 := eq_true q108; have p109 : 0 ≤ (4 : Int) := (by omega); have q109 : 4 < (t101.length : Int) := of_decide_eq_true (by first | (with_reducible assumption) | assumption); obtain ⟨ad109, e109, hx109_0, hx109_1, hx109_2, hx109_3, hx109_4⟩ := at_T26 (Kd.R_reads' HO103.out).2.2 4 p109 q109; (try rw [← Nbq10.out] at hx109_3); (try rw [← Nbq10.out] at hx109_4); obtain rfl : ad107 = ad109 := (by injection e109); (try simp only [show (4 : Int).toNat = 4 from rfl, Nat.reduceMul, Nat.reduceEqDiff, Go.Addr.add, ↓reduceIte] at hx109_0); (try simp only [show (4 : Int).toNat = 4 from rfl, Nat.reduceMul, Nat.reduceEqDiff, Go.Addr.add, ↓reduceIte] at hx109_1); (try simp only [show (4 : Int).toNat = 4 from rfl, Nat.reduceMul, Nat.reduceEqDiff, Go.Addr.add, ↓reduceIte] at hx109_2); (try simp only [show (4 : Int).toNat = 4 from rfl, Nat.reduceMul, Nat.reduceEqDiff, Go.Addr.add, ↓reduceIte] at hx109_3); (try simp only [show (4 : Int).toNat = 4 from rfl, Nat.reduceMul, Nat.reduceEqDiff, Go.Addr.add, ↓reduceIte] at hx109_4); have qi109 : (4 < t101.length) = True := eq_true (by omega); (try rw [show ((4 : Int)).toNat = 4 from rfl] at hx109_0); (try rw [show 4 * 5 = 20 from rfl] at hx109_0); (try rw [show ((4 : Int)).toNat = 4 from rfl] at hx109_1); (try rw [show 4 * 5 = 20 from rfl] at hx109_1); (try rw [show ((4 : Int)).toNat = 4 from rfl] at hx109_2); (try rw [show 4 * 5 = 20 from rfl] at hx109_2); (try rw [show ((4 : Int)).toNat = 4 from rfl] at hx109_3); (try rw [show 4 * 5 = 20 from rfl] at hx109_3); (try rw [show ((4 : Int)).toNat = 4 from rfl] at hx109_4); (try rw [show 4 * 5 = 20 from rfl] at hx109_4); replace p109 := eq_true p109; replace q109 := eq_true q109; have p110 : 0 ≤ (4 : Int) := (by omega); have q110 : 4 < (t101.length : Int) := of_decide_eq_true (by first | (with_reducible assumption) | assumption); obtain ⟨ad110, e110, hx110_0, hx110_1, hx110_2, hx110_3, hx110_4⟩ := at_T26 (Kd.R_reads' HO103.out).2.2 4 p110 q110; (try rw [← Nbq10.out] at hx110_3); (try rw [← Nbq10.out] at hx110_4); obtain rfl : ad107 = ad110 := (by injection e110); (try simp only [show (4 : Int).toNat = 4 from rfl, Nat.reduceMul, Nat.reduceEqDiff, Go.Addr.add, ↓reduceIte] at hx110_0); (try simp only [show (4 : Int).toNat = 4 from rfl, Nat.reduceMul, Nat.reduceEqDiff, Go.Addr.add, ↓reduceIte] at hx110_1); (try simp only [show (4 : Int).toNat = 4 from rfl, Nat.reduceMul, Nat.reduceEqDiff, Go.Addr.add, ↓reduceIte] at hx110_2); (try simp only [show (4 : Int).toNat = 4 from rfl, Nat.reduceMul, Nat.reduceEqDiff, Go.Addr.add, ↓reduceIte] at hx110_3); (try simp only [show (4 : Int).toNat = 4 from rfl, Nat.reduceMul, Nat.reduceEqDiff, Go.Addr.add, ↓reduceIte] at hx110_4); have qi110 : (4 < t101.length) = True := eq_true (by omega); (try rw [show ((4 : Int)).toNat = 4 from rfl] at hx110_0); (try rw [show 4 * 5 = 20 from rfl] at hx110_0); (try rw [show ((4 : Int)).toNat = 4 from rfl] at hx110_1); (try rw [show 4 * 5 = 20 from rfl] at hx110_1); (try rw [show ((4 : Int)).toNat = 4 from rfl] at hx110_2); (try rw [show 4 * 5 = 20 from rfl] at hx110_2); (try rw [show ((4 : Int)).toNat = 4 from rfl] at hx110_3); (try rw [show 4 * 5 = 20 from rfl] at hx110_3); (try rw [show ((4 : Int)).toNat = 4 from rfl] at hx110_4); (try rw [show 4 * 5 = 20 from rfl] at hx110_4); replace p110 := eq_true p110; replace q110 := eq_true q110; have p111 : 0 ≤ (4 : Int) := (by omega); have q111 : 4 < (t101.length : Int) := of_decide_eq_true (by first | (with_reducible assumption) | assumption); obtain ⟨ad111, e111, hx111_0, hx111_1, hx111_2, hx111_3, hx111_4⟩ := at_T26 (Kd.R_reads' HO103.out).2.2 4 p111 q111; (try rw [← Nbq10.out] at hx111_3); (try rw [← Nbq10.out] at hx111_4); obtain rfl : ad107 = ad111 := (by injection e111); (try simp only [show (4 : Int).toNat = 4 from rfl, Nat.reduceMul, Nat.reduceEqDiff, Go.Addr.add, ↓reduceIte] at hx111_0); (try simp only [show (4 : Int).toNat = 4 from rfl, Nat.reduceMul, Nat.reduceEqDiff, Go.Addr.add, ↓reduceIte] at hx111_1); (try simp only [show (4 : Int).toNat = 4 from rfl, Nat.reduceMul, Nat.reduceEqDiff, Go.Addr.add, ↓reduceIte] at hx111_2); (try simp only [show (4 : Int).toNat = 4 from rfl, Nat.reduceMul, Nat.reduceEqDiff, Go.Addr.add, ↓reduceIte] at hx111_3); (try simp only [show (4 : Int).toNat = 4 from rfl, Nat.reduceMul, Nat.reduceEqDiff, Go.Addr.add, ↓reduceIte] at hx111_4); have qi111 : (4 < t101.length) = True := eq_true (by omega); (try rw [show ((4 : Int)).toNat = 4 from rfl] at hx111_0); (try rw [show 4 * 5 = 20 from rfl] at hx111_0); (try rw [show ((4 : Int)).toNat = 4 from rfl] at hx111_1); (try rw [show 4 * 5 = 20 from rfl] at hx111_1); (try rw [show ((4 : Int)).toNat = 4 from rfl] at hx111_2); (try rw [show 4 * 5 = 20 from rfl] at hx111_2); (try rw [show ((4 : Int)).toNat = 4 from rfl] at hx111_3); (try rw [show 4 * 5 = 20 from rfl] at hx111_3); (try rw [show ((4 : Int)).toNat = 4 from rfl] at hx111_4); (try rw [show 4 * 5 = 20 from rfl] at hx111_4); replace p111 := eq_true p111; replace q111 := eq_true q111; obtain ⟨Ao24, co24, eo24⟩ := Kd.R_slice HO106.out; subst eo24; have p112 : 0 ≤ (0 : Int) := (by omega); have q112 : 0 < (t104.length : Int) := of_decide_eq_true (by first | (with_reducible assumption) | assumption); obtain ⟨ad112, e112, hx112_0, hx112_1, hx112_2, hx112_3, hx112_4⟩ := at_T26 (Kd.R_reads' HO106.out).2.2 0 p112 q112; (try rw [← Nbq10.out] at hx112_3); (try rw [← Nbq10.out] at hx112_4); cases e112; have qi112 : (0 < t104.length) = True := eq_true (by omega); (try rw [show ((0 : Int)).toNat = 0 from rfl] at hx112_0); (try rw [show 0 * 5 = 0 from rfl] at hx112_0); (try rw [Addr.add_zero'] at hx112_0); (try rw [show ((0 : Int)).toNat = 0 from rfl] at hx112_1); (try rw [show 0 * 5 = 0 from rfl] at hx112_1); (try rw [Addr.add_zero'] at hx112_1); (try rw [show ((0 : Int)).toNat = 0 from rfl] at hx112_2); (try rw [show 0 * 5 = 0 from rfl] at hx112_2); (try rw [Addr.add_zero'] at hx112_2); (try rw [show ((0 : Int)).toNat = 0 from rfl] at hx112_3); (try rw [show 0 * 5 = 0 from rfl] at hx112_3); (try rw [Addr.add_zero'] at hx112_3); (try rw [show ((0 : Int)).toNat = 0 from rfl] at hx112_4); (try rw [show 0 * 5 = 0 from rfl] at hx112_4); (try rw [Addr.add_zero'] at hx112_4); replace p112 := eq_true p112; replace q112 := eq_true q112; have p113 : 0 ≤ (1 : Int) := (by omega); have q113 : 1 < (t104.length : Int) := of_decide_eq_true (by first | (with_reducible assumption) | assumption); obtain ⟨ad113, e113, hx113_0, hx113_1, hx113_2, hx113_3, hx113_4⟩ := at_T26 (Kd.R_reads' HO106.out).2.2 1 p113 q113; (try rw [← Nbq10.out] at hx113_3); (try rw [← Nbq10.out] at hx113_4); obtain rfl : ad112 = ad113 := (by injection e113); (try simp only [show (1 : Int).toNat = 1 from rfl, Nat.reduceMul, Nat.reduceEqDiff, Go.Addr.add, ↓reduceIte] at hx113_0); (try simp only [show (1 : Int).toNat = 1 from rfl, Nat.reduceMul, Nat.reduceEqDiff, Go.Addr.add, ↓reduceIte] at hx113_1); (try simp only [show (1 : Int).toNat = 1 from rfl, Nat.reduceMul, Nat.reduceEqDiff, Go.Addr.add, ↓reduceIte] at hx113_2); (try simp only [show (1 : Int).toNat = 1 from rfl, Nat.reduceMul, Nat.reduceEqDiff, Go.Addr.add, ↓reduceIte] at hx113_3); (try simp only [show (1 : Int).toNat = 1 from rfl, Nat.reduceMul, Nat.reduceEqDiff, Go.Addr.add, ↓reduceIte] at hx113_4); have qi113 : (1 < t104.length) = True := eq_true (by omega); (try rw [show ((1 : Int)).toNat = 1 from rfl] at hx113_0); (try rw [show 1 * 5 = 5 from rfl] at hx113_0); (try rw [show ((1 : Int)).toNat = 1 from rfl] at hx113_1); (try rw [show 1 * 5 = 5 from rfl] at hx113_1); (try rw [show ((1 : Int)).toNat = 1 from rfl] at hx113_2); (try rw [show 1 * 5 = 5 from rfl] at hx113_2); (try rw [show ((1 : Int)).toNat = 1 from rfl] at hx113_3); (try rw [show 1 * 5 = 5 from rfl] at hx113_3); (try rw [show ((1 : Int)).toNat = 1 from rfl] at hx113_4); (try rw [show 1 * 5 = 5 from rfl] at hx113_4); replace p113 := eq_true p113; replace q113 := eq_true q113) | (go_at_call 14; (with_reducible refine (token_Escape.calls (⟨#[49]⟩ : ByteArray) t114 _ A20.out (HT.out.below (by repeat (first | (with_reducible first | exact HB.out | apply below_alloc | apply pw_below_drewN | apply below_drew1) | exact HB.out)))).mono ?_); rintro e w25 ⟨rfl, hb⟩; have n0_ := Aside0.mk (Kd.R_below (by (with_reducible repeat (first | apply Kd.R_alloc | apply Kd.R_drewN | apply Kd.R_drew)); exact HO103.out) hb); have n1_ := Aside0.mk (Kd.R_below (by (with_reducible repeat (first | apply Kd.R_alloc | apply Kd.R_drewN | apply Kd.R_drew)); exact HO106.out) hb); have n2_ := Aside0.mk (below_step (by repeat (first | (with_reducible first | exact HB.out | apply below_alloc | apply pw_below_drewN | apply below_drew1) | exact HB.out)) hb); clear HO103; clear HO106; clear HB; have HO103 := n0_; have HO106 := n1_; have HB := n2_; clear n0_ n1_ n2_; (try clear hb); (try clear hb2); (try clear hk); (try clear hi)))
                            go_ret
                            exact ⟨by first | rfl | (simp [errW_none, errW_some] <;> rfl) | (simp [*, errW_none, errW_some] <;> rfl), by repeat (first | (with_reducible first | exact HB.out | apply below_alloc | apply pw_below_drewN | apply below_drew1) | exact HB.out)⟩
                          · rw [if_neg c19] at H
                            have c19b0 : (((rd_T26 t104 1).f0) == 13) = false := beq_eq_false_iff_ne.mpr c19
                            have c19b1 : (((rd_T26 t104 1).f0) != 13) = true := bne_iff_ne.mpr c19
                            obtain rfl := Option.some.inj H
                            go_enter Tryd.func9, Tryd.ntmps9
                            go_wp2_with (first | ((with_reducible refine gate_callee (f := 10) rfl ?_); refine goesL_ (some 3) rfl rfl Tryd.func10 (by kernel_rfl) rfl #[.string (⟨#[97, 123, 98, 58, 49, 46, 53, 101, 109, 125]⟩ : ByteArray)] rfl (by (try simp only [List.map_toArray, List.map_cons, List.map_nil]); first | done | rfl | (simp only [List.length_drop, List.length_take]; rfl)) ?_; (with_reducible refine (gouachelaw02_cut.calls (⟨#[97, 123, 98, 58, 49, 46, 53, 101, 109, 125]⟩ : ByteArray) t101 _ A1.out).mono ?_); rintro e w26 ⟨v102, rfl, ho0, hb⟩; refine ⟨_, rfl, ?_⟩; have n0_ := Aside0.mk (Kd.R_lower ho0 (below_size (by repeat (first | (with_reducible first | exact HB.out | apply below_alloc | apply pw_below_drewN | apply below_drew1) | exact HB.out)))); have n1_ := Aside0.mk (below_step (by repeat (first | (with_reducible first | exact HB.out | apply below_alloc | apply pw_below_drewN | apply below_drew1) | exact HB.out)) hb); clear HB; have HO103 := n0_; have HB := n1_; clear n0_ n1_; (try clear hb); (try clear hb2); (try clear hk); (try clear hi); (try clear ho0)) | ((with_reducible refine gate_callee (f := 10) rfl ?_); refine goesL_ (some 4) rfl rfl Tryd.func10 (by kernel_rfl) rfl #[.string (⟨#[34, 97, 10]⟩ : ByteArray)] rfl (by (try simp only [List.map_toArray, List.map_cons, List.map_nil]); first | done | rfl | (simp only [List.length_drop, List.length_take]; rfl)) ?_; (with_reducible refine (gouachelaw02_cut.calls (⟨#[34, 97, 10]⟩ : ByteArray) t104 _ A2.out).mono ?_); rintro e w27 ⟨v105, rfl, ho0, hb⟩; refine ⟨_, rfl, ?_⟩; have n0_ := Aside0.mk (Kd.R_elder' (by (with_reducible repeat (first | apply Kd.R_alloc | apply Kd.R_drewN | apply Kd.R_drew)); exact HO103.out) (Kd.R_base ho0) hb); have n1_ := Aside0.mk (Kd.R_lower (Kd.R_new' ho0 (Kd.R_lt (by (with_reducible repeat (first | apply Kd.R_alloc | apply Kd.R_drewN | apply Kd.R_drew)); exact HO103.out))) (below_size (by repeat (first | (with_reducible first | exact HB.out | apply below_alloc | apply pw_below_drewN | apply below_drew1) | exact HB.out)))); have n2_ := Aside0.mk (below_step (by repeat (first | (with_reducible first | exact HB.out | apply below_alloc | apply pw_below_drewN | apply below_drew1) | exact HB.out)) hb); clear HO103; clear HB; have HO103 := n0_; have HO106 := n1_; have HB := n2_; clear n0_ n1_ n2_; (try clear hb); (try clear hb2); (try clear hk); (try clear hi); (try clear ho0); obtain ⟨Ao28, co28, eo28⟩ := Kd.R_slice HO103.out; subst eo28; have p107 : 0 ≤ (0 : Int) := (by omega); have q107 : 0 < (t101.length : Int) := of_decide_eq_true (by first | (with_reducible assumption) | assumption); obtain ⟨ad107, e107, hx107_0, hx107_1, hx107_2, hx107_3, hx107_4⟩ := at_T26 (Kd.R_reads' HO103.out).2.2 0 p107 q107; (try rw [← Nbq10.out] at hx107_3); (try rw [← Nbq10.out] at hx107_4); cases e107; have qi107 : (0 < t101.length) = True := eq_true (by omega); (try rw [show ((0 : Int)).toNat = 0 from rfl] at hx107_0); (try rw [show 0 * 5 = 0 from rfl] at hx107_0); (try rw [Addr.add_zero'] at hx107_0); (try rw [show ((0 : Int)).toNat = 0 from rfl] at hx107_1); (try rw [show 0 * 5 = 0 from rfl] at hx107_1); (try rw [Addr.add_zero'] at hx107_1); (try rw [show ((0 : Int)).toNat = 0 from rfl] at hx107_2); (try rw [show 0 * 5 = 0 from rfl] at hx107_2); (try rw [Addr.add_zero'] at hx107_2); (try rw [show ((0 : Int)).toNat = 0 from rfl] at hx107_3); (try rw [show 0 * 5 = 0 from rfl] at hx107_3); (try rw [Addr.add_zero'] at hx107_3); (try rw [show ((0 : Int)).toNat = 0 from rfl] at hx107_4); (try rw [show 0 * 5 = 0 from rfl] at hx107_4); (try rw [Addr.add_zero'] at hx107_4); replace p107 := eq_true p107; replace q107 := eq_true q107; have p108 : 0 ≤ (4 : Int) := (by omega); have q108 : 4 < (t101.length : Int) := of_decide_eq_true (by first | (with_reducible assumption) | assumption); obtain ⟨ad108, e108, hx108_0, hx108_1, hx108_2, hx108_3, hx108_4⟩ := at_T26 (Kd.R_reads' HO103.out).2.2 4 p108 q108; (try rw [← Nbq10.out] at hx108_3); (try rw [← Nbq10.out] at hx108_4); obtain rfl : ad107 = ad108 := (by injection e108); (try simp only [show (4 : Int).toNat = 4 from rfl, Nat.reduceMul, Nat.reduceEqDiff, Go.Addr.add, ↓reduceIte] at hx108_0); (try simp only [show (4 : Int).toNat = 4 from rfl, Nat.reduceMul, Nat.reduceEqDiff, Go.Addr.add, ↓reduceIte] at hx108_1); (try simp only [show (4 : Int).toNat = 4 from rfl, Nat.reduceMul, Nat.reduceEqDiff, Go.Addr.add, ↓reduceIte] at hx108_2); (try simp only [show (4 : Int).toNat = 4 from rfl, Nat.reduceMul, Nat.reduceEqDiff, Go.Addr.add, ↓reduceIte] at hx108_3); (try simp only [show (4 : Int).toNat = 4 from rfl, Nat.reduceMul, Nat.reduceEqDiff, Go.Addr.add, ↓reduceIte] at hx108_4); have qi108 : (4 < t101.length) = True := eq_true (by omega); (try rw [show ((4 : Int)).toNat = 4 from rfl] at hx108_0); (try rw [show 4 * 5 = 20 from rfl] at hx108_0); (try rw [show ((4 : Int)).toNat = 4 from rfl] at hx108_1); (try rw [show 4 * 5 = 20 from rfl] at hx108_1); (try rw [show ((4 : Int)).toNat = 4 from rfl] at hx108_2); (try rw [show 4 * 5 = 20 from rfl] at hx108_2); (try rw [show ((4 : Int)).toNat = 4 from rfl] at hx108_3); (try rw [show 4 * 5 = 20 from rfl] at hx108_3); (try rw [show ((4 : Int)).toNat = 4 from rfl] at hx108_4); (try rw [show 4 * 5 = 20 from rfl] at hx108_4); replace p108 := eq_true p108; replace q108 := eq_true q108; have p109 : 0 ≤ (4 : Int) := (by omega); have q109 : 4 < (t101.length : Int) := of_decide_eq_true (by first | (with_reducible assumption) | assumption); obtain ⟨ad109, e109, hx109_0, hx109_1, hx109_2, hx109_3, hx109_4⟩ := at_T26 (Kd.R_reads' HO103.out).2.2 4 p109 q109; (try rw [← Nbq10.out] at hx109_3); (try rw [← Nbq10.out] at hx109_4); obtain rfl : ad107 = ad109 := (by injection e109); (try simp only [show (4 : Int).toNat = 4 from rfl, Nat.reduceMul, Nat.reduceEqDiff, Go.Addr.add, ↓reduceIte] at hx109_0); (try simp only [show (4 : Int).toNat = 4 from rfl, Nat.reduceMul, Nat.reduceEqDiff, Go.Addr.add, ↓reduceIte] at hx109_1); (try simp only [show (4 : Int).toNat = 4 from rfl, Nat.reduceMul, Nat.reduceEqDiff, Go.Addr.add, ↓reduceIte] at hx109_2); (try simp only [show (4 : Int).toNat = 4 from rfl, Nat.reduceMul, Nat.reduceEqDiff, Go.Addr.add, ↓reduceIte] at hx109_3); (try simp only [show (4 : Int).toNat = 4 from rfl, Nat.reduceMul, Nat.reduceEqDiff, Go.Addr.add, ↓reduceIte] at hx109_4); have qi109 : (4 < t101.length) = True := eq_true (by omega); (try rw [show ((4 : Int)).toNat = 4 from rfl] at hx109_0); (try rw [show 4 * 5 = 20 from rfl] at hx109_0); (try rw [show ((4 : Int)).toNat = 4 from rfl] at hx109_1); (try rw [show 4 * 5 = 20 from rfl] at hx109_1); (try rw [show ((4 : Int)).toNat = 4 from rfl] at hx109_2); (try rw [show 4 * 5 = 20 from rfl] at hx109_2); (try rw [show ((4 : Int)).toNat = 4 from rfl] at hx109_3); (try rw [show 4 * 5 = 20 from rfl] at hx109_3); (try rw [show ((4 : Int)).toNat = 4 from rfl] at hx109_4); (try rw [show 4 * 5 = 20 from rfl] at hx109_4); replace p109 := eq_true p109; replace q109 := eq_true q109; have p110 : 0 ≤ (4 : Int) := (by omega); have q110 : 4 < (t101.length : Int) := of_decide_eq_true (by first | (with_reducible assumption) | assumption); obtain ⟨ad110, e110, hx110_0, hx110_1, hx110_2, hx110_3, hx110_4⟩ := at_T26 (Kd.R_reads' HO103.out).2.2 4 p110 q110; (try rw [← Nbq10.out] at hx110_3); (try rw [← Nbq10.out] at hx110_4); obtain rfl : ad107 = ad110 := (by injection e110); (try simp only [show (4 : Int).toNat = 4 from rfl, Nat.reduceMul, Nat.reduceEqDiff, Go.Addr.add, ↓reduceIte] at hx110_0); (try simp only [show (4 : Int).toNat = 4 from rfl, Nat.reduceMul, Nat.reduceEqDiff, Go.Addr.add, ↓reduceIte] at hx110_1); (try simp only [show (4 : Int).toNat = 4 from rfl, Nat.reduceMul, Nat.reduceEqDiff, Go.Addr.add, ↓reduceIte] at hx110_2); (try simp only [show (4 : Int).toNat = 4 from rfl, Nat.reduceMul, Nat.reduceEqDiff, Go.Addr.add, ↓reduceIte] at hx110_3); (try simp only [show (4 : Int).toNat = 4 from rfl, Nat.reduceMul, Nat.reduceEqDiff, Go.Addr.add, ↓reduceIte] at hx110_4); have qi110 : (4 < t101.length) = True := eq_true (by omega); (try rw [show ((4 : Int)).toNat = 4 from rfl] at hx110_0); (try rw [show 4 * 5 = 20 from rfl] at hx110_0); (try rw [show ((4 : Int)).toNat = 4 from rfl] at hx110_1); (try rw [show 4 * 5 = 20 from rfl] at hx110_1); (try rw [show ((4 : Int)).toNat = 4 from rfl] at hx110_2); (try rw [show 4 * 5 = 20 from rfl] at hx110_2); (try rw [show ((4 : Int)).toNat = 4 from rfl] at hx110_3); (try rw [show 4 * 5 = 20 from rfl] at hx110_3); (try rw [show ((4 : Int)).toNat = 4 from rfl] at hx110_4); (try rw [show 4 * 5 = 20 from rfl] at hx110_4); replace p110 := eq_true p110; replace q110 := eq_true q110; have p111 : 0 ≤ (4 : Int) := (by omega); have q111 : 4 < (t101.length : Int) := of_decide_eq_true (by first | (with_reducible assumption) | assumption); obtain ⟨ad111, e111, hx111_0, hx111_1, hx111_2, hx111_3, hx111_4⟩ := at_T26 (Kd.R_reads' HO103.out).2.2 4 p111 q111; (try rw [← Nbq10.out] at hx111_3); (try rw [← Nbq10.out] at hx111_4); obtain rfl : ad107 = ad111 := (by injection e111); (try simp only [show (4 : Int).toNat = 4 from rfl, Nat.reduceMul, Nat.reduceEqDiff, Go.Addr.add, ↓reduceIte] at hx111_0); (try simp only [show (4 : Int).toNat = 4 from rfl, Nat.reduceMul, Nat.reduceEqDiff, Go.Addr.add, ↓reduceIte] at hx111_1); (try simp only [show (4 : Int).toNat = 4 from rfl, Nat.reduceMul, Nat.reduceEqDiff, Go.Addr.add, ↓reduceIte] at hx111_2); (try simp only [show (4 : Int).toNat = 4 from rfl, Nat.reduceMul, Nat.reduceEqDiff, Go.Addr.add, ↓reduceIte] at hx111_3); (try simp only [show (4 : Int).toNat = 4 from rfl, Nat.reduceMul, Nat.reduceEqDiff, Go.Addr.add, ↓reduceIte] at hx111_4); have qi111 : (4 < t101.length) = True := eq_true (by omega); (try rw [show ((4 : Int)).toNat = 4 from rfl] at hx111_0); (try rw [show 4 * 5 = 20 from rfl] at hx111_0); (try rw [show ((4 : Int)).toNat = 4 from rfl] at hx111_1); (try rw [show 4 * 5 = 20 from rfl] at hx111_1); (try rw [show ((4 : Int)).toNat = 4 from rfl] at hx111_2); (try rw [show 4 * 5 = 20 from rfl] at hx111_2); (try rw [show ((4 : Int)).toNat = 4 from rfl] at hx111_3); (try rw [show 4 * 5 = 20 from rfl] at hx111_3); (try rw [show ((4 : Int)).toNat = 4 from rfl] at hx111_4); (try rw [show 4 * 5 = 20 from rfl] at hx111_4); replace p111 := eq_true p111; replace q111 := eq_true q111; obtain ⟨Ao29, co29, eo29⟩ := Kd.R_slice HO106.out; subst eo29; have p112 : 0 ≤ (0 : Int) := (by omega); have q112 : 0 < (t104.length : Int) := of_decide_eq_true (by first | (with_reducible assumption) | assumption); obtain ⟨ad112, e112, hx112_0, hx112_1, hx112_2, hx112_3, hx112_4⟩ := at_T26 (Kd.R_reads' HO106.out).2.2 0 p112 q112; (try rw [← Nbq10.out] at hx112_3); (try rw [← Nbq10.out] at hx112_4); cases e112; have qi112 : (0 < t104.length) = True := eq_true (by omega); (try rw [show ((0 : Int)).toNat = 0 from rfl] at hx112_0); (try rw [show 0 * 5 = 0 from rfl] at hx112_0); (try rw [Addr.add_zero'] at hx112_0); (try rw [show ((0 : Int)).toNat = 0 from rfl] at hx112_1); (try rw [show 0 * 5 = 0 from rfl] at hx112_1); (try rw [Addr.add_zero'] at hx112_1); (try rw [show ((0 : Int)).toNat = 0 from rfl] at hx112_2); (try rw [show 0 * 5 = 0 from rfl] at hx112_2); (try rw [Addr.add_zero'] at hx112_2); (try rw [show ((0 : Int)).toNat = 0 from rfl] at hx112_3); (try rw [show 0 * 5 = 0 from rfl] at hx112_3); (try rw [Addr.add_zero'] at hx112_3); (try rw [show ((0 : Int)).toNat = 0 from rfl] at hx112_4); (try rw [show 0 * 5 = 0 from rfl] at hx112_4); (try rw [Addr.add_zero'] at hx112_4); replace p112 := eq_true p112; replace q112 := eq_true q112; have p113 : 0 ≤ (1 : Int) := (by omega); have q113 : 1 < (t104.length : Int) := of_decide_eq_true (by first | (with_reducible assumption) | assumption); obtain ⟨ad113, e113, hx113_0, hx113_1, hx113_2, hx113_3, hx113_4⟩ := at_T26 (Kd.R_reads' HO106.out).2.2 1 p113 q113; (try rw [← Nbq10.out] at hx113_3); (try rw [← Nbq10.out] at hx113_4); obtain rfl : ad112 = ad113 := (by injection e113); (try simp only [show (1 : Int).toNat = 1 from rfl, Nat.reduceMul, Nat.reduceEqDiff, Go.Addr.add, ↓reduceIte] at hx113_0); (try simp only [show (1 : Int).toNat = 1 from rfl, Nat.reduceMul, Nat.reduceEqDiff, Go.Addr.add, ↓reduceIte] at hx113_1); (try simp only [show (1 : Int).toNat = 1 from rfl, Nat.reduceMul, Nat.reduceEqDiff, Go.Addr.add, ↓reduceIte] at hx113_2); (try simp only [show (1 : Int).toNat = 1 from rfl, Nat.reduceMul, Nat.reduceEqDiff, Go.Addr.add, ↓reduceIte] at hx113_3); (try simp only [show (1 : Int).toNat = 1 from rfl, Nat.reduceMul, Nat.reduceEqDiff, Go.Addr.add, ↓reduceIte] at hx113_4); have qi113 : (1 < t104.length) = True := eq_true (by omega); (try rw [show ((1 : Int)).toNat = 1 from rfl] at hx113_0); (try rw [show 1 * 5 = 5 from rfl] at hx113_0); (try rw [show ((1 : Int)).toNat = 1 from rfl] at hx113_1); (try rw [show 1 * 5 = 5 from rfl] at hx113_1); (try rw [show ((1 : Int)).toNat = 1 from rfl] at hx113_2); (try rw [show 1 * 5 = 5 from rfl] at hx113_2); (try rw [show ((1 : Int)).toNat = 1 from rfl] at hx113_3); (try rw [show 1 * 5 = 5 from rfl] at hx113_3); (try rw [show ((1 : Int)).toNat = 1 from rfl] at hx113_4); (try rw [show 1 * 5 = 5 from rfl] at hx113_4); replace p113 := eq_true p113; replace q113 := eq_true q113))
                            go_ret
                            exact ⟨by first | rfl | (simp [errW_none, errW_some] <;> rfl) | (simp [*, errW_none, errW_some] <;> rfl), by repeat (first | (with_reducible first | exact HB.out | apply below_alloc | apply pw_below_drewN | apply below_drew1) | exact HB.out)⟩
                        · rw [if_neg c18] at H
                          exact absurd H (by simp)
                      · rw [if_neg c17] at H
                        have c17b0 : (((rd_T26 t104 0).f0) == 6) = false := beq_eq_false_iff_ne.mpr c17
                        have c17b1 : (((rd_T26 t104 0).f0) != 6) = true := bne_iff_ne.mpr c17
                        obtain rfl := Option.some.inj H
                        go_enter Tryd.func9, Tryd.ntmps9
                        go_wp2_with (first | ((with_reducible refine gate_callee (f := 10) rfl ?_); refine goesL_ (some 3) rfl rfl Tryd.func10 (by kernel_rfl) rfl #[.string (⟨#[97, 123, 98, 58, 49, 46, 53, 101, 109, 125]⟩ : ByteArray)] rfl (by (try simp only [List.map_toArray, List.map_cons, List.map_nil]); first | done | rfl | (simp only [List.length_drop, List.length_take]; rfl)) ?_; (with_reducible refine (gouachelaw02_cut.calls (⟨#[97, 123, 98, 58, 49, 46, 53, 101, 109, 125]⟩ : ByteArray) t101 _ A1.out).mono ?_); rintro e w30 ⟨v102, rfl, ho0, hb⟩; refine ⟨_, rfl, ?_⟩; have n0_ := Aside0.mk (Kd.R_lower ho0 (below_size (by repeat (first | (with_reducible first | exact HB.out | apply below_alloc | apply pw_below_drewN | apply below_drew1) | exact HB.out)))); have n1_ := Aside0.mk (below_step (by repeat (first | (with_reducible first | exact HB.out | apply below_alloc | apply pw_below_drewN | apply below_drew1) | exact HB.out)) hb); clear HB; have HO103 := n0_; have HB := n1_; clear n0_ n1_; (try clear hb); (try clear hb2); (try clear hk); (try clear hi); (try clear ho0)) | ((with_reducible refine gate_callee (f := 10) rfl ?_); refine goesL_ (some 4) rfl rfl Tryd.func10 (by kernel_rfl) rfl #[.string (⟨#[34, 97, 10]⟩ : ByteArray)] rfl (by (try simp only [List.map_toArray, List.map_cons, List.map_nil]); first | done | rfl | (simp only [List.length_drop, List.length_take]; rfl)) ?_; (with_reducible refine (gouachelaw02_cut.calls (⟨#[34, 97, 10]⟩ : ByteArray) t104 _ A2.out).mono ?_); rintro e w31 ⟨v105, rfl, ho0, hb⟩; refine ⟨_, rfl, ?_⟩; have n0_ := Aside0.mk (Kd.R_elder' (by (with_reducible repeat (first | apply Kd.R_alloc | apply Kd.R_drewN | apply Kd.R_drew)); exact HO103.out) (Kd.R_base ho0) hb); have n1_ := Aside0.mk (Kd.R_lower (Kd.R_new' ho0 (Kd.R_lt (by (with_reducible repeat (first | apply Kd.R_alloc | apply Kd.R_drewN | apply Kd.R_drew)); exact HO103.out))) (below_size (by repeat (first | (with_reducible first | exact HB.out | apply below_alloc | apply pw_below_drewN | apply below_drew1) | exact HB.out)))); have n2_ := Aside0.mk (below_step (by repeat (first | (with_reducible first | exact HB.out | apply below_alloc | apply pw_below_drewN | apply below_drew1) | exact HB.out)) hb); clear HO103; clear HB; have HO103 := n0_; have HO106 := n1_; have HB := n2_; clear n0_ n1_ n2_; (try clear hb); (try clear hb2); (try clear hk); (try clear hi); (try clear ho0); obtain ⟨Ao32, co32, eo32⟩ := Kd.R_slice HO103.out; subst eo32; have p107 : 0 ≤ (0 : Int) := (by omega); have q107 : 0 < (t101.length : Int) := of_decide_eq_true (by first | (with_reducible assumption) | assumption); obtain ⟨ad107, e107, hx107_0, hx107_1, hx107_2, hx107_3, hx107_4⟩ := at_T26 (Kd.R_reads' HO103.out).2.2 0 p107 q107; (try rw [← Nbq10.out] at hx107_3); (try rw [← Nbq10.out] at hx107_4); cases e107; have qi107 : (0 < t101.length) = True := eq_true (by omega); (try rw [show ((0 : Int)).toNat = 0 from rfl] at hx107_0); (try rw [show 0 * 5 = 0 from rfl] at hx107_0); (try rw [Addr.add_zero'] at hx107_0); (try rw [show ((0 : Int)).toNat = 0 from rfl] at hx107_1); (try rw [show 0 * 5 = 0 from rfl] at hx107_1); (try rw [Addr.add_zero'] at hx107_1); (try rw [show ((0 : Int)).toNat = 0 from rfl] at hx107_2); (try rw [show 0 * 5 = 0 from rfl] at hx107_2); (try rw [Addr.add_zero'] at hx107_2); (try rw [show ((0 : Int)).toNat = 0 from rfl] at hx107_3); (try rw [show 0 * 5 = 0 from rfl] at hx107_3); (try rw [Addr.add_zero'] at hx107_3); (try rw [show ((0 : Int)).toNat = 0 from rfl] at hx107_4); (try rw [show 0 * 5 = 0 from rfl] at hx107_4); (try rw [Addr.add_zero'] at hx107_4); replace p107 := eq_true p107; replace q107 := eq_true q107; have p108 : 0 ≤ (4 : Int) := (by omega); have q108 : 4 < (t101.length : Int) := of_decide_eq_true (by first | (with_reducible assumption) | assumption); obtain ⟨ad108, e108, hx108_0, hx108_1, hx108_2, hx108_3, hx108_4⟩ := at_T26 (Kd.R_reads' HO103.out).2.2 4 p108 q108; (try rw [← Nbq10.out] at hx108_3); (try rw [← Nbq10.out] at hx108_4); obtain rfl : ad107 = ad108 := (by injection e108); (try simp only [show (4 : Int).toNat = 4 from rfl, Nat.reduceMul, Nat.reduceEqDiff, Go.Addr.add, ↓reduceIte] at hx108_0); (try simp only [show (4 : Int).toNat = 4 from rfl, Nat.reduceMul, Nat.reduceEqDiff, Go.Addr.add, ↓reduceIte] at hx108_1); (try simp only [show (4 : Int).toNat = 4 from rfl, Nat.reduceMul, Nat.reduceEqDiff, Go.Addr.add, ↓reduceIte] at hx108_2); (try simp only [show (4 : Int).toNat = 4 from rfl, Nat.reduceMul, Nat.reduceEqDiff, Go.Addr.add, ↓reduceIte] at hx108_3); (try simp only [show (4 : Int).toNat = 4 from rfl, Nat.reduceMul, Nat.reduceEqDiff, Go.Addr.add, ↓reduceIte] at hx108_4); have qi108 : (4 < t101.length) = True := eq_true (by omega); (try rw [show ((4 : Int)).toNat = 4 from rfl] at hx108_0); (try rw [show 4 * 5 = 20 from rfl] at hx108_0); (try rw [show ((4 : Int)).toNat = 4 from rfl] at hx108_1); (try rw [show 4 * 5 = 20 from rfl] at hx108_1); (try rw [show ((4 : Int)).toNat = 4 from rfl] at hx108_2); (try rw [show 4 * 5 = 20 from rfl] at hx108_2); (try rw [show ((4 : Int)).toNat = 4 from rfl] at hx108_3); (try rw [show 4 * 5 = 20 from rfl] at hx108_3); (try rw [show ((4 : Int)).toNat = 4 from rfl] at hx108_4); (try rw [show 4 * 5 = 20 from rfl] at hx108_4); replace p108 := eq_true p108; replace q108 := eq_true q108; have p109 : 0 ≤ (4 : Int) := (by omega); have q109 : 4 < (t101.length : Int) := of_decide_eq_true (by first | (with_reducible assumption) | assumption); obtain ⟨ad109, e109, hx109_0, hx109_1, hx109_2, hx109_3, hx109_4⟩ := at_T26 (Kd.R_reads' HO103.out).2.2 4 p109 q109; (try rw [← Nbq10.out] at hx109_3); (try rw [← Nbq10.out] at hx109_4); obtain rfl : ad107 = ad109 := (by injection e109); (try simp only [show (4 : Int).toNat = 4 from rfl, Nat.reduceMul, Nat.reduceEqDiff, Go.Addr.add, ↓reduceIte] at hx109_0); (try simp only [show (4 : Int).toNat = 4 from rfl, Nat.reduceMul, Nat.reduceEqDiff, Go.Addr.add, ↓reduceIte] at hx109_1); (try simp only [show (4 : Int).toNat = 4 from rfl, Nat.reduceMul, Nat.reduceEqDiff, Go.Addr.add, ↓reduceIte] at hx109_2); (try simp only [show (4 : Int).toNat = 4 from rfl, Nat.reduceMul, Nat.reduceEqDiff, Go.Addr.add, ↓reduceIte] at hx109_3); (try simp only [show (4 : Int).toNat = 4 from rfl, Nat.reduceMul, Nat.reduceEqDiff, Go.Addr.add, ↓reduceIte] at hx109_4); have qi109 : (4 < t101.length) = True := eq_true (by omega); (try rw [show ((4 : Int)).toNat = 4 from rfl] at hx109_0); (try rw [show 4 * 5 = 20 from rfl] at hx109_0); (try rw [show ((4 : Int)).toNat = 4 from rfl] at hx109_1); (try rw [show 4 * 5 = 20 from rfl] at hx109_1); (try rw [show ((4 : Int)).toNat = 4 from rfl] at hx109_2); (try rw [show 4 * 5 = 20 from rfl] at hx109_2); (try rw [show ((4 : Int)).toNat = 4 from rfl] at hx109_3); (try rw [show 4 * 5 = 20 from rfl] at hx109_3); (try rw [show ((4 : Int)).toNat = 4 from rfl] at hx109_4); (try rw [show 4 * 5 = 20 from rfl] at hx109_4); replace p109 := eq_true p109; replace q109 := eq_true q109; have p110 : 0 ≤ (4 : Int) := (by omega); have q110 : 4 < (t101.length : Int) := of_decide_eq_true (by first | (with_reducible assumption) | assumption); obtain ⟨ad110, e110, hx110_0, hx110_1, hx110_2, hx110_3, hx110_4⟩ := at_T26 (Kd.R_reads' HO103.out).2.2 4 p110 q110; (try rw [← Nbq10.out] at hx110_3); (try rw [← Nbq10.out] at hx110_4); obtain rfl : ad107 = ad110 := (by injection e110); (try simp only [show (4 : Int).toNat = 4 from rfl, Nat.reduceMul, Nat.reduceEqDiff, Go.Addr.add, ↓reduceIte] at hx110_0); (try simp only [show (4 : Int).toNat = 4 from rfl, Nat.reduceMul, Nat.reduceEqDiff, Go.Addr.add, ↓reduceIte] at hx110_1); (try simp only [show (4 : Int).toNat = 4 from rfl, Nat.reduceMul, Nat.reduceEqDiff, Go.Addr.add, ↓reduceIte] at hx110_2); (try simp only [show (4 : Int).toNat = 4 from rfl, Nat.reduceMul, Nat.reduceEqDiff, Go.Addr.add, ↓reduceIte] at hx110_3); (try simp only [show (4 : Int).toNat = 4 from rfl, Nat.reduceMul, Nat.reduceEqDiff, Go.Addr.add, ↓reduceIte] at hx110_4); have qi110 : (4 < t101.length) = True := eq_true (by omega); (try rw [show ((4 : Int)).toNat = 4 from rfl] at hx110_0); (try rw [show 4 * 5 = 20 from rfl] at hx110_0); (try rw [show ((4 : Int)).toNat = 4 from rfl] at hx110_1); (try rw [show 4 * 5 = 20 from rfl] at hx110_1); (try rw [show ((4 : Int)).toNat = 4 from rfl] at hx110_2); (try rw [show 4 * 5 = 20 from rfl] at hx110_2); (try rw [show ((4 : Int)).toNat = 4 from rfl] at hx110_3); (try rw [show 4 * 5 = 20 from rfl] at hx110_3); (try rw [show ((4 : Int)).toNat = 4 from rfl] at hx110_4); (try rw [show 4 * 5 = 20 from rfl] at hx110_4); replace p110 := eq_true p110; replace q110 := eq_true q110; have p111 : 0 ≤ (4 : Int) := (by omega); have q111 : 4 < (t101.length : Int) := of_decide_eq_true (by first | (with_reducible assumption) | assumption); obtain ⟨ad111, e111, hx111_0, hx111_1, hx111_2, hx111_3, hx111_4⟩ := at_T26 (Kd.R_reads' HO103.out).2.2 4 p111 q111; (try rw [← Nbq10.out] at hx111_3); (try rw [← Nbq10.out] at hx111_4); obtain rfl : ad107 = ad111 := (by injection e111); (try simp only [show (4 : Int).toNat = 4 from rfl, Nat.reduceMul, Nat.reduceEqDiff, Go.Addr.add, ↓reduceIte] at hx111_0); (try simp only [show (4 : Int).toNat = 4 from rfl, Nat.reduceMul, Nat.reduceEqDiff, Go.Addr.add, ↓reduceIte] at hx111_1); (try simp only [show (4 : Int).toNat = 4 from rfl, Nat.reduceMul, Nat.reduceEqDiff, Go.Addr.add, ↓reduceIte] at hx111_2); (try simp only [show (4 : Int).toNat = 4 from rfl, Nat.reduceMul, Nat.reduceEqDiff, Go.Addr.add, ↓reduceIte] at hx111_3); (try simp only [show (4 : Int).toNat = 4 from rfl, Nat.reduceMul, Nat.reduceEqDiff, Go.Addr.add, ↓reduceIte] at hx111_4); have qi111 : (4 < t101.length) = True := eq_true (by omega); (try rw [show ((4 : Int)).toNat = 4 from rfl] at hx111_0); (try rw [show 4 * 5 = 20 from rfl] at hx111_0); (try rw [show ((4 : Int)).toNat = 4 from rfl] at hx111_1); (try rw [show 4 * 5 = 20 from rfl] at hx111_1); (try rw [show ((4 : Int)).toNat = 4 from rfl] at hx111_2); (try rw [show 4 * 5 = 20 from rfl] at hx111_2); (try rw [show ((4 : Int)).toNat = 4 from rfl] at hx111_3); (try rw [show 4 * 5 = 20 from rfl] at hx111_3); (try rw [show ((4 : Int)).toNat = 4 from rfl] at hx111_4); (try rw [show 4 * 5 = 20 from rfl] at hx111_4); replace p111 := eq_true p111; replace q111 := eq_true q111; obtain ⟨Ao33, co33, eo33⟩ := Kd.R_slice HO106.out; subst eo33; have p112 : 0 ≤ (0 : Int) := (by omega); have q112 : 0 < (t104.length : Int) := of_decide_eq_true (by first | (with_reducible assumption) | assumption); obtain ⟨ad112, e112, hx112_0, hx112_1, hx112_2, hx112_3, hx112_4⟩ := at_T26 (Kd.R_reads' HO106.out).2.2 0 p112 q112; (try rw [← Nbq10.out] at hx112_3); (try rw [← Nbq10.out] at hx112_4); cases e112; have qi112 : (0 < t104.length) = True := eq_true (by omega); (try rw [show ((0 : Int)).toNat = 0 from rfl] at hx112_0); (try rw [show 0 * 5 = 0 from rfl] at hx112_0); (try rw [Addr.add_zero'] at hx112_0); (try rw [show ((0 : Int)).toNat = 0 from rfl] at hx112_1); (try rw [show 0 * 5 = 0 from rfl] at hx112_1); (try rw [Addr.add_zero'] at hx112_1); (try rw [show ((0 : Int)).toNat = 0 from rfl] at hx112_2); (try rw [show 0 * 5 = 0 from rfl] at hx112_2); (try rw [Addr.add_zero'] at hx112_2); (try rw [show ((0 : Int)).toNat = 0 from rfl] at hx112_3); (try rw [show 0 * 5 = 0 from rfl] at hx112_3); (try rw [Addr.add_zero'] at hx112_3); (try rw [show ((0 : Int)).toNat = 0 from rfl] at hx112_4); (try rw [show 0 * 5 = 0 from rfl] at hx112_4); (try rw [Addr.add_zero'] at hx112_4); replace p112 := eq_true p112; replace q112 := eq_true q112))
                        go_ret
                        exact ⟨by first | rfl | (simp [errW_none, errW_some] <;> rfl) | (simp [*, errW_none, errW_some] <;> rfl), by repeat (first | (with_reducible first | exact HB.out | apply below_alloc | apply pw_below_drewN | apply below_drew1) | exact HB.out)⟩
                    · rw [if_neg c16] at H
                      exact absurd H (by simp)
                  · rw [if_neg c15] at H
                    have c15b0 : ((t104.length : Int) == 2) = false := beq_eq_false_iff_ne.mpr c15
                    have c15b1 : ((t104.length : Int) != 2) = true := bne_iff_ne.mpr c15
                    obtain rfl := Option.some.inj H
                    go_enter Tryd.func9, Tryd.ntmps9
                    go_wp2_with (first | ((with_reducible refine gate_callee (f := 10) rfl ?_); refine goesL_ (some 3) rfl rfl Tryd.func10 (by kernel_rfl) rfl #[.string (⟨#[97, 123, 98, 58, 49, 46, 53, 101, 109, 125]⟩ : ByteArray)] rfl (by (try simp only [List.map_toArray, List.map_cons, List.map_nil]); first | done | rfl | (simp only [List.length_drop, List.length_take]; rfl)) ?_; (with_reducible refine (gouachelaw02_cut.calls (⟨#[97, 123, 98, 58, 49, 46, 53, 101, 109, 125]⟩ : ByteArray) t101 _ A1.out).mono ?_); rintro e w34 ⟨v102, rfl, ho0, hb⟩; refine ⟨_, rfl, ?_⟩; have n0_ := Aside0.mk (Kd.R_lower ho0 (below_size (by repeat (first | (with_reducible first | exact HB.out | apply below_alloc | apply pw_below_drewN | apply below_drew1) | exact HB.out)))); have n1_ := Aside0.mk (below_step (by repeat (first | (with_reducible first | exact HB.out | apply below_alloc | apply pw_below_drewN | apply below_drew1) | exact HB.out)) hb); clear HB; have HO103 := n0_; have HB := n1_; clear n0_ n1_; (try clear hb); (try clear hb2); (try clear hk); (try clear hi); (try clear ho0)) | ((with_reducible refine gate_callee (f := 10) rfl ?_); refine goesL_ (some 4) rfl rfl Tryd.func10 (by kernel_rfl) rfl #[.string (⟨#[34, 97, 10]⟩ : ByteArray)] rfl (by (try simp only [List.map_toArray, List.map_cons, List.map_nil]); first | done | rfl | (simp only [List.length_drop, List.length_take]; rfl)) ?_; (with_reducible refine (gouachelaw02_cut.calls (⟨#[34, 97, 10]⟩ : ByteArray) t104 _ A2.out).mono ?_); rintro e w35 ⟨v105, rfl, ho0, hb⟩; refine ⟨_, rfl, ?_⟩; have n0_ := Aside0.mk (Kd.R_elder' (by (with_reducible repeat (first | apply Kd.R_alloc | apply Kd.R_drewN | apply Kd.R_drew)); exact HO103.out) (Kd.R_base ho0) hb); have n1_ := Aside0.mk (Kd.R_lower (Kd.R_new' ho0 (Kd.R_lt (by (with_reducible repeat (first | apply Kd.R_alloc | apply Kd.R_drewN | apply Kd.R_drew)); exact HO103.out))) (below_size (by repeat (first | (with_reducible first | exact HB.out | apply below_alloc | apply pw_below_drewN | apply below_drew1) | exact HB.out)))); have n2_ := Aside0.mk (below_step (by repeat (first | (with_reducible first | exact HB.out | apply below_alloc | apply pw_below_drewN | apply below_drew1) | exact HB.out)) hb); clear HO103; clear HB; have HO103 := n0_; have HO106 := n1_; have HB := n2_; clear n0_ n1_ n2_; (try clear hb); (try clear hb2); (try clear hk); (try clear hi); (try clear ho0); obtain ⟨Ao36, co36, eo36⟩ := Kd.R_slice HO103.out; subst eo36; have p107 : 0 ≤ (0 : Int) := (by omega); have q107 : 0 < (t101.length : Int) := of_decide_eq_true (by first | (with_reducible assumption) | assumption); obtain ⟨ad107, e107, hx107_0, hx107_1, hx107_2, hx107_3, hx107_4⟩ := at_T26 (Kd.R_reads' HO103.out).2.2 0 p107 q107; (try rw [← Nbq10.out] at hx107_3); (try rw [← Nbq10.out] at hx107_4); cases e107; have qi107 : (0 < t101.length) = True := eq_true (by omega); (try rw [show ((0 : Int)).toNat = 0 from rfl] at hx107_0); (try rw [show 0 * 5 = 0 from rfl] at hx107_0); (try rw [Addr.add_zero'] at hx107_0); (try rw [show ((0 : Int)).toNat = 0 from rfl] at hx107_1); (try rw [show 0 * 5 = 0 from rfl] at hx107_1); (try rw [Addr.add_zero'] at hx107_1); (try rw [show ((0 : Int)).toNat = 0 from rfl] at hx107_2); (try rw [show 0 * 5 = 0 from rfl] at hx107_2); (try rw [Addr.add_zero'] at hx107_2); (try rw [show ((0 : Int)).toNat = 0 from rfl] at hx107_3); (try rw [show 0 * 5 = 0 from rfl] at hx107_3); (try rw [Addr.add_zero'] at hx107_3); (try rw [show ((0 : Int)).toNat = 0 from rfl] at hx107_4); (try rw [show 0 * 5 = 0 from rfl] at hx107_4); (try rw [Addr.add_zero'] at hx107_4); replace p107 := eq_true p107; replace q107 := eq_true q107; have p108 : 0 ≤ (4 : Int) := (by omega); have q108 : 4 < (t101.length : Int) := of_decide_eq_true (by first | (with_reducible assumption) | assumption); obtain ⟨ad108, e108, hx108_0, hx108_1, hx108_2, hx108_3, hx108_4⟩ := at_T26 (Kd.R_reads' HO103.out).2.2 4 p108 q108; (try rw [← Nbq10.out] at hx108_3); (try rw [← Nbq10.out] at hx108_4); obtain rfl : ad107 = ad108 := (by injection e108); (try simp only [show (4 : Int).toNat = 4 from rfl, Nat.reduceMul, Nat.reduceEqDiff, Go.Addr.add, ↓reduceIte] at hx108_0); (try simp only [show (4 : Int).toNat = 4 from rfl, Nat.reduceMul, Nat.reduceEqDiff, Go.Addr.add, ↓reduceIte] at hx108_1); (try simp only [show (4 : Int).toNat = 4 from rfl, Nat.reduceMul, Nat.reduceEqDiff, Go.Addr.add, ↓reduceIte] at hx108_2); (try simp only [show (4 : Int).toNat = 4 from rfl, Nat.reduceMul, Nat.reduceEqDiff, Go.Addr.add, ↓reduceIte] at hx108_3); (try simp only [show (4 : Int).toNat = 4 from rfl, Nat.reduceMul, Nat.reduceEqDiff, Go.Addr.add, ↓reduceIte] at hx108_4); have qi108 : (4 < t101.length) = True := eq_true (by omega); (try rw [show ((4 : Int)).toNat = 4 from rfl] at hx108_0); (try rw [show 4 * 5 = 20 from rfl] at hx108_0); (try rw [show ((4 : Int)).toNat = 4 from rfl] at hx108_1); (try rw [show 4 * 5 = 20 from rfl] at hx108_1); (try rw [show ((4 : Int)).toNat = 4 from rfl] at hx108_2); (try rw [show 4 * 5 = 20 from rfl] at hx108_2); (try rw [show ((4 : Int)).toNat = 4 from rfl] at hx108_3); (try rw [show 4 * 5 = 20 from rfl] at hx108_3); (try rw [show ((4 : Int)).toNat = 4 from rfl] at hx108_4); (try rw [show 4 * 5 = 20 from rfl] at hx108_4); replace p108 := eq_true p108; replace q108 := eq_true q108; have p109 : 0 ≤ (4 : Int) := (by omega); have q109 : 4 < (t101.length : Int) := of_decide_eq_true (by first | (with_reducible assumption) | assumption); obtain ⟨ad109, e109, hx109_0, hx109_1, hx109_2, hx109_3, hx109_4⟩ := at_T26 (Kd.R_reads' HO103.out).2.2 4 p109 q109; (try rw [← Nbq10.out] at hx109_3); (try rw [← Nbq10.out] at hx109_4); obtain rfl : ad107 = ad109 := (by injection e109); (try simp only [show (4 : Int).toNat = 4 from rfl, Nat.reduceMul, Nat.reduceEqDiff, Go.Addr.add, ↓reduceIte] at hx109_0); (try simp only [show (4 : Int).toNat = 4 from rfl, Nat.reduceMul, Nat.reduceEqDiff, Go.Addr.add, ↓reduceIte] at hx109_1); (try simp only [show (4 : Int).toNat = 4 from rfl, Nat.reduceMul, Nat.reduceEqDiff, Go.Addr.add, ↓reduceIte] at hx109_2); (try simp only [show (4 : Int).toNat = 4 from rfl, Nat.reduceMul, Nat.reduceEqDiff, Go.Addr.add, ↓reduceIte] at hx109_3); (try simp only [show (4 : Int).toNat = 4 from rfl, Nat.reduceMul, Nat.reduceEqDiff, Go.Addr.add, ↓reduceIte] at hx109_4); have qi109 : (4 < t101.length) = True := eq_true (by omega); (try rw [show ((4 : Int)).toNat = 4 from rfl] at hx109_0); (try rw [show 4 * 5 = 20 from rfl] at hx109_0); (try rw [show ((4 : Int)).toNat = 4 from rfl] at hx109_1); (try rw [show 4 * 5 = 20 from rfl] at hx109_1); (try rw [show ((4 : Int)).toNat = 4 from rfl] at hx109_2); (try rw [show 4 * 5 = 20 from rfl] at hx109_2); (try rw [show ((4 : Int)).toNat = 4 from rfl] at hx109_3); (try rw [show 4 * 5 = 20 from rfl] at hx109_3); (try rw [show ((4 : Int)).toNat = 4 from rfl] at hx109_4); (try rw [show 4 * 5 = 20 from rfl] at hx109_4); replace p109 := eq_true p109; replace q109 := eq_true q109; have p110 : 0 ≤ (4 : Int) := (by omega); have q110 : 4 < (t101.length : Int) := of_decide_eq_true (by first | (with_reducible assumption) | assumption); obtain ⟨ad110, e110, hx110_0, hx110_1, hx110_2, hx110_3, hx110_4⟩ := at_T26 (Kd.R_reads' HO103.out).2.2 4 p110 q110; (try rw [← Nbq10.out] at hx110_3); (try rw [← Nbq10.out] at hx110_4); obtain rfl : ad107 = ad110 := (by injection e110); (try simp only [show (4 : Int).toNat = 4 from rfl, Nat.reduceMul, Nat.reduceEqDiff, Go.Addr.add, ↓reduceIte] at hx110_0); (try simp only [show (4 : Int).toNat = 4 from rfl, Nat.reduceMul, Nat.reduceEqDiff, Go.Addr.add, ↓reduceIte] at hx110_1); (try simp only [show (4 : Int).toNat = 4 from rfl, Nat.reduceMul, Nat.reduceEqDiff, Go.Addr.add, ↓reduceIte] at hx110_2); (try simp only [show (4 : Int).toNat = 4 from rfl, Nat.reduceMul, Nat.reduceEqDiff, Go.Addr.add, ↓reduceIte] at hx110_3); (try simp only [show (4 : Int).toNat = 4 from rfl, Nat.reduceMul, Nat.reduceEqDiff, Go.Addr.add, ↓reduceIte] at hx110_4); have qi110 : (4 < t101.length) = True := eq_true (by omega); (try rw [show ((4 : Int)).toNat = 4 from rfl] at hx110_0); (try rw [show 4 * 5 = 20 from rfl] at hx110_0); (try rw [show ((4 : Int)).toNat = 4 from rfl] at hx110_1); (try rw [show 4 * 5 = 20 from rfl] at hx110_1); (try rw [show ((4 : Int)).toNat = 4 from rfl] at hx110_2); (try rw [show 4 * 5 = 20 from rfl] at hx110_2); (try rw [show ((4 : Int)).toNat = 4 from rfl] at hx110_3); (try rw [show 4 * 5 = 20 from rfl] at hx110_3); (try rw [show ((4 : Int)).toNat = 4 from rfl] at hx110_4); (try rw [show 4 * 5 = 20 from rfl] at hx110_4); replace p110 := eq_true p110; replace q110 := eq_true q110; have p111 : 0 ≤ (4 : Int) := (by omega); have q111 : 4 < (t101.length : Int) := of_decide_eq_true (by first | (with_reducible assumption) | assumption); obtain ⟨ad111, e111, hx111_0, hx111_1, hx111_2, hx111_3, hx111_4⟩ := at_T26 (Kd.R_reads' HO103.out).2.2 4 p111 q111; (try rw [← Nbq10.out] at hx111_3); (try rw [← Nbq10.out] at hx111_4); obtain rfl : ad107 = ad111 := (by injection e111); (try simp only [show (4 : Int).toNat = 4 from rfl, Nat.reduceMul, Nat.reduceEqDiff, Go.Addr.add, ↓reduceIte] at hx111_0); (try simp only [show (4 : Int).toNat = 4 from rfl, Nat.reduceMul, Nat.reduceEqDiff, Go.Addr.add, ↓reduceIte] at hx111_1); (try simp only [show (4 : Int).toNat = 4 from rfl, Nat.reduceMul, Nat.reduceEqDiff, Go.Addr.add, ↓reduceIte] at hx111_2); (try simp only [show (4 : Int).toNat = 4 from rfl, Nat.reduceMul, Nat.reduceEqDiff, Go.Addr.add, ↓reduceIte] at hx111_3); (try simp only [show (4 : Int).toNat = 4 from rfl, Nat.reduceMul, Nat.reduceEqDiff, Go.Addr.add, ↓reduceIte] at hx111_4); have qi111 : (4 < t101.length) = True := eq_true (by omega); (try rw [show ((4 : Int)).toNat = 4 from rfl] at hx111_0); (try rw [show 4 * 5 = 20 from rfl] at hx111_0); (try rw [show ((4 : Int)).toNat = 4 from rfl] at hx111_1); (try rw [show 4 * 5 = 20 from rfl] at hx111_1); (try rw [show ((4 : Int)).toNat = 4 from rfl] at hx111_2); (try rw [show 4 * 5 = 20 from rfl] at hx111_2); (try rw [show ((4 : Int)).toNat = 4 from rfl] at hx111_3); (try rw [show 4 * 5 = 20 from rfl] at hx111_3); (try rw [show ((4 : Int)).toNat = 4 from rfl] at hx111_4); (try rw [show 4 * 5 = 20 from rfl] at hx111_4); replace p111 := eq_true p111; replace q111 := eq_true q111; obtain ⟨Ao37, co37, eo37⟩ := Kd.R_slice HO106.out; subst eo37))
                    go_ret
                    exact ⟨by first | rfl | (simp [errW_none, errW_some] <;> rfl) | (simp [*, errW_none, errW_some] <;> rfl), by repeat (first | (with_reducible first | exact HB.out | apply below_alloc | apply pw_below_drewN | apply below_drew1) | exact HB.out)⟩
              · rw [if_neg c9] at H
                have c9b0 : (((rd_T26 t101 4).f2).toList == ([101, 109] : List UInt8)) = false := beq_eq_false_iff_ne.mpr c9
                have c9b1 : (((rd_T26 t101 4).f2).toList != ([101, 109] : List UInt8)) = true := bne_iff_ne.mpr c9
                obtain rfl := Option.some.inj H
                go_enter Tryd.func9, Tryd.ntmps9
                go_wp2_with (first | ((with_reducible refine gate_callee (f := 10) rfl ?_); refine goesL_ (some 3) rfl rfl Tryd.func10 (by kernel_rfl) rfl #[.string (⟨#[97, 123, 98, 58, 49, 46, 53, 101, 109, 125]⟩ : ByteArray)] rfl (by (try simp only [List.map_toArray, List.map_cons, List.map_nil]); first | done | rfl | (simp only [List.length_drop, List.length_take]; rfl)) ?_; (with_reducible refine (gouachelaw02_cut.calls (⟨#[97, 123, 98, 58, 49, 46, 53, 101, 109, 125]⟩ : ByteArray) t101 _ A1.out).mono ?_); rintro e w38 ⟨v102, rfl, ho0, hb⟩; refine ⟨_, rfl, ?_⟩; have n0_ := Aside0.mk (Kd.R_lower ho0 (below_size (by repeat (first | (with_reducible first | exact HB.out | apply below_alloc | apply pw_below_drewN | apply below_drew1) | exact HB.out)))); have n1_ := Aside0.mk (below_step (by repeat (first | (with_reducible first | exact HB.out | apply below_alloc | apply pw_below_drewN | apply below_drew1) | exact HB.out)) hb); clear HB; have HO103 := n0_; have HB := n1_; clear n0_ n1_; (try clear hb); (try clear hb2); (try clear hk); (try clear hi); (try clear ho0)) | ((with_reducible refine gate_callee (f := 10) rfl ?_); refine goesL_ (some 4) rfl rfl Tryd.func10 (by kernel_rfl) rfl #[.string (⟨#[34, 97, 10]⟩ : ByteArray)] rfl (by (try simp only [List.map_toArray, List.map_cons, List.map_nil]); first | done | rfl | (simp only [List.length_drop, List.length_take]; rfl)) ?_; (with_reducible refine (gouachelaw02_cut.calls (⟨#[34, 97, 10]⟩ : ByteArray) t104 _ A2.out).mono ?_); rintro e w39 ⟨v105, rfl, ho0, hb⟩; refine ⟨_, rfl, ?_⟩; have n0_ := Aside0.mk (Kd.R_elder' (by (with_reducible repeat (first | apply Kd.R_alloc | apply Kd.R_drewN | apply Kd.R_drew)); exact HO103.out) (Kd.R_base ho0) hb); have n1_ := Aside0.mk (Kd.R_lower (Kd.R_new' ho0 (Kd.R_lt (by (with_reducible repeat (first | apply Kd.R_alloc | apply Kd.R_drewN | apply Kd.R_drew)); exact HO103.out))) (below_size (by repeat (first | (with_reducible first | exact HB.out | apply below_alloc | apply pw_below_drewN | apply below_drew1) | exact HB.out)))); have n2_ := Aside0.mk (below_step (by repeat (first | (with_reducible first | exact HB.out | apply below_alloc | apply pw_below_drewN | apply below_drew1) | exact HB.out)) hb); clear HO103; clear HB; have HO103 := n0_; have HO106 := n1_; have HB := n2_; clear n0_ n1_ n2_; (try clear hb); (try clear hb2); (try clear hk); (try clear hi); (try clear ho0); obtain ⟨Ao40, co40, eo40⟩ := Kd.R_slice HO103.out; subst eo40; have p107 : 0 ≤ (0 : Int) := (by omega); have q107 : 0 < (t101.length : Int) := of_decide_eq_true (by first | (with_reducible assumption) | assumption); obtain ⟨ad107, e107, hx107_0, hx107_1, hx107_2, hx107_3, hx107_4⟩ := at_T26 (Kd.R_reads' HO103.out).2.2 0 p107 q107; cases e107; have qi107 : (0 < t101.length) = True := eq_true (by omega); (try rw [show ((0 : Int)).toNat = 0 from rfl] at hx107_0); (try rw [show 0 * 5 = 0 from rfl] at hx107_0); (try rw [Addr.add_zero'] at hx107_0); (try rw [show ((0 : Int)).toNat = 0 from rfl] at hx107_1); (try rw [show 0 * 5 = 0 from rfl] at hx107_1); (try rw [Addr.add_zero'] at hx107_1); (try rw [show ((0 : Int)).toNat = 0 from rfl] at hx107_2); (try rw [show 0 * 5 = 0 from rfl] at hx107_2); (try rw [Addr.add_zero'] at hx107_2); (try rw [show ((0 : Int)).toNat = 0 from rfl] at hx107_3); (try rw [show 0 * 5 = 0 from rfl] at hx107_3); (try rw [Addr.add_zero'] at hx107_3); (try rw [show ((0 : Int)).toNat = 0 from rfl] at hx107_4); (try rw [show 0 * 5 = 0 from rfl] at hx107_4); (try rw [Addr.add_zero'] at hx107_4); replace p107 := eq_true p107; replace q107 := eq_true q107; have p108 : 0 ≤ (4 : Int) := (by omega); have q108 : 4 < (t101.length : Int) := of_decide_eq_true (by first | (with_reducible assumption) | assumption); obtain ⟨ad108, e108, hx108_0, hx108_1, hx108_2, hx108_3, hx108_4⟩ := at_T26 (Kd.R_reads' HO103.out).2.2 4 p108 q108; obtain rfl : ad107 = ad108 := (by injection e108); (try simp only [show (4 : Int).toNat = 4 from rfl, Nat.reduceMul, Nat.reduceEqDiff, Go.Addr.add, ↓reduceIte] at hx108_0); (try simp only [show (4 : Int).toNat = 4 from rfl, Nat.reduceMul, Nat.reduceEqDiff, Go.Addr.add, ↓reduceIte] at hx108_1); (try simp only [show (4 : Int).toNat = 4 from rfl, Nat.reduceMul, Nat.reduceEqDiff, Go.Addr.add, ↓reduceIte] at hx108_2); (try simp only [show (4 : Int).toNat = 4 from rfl, Nat.reduceMul, Nat.reduceEqDiff, Go.Addr.add, ↓reduceIte] at hx108_3); (try simp only [show (4 : Int).toNat = 4 from rfl, Nat.reduceMul, Nat.reduceEqDiff, Go.Addr.add, ↓reduceIte] at hx108_4); have qi108 : (4 < t101.length) = True := eq_true (by omega); (try rw [show ((4 : Int)).toNat = 4 from rfl] at hx108_0); (try rw [show 4 * 5 = 20 from rfl] at hx108_0); (try rw [show ((4 : Int)).toNat = 4 from rfl] at hx108_1); (try rw [show 4 * 5 = 20 from rfl] at hx108_1); (try rw [show ((4 : Int)).toNat = 4 from rfl] at hx108_2); (try rw [show 4 * 5 = 20 from rfl] at hx108_2); (try rw [show ((4 : Int)).toNat = 4 from rfl] at hx108_3); (try rw [show 4 * 5 = 20 from rfl] at hx108_3); (try rw [show ((4 : Int)).toNat = 4 from rfl] at hx108_4); (try rw [show 4 * 5 = 20 from rfl] at hx108_4); replace p108 := eq_true p108; replace q108 := eq_true q108; have p109 : 0 ≤ (4 : Int) := (by omega); have q109 : 4 < (t101.length : Int) := of_decide_eq_true (by first | (with_reducible assumption) | assumption); obtain ⟨ad109, e109, hx109_0, hx109_1, hx109_2, hx109_3, hx109_4⟩ := at_T26 (Kd.R_reads' HO103.out).2.2 4 p109 q109; obtain rfl : ad107 = ad109 := (by injection e109); (try simp only [show (4 : Int).toNat = 4 from rfl, Nat.reduceMul, Nat.reduceEqDiff, Go.Addr.add, ↓reduceIte] at hx109_0); (try simp only [show (4 : Int).toNat = 4 from rfl, Nat.reduceMul, Nat.reduceEqDiff, Go.Addr.add, ↓reduceIte] at hx109_1); (try simp only [show (4 : Int).toNat = 4 from rfl, Nat.reduceMul, Nat.reduceEqDiff, Go.Addr.add, ↓reduceIte] at hx109_2); (try simp only [show (4 : Int).toNat = 4 from rfl, Nat.reduceMul, Nat.reduceEqDiff, Go.Addr.add, ↓reduceIte] at hx109_3); (try simp only [show (4 : Int).toNat = 4 from rfl, Nat.reduceMul, Nat.reduceEqDiff, Go.Addr.add, ↓reduceIte] at hx109_4); have qi109 : (4 < t101.length) = True := eq_true (by omega); (try rw [show ((4 : Int)).toNat = 4 from rfl] at hx109_0); (try rw [show 4 * 5 = 20 from rfl] at hx109_0); (try rw [show ((4 : Int)).toNat = 4 from rfl] at hx109_1); (try rw [show 4 * 5 = 20 from rfl] at hx109_1); (try rw [show ((4 : Int)).toNat = 4 from rfl] at hx109_2); (try rw [show 4 * 5 = 20 from rfl] at hx109_2); (try rw [show ((4 : Int)).toNat = 4 from rfl] at hx109_3); (try rw [show 4 * 5 = 20 from rfl] at hx109_3); (try rw [show ((4 : Int)).toNat = 4 from rfl] at hx109_4); (try rw [show 4 * 5 = 20 from rfl] at hx109_4); replace p109 := eq_true p109; replace q109 := eq_true q109; have p110 : 0 ≤ (4 : Int) := (by omega); have q110 : 4 < (t101.length : Int) := of_decide_eq_true (by first | (with_reducible assumption) | assumption); obtain ⟨ad110, e110, hx110_0, hx110_1, hx110_2, hx110_3, hx110_4⟩ := at_T26 (Kd.R_reads' HO103.out).2.2 4 p110 q110; obtain rfl : ad107 = ad110 := (by injection e110); (try simp only [show (4 : Int).toNat = 4 from rfl, Nat.reduceMul, Nat.reduceEqDiff, Go.Addr.add, ↓reduceIte] at hx110_0); (try simp only [show (4 : Int).toNat = 4 from rfl, Nat.reduceMul, Nat.reduceEqDiff, Go.Addr.add, ↓reduceIte] at hx110_1); (try simp only [show (4 : Int).toNat = 4 from rfl, Nat.reduceMul, Nat.reduceEqDiff, Go.Addr.add, ↓reduceIte] at hx110_2); (try simp only [show (4 : Int).toNat = 4 from rfl, Nat.reduceMul, Nat.reduceEqDiff, Go.Addr.add, ↓reduceIte] at hx110_3); (try simp only [show (4 : Int).toNat = 4 from rfl, Nat.reduceMul, Nat.reduceEqDiff, Go.Addr.add, ↓reduceIte] at hx110_4); have qi110 : (4 < t101.length) = True := eq_true (by omega); (try rw [show ((4 : Int)).toNat = 4 from rfl] at hx110_0); (try rw [show 4 * 5 = 20 from rfl] at hx110_0); (try rw [show ((4 : Int)).toNat = 4 from rfl] at hx110_1); (try rw [show 4 * 5 = 20 from rfl] at hx110_1); (try rw [show ((4 : Int)).toNat = 4 from rfl] at hx110_2); (try rw [show 4 * 5 = 20 from rfl] at hx110_2); (try rw [show ((4 : Int)).toNat = 4 from rfl] at hx110_3); (try rw [show 4 * 5 = 20 from rfl] at hx110_3); (try rw [show ((4 : Int)).toNat = 4 from rfl] at hx110_4); (try rw [show 4 * 5 = 20 from rfl] at hx110_4); replace p110 := eq_true p110; replace q110 := eq_true q110))
                go_ret
                exact ⟨by first | rfl | (simp [errW_none, errW_some] <;> rfl) | (simp [*, errW_none, errW_some] <;> rfl), by repeat (first | (with_reducible first | exact HB.out | apply below_alloc | apply pw_below_drewN | apply below_drew1) | exact HB.out)⟩
            · rw [if_neg c8] at H
              have c8b0 : (((rd_T26 t101 4).f1).toList == ([49, 46, 53] : List UInt8)) = false := beq_eq_false_iff_ne.mpr c8
              have c8b1 : (((rd_T26 t101 4).f1).toList != ([49, 46, 53] : List UInt8)) = true := bne_iff_ne.mpr c8
              obtain rfl := Option.some.inj H
              go_enter Tryd.func9, Tryd.ntmps9
              go_wp2_with (first | ((with_reducible refine gate_callee (f := 10) rfl ?_); refine goesL_ (some 3) rfl rfl Tryd.func10 (by kernel_rfl) rfl #[.string (⟨#[97, 123, 98, 58, 49, 46, 53, 101, 109, 125]⟩ : ByteArray)] rfl (by (try simp only [List.map_toArray, List.map_cons, List.map_nil]); first | done | rfl | (simp only [List.length_drop, List.length_take]; rfl)) ?_; (with_reducible refine (gouachelaw02_cut.calls (⟨#[97, 123, 98, 58, 49, 46, 53, 101, 109, 125]⟩ : ByteArray) t101 _ A1.out).mono ?_); rintro e w41 ⟨v102, rfl, ho0, hb⟩; refine ⟨_, rfl, ?_⟩; have n0_ := Aside0.mk (Kd.R_lower ho0 (below_size (by repeat (first | (with_reducible first | exact HB.out | apply below_alloc | apply pw_below_drewN | apply below_drew1) | exact HB.out)))); have n1_ := Aside0.mk (below_step (by repeat (first | (with_reducible first | exact HB.out | apply below_alloc | apply pw_below_drewN | apply below_drew1) | exact HB.out)) hb); clear HB; have HO103 := n0_; have HB := n1_; clear n0_ n1_; (try clear hb); (try clear hb2); (try clear hk); (try clear hi); (try clear ho0)) | ((with_reducible refine gate_callee (f := 10) rfl ?_); refine goesL_ (some 4) rfl rfl Tryd.func10 (by kernel_rfl) rfl #[.string (⟨#[34, 97, 10]⟩ : ByteArray)] rfl (by (try simp only [List.map_toArray, List.map_cons, List.map_nil]); first | done | rfl | (simp only [List.length_drop, List.length_take]; rfl)) ?_; (with_reducible refine (gouachelaw02_cut.calls (⟨#[34, 97, 10]⟩ : ByteArray) t104 _ A2.out).mono ?_); rintro e w42 ⟨v105, rfl, ho0, hb⟩; refine ⟨_, rfl, ?_⟩; have n0_ := Aside0.mk (Kd.R_elder' (by (with_reducible repeat (first | apply Kd.R_alloc | apply Kd.R_drewN | apply Kd.R_drew)); exact HO103.out) (Kd.R_base ho0) hb); have n1_ := Aside0.mk (Kd.R_lower (Kd.R_new' ho0 (Kd.R_lt (by (with_reducible repeat (first | apply Kd.R_alloc | apply Kd.R_drewN | apply Kd.R_drew)); exact HO103.out))) (below_size (by repeat (first | (with_reducible first | exact HB.out | apply below_alloc | apply pw_below_drewN | apply below_drew1) | exact HB.out)))); have n2_ := Aside0.mk (below_step (by repeat (first | (with_reducible first | exact HB.out | apply below_alloc | apply pw_below_drewN | apply below_drew1) | exact HB.out)) hb); clear HO103; clear HB; have HO103 := n0_; have HO106 := n1_; have HB := n2_; clear n0_ n1_ n2_; (try clear hb); (try clear hb2); (try clear hk); (try clear hi); (try clear ho0); obtain ⟨Ao43, co43, eo43⟩ := Kd.R_slice HO103.out; subst eo43; have p107 : 0 ≤ (0 : Int) := (by omega); have q107 : 0 < (t101.length : Int) := of_decide_eq_true (by first | (with_reducible assumption) | assumption); obtain ⟨ad107, e107, hx107_0, hx107_1, hx107_2, hx107_3, hx107_4⟩ := at_T26 (Kd.R_reads' HO103.out).2.2 0 p107 q107; cases e107; have qi107 : (0 < t101.length) = True := eq_true (by omega); (try rw [show ((0 : Int)).toNat = 0 from rfl] at hx107_0); (try rw [show 0 * 5 = 0 from rfl] at hx107_0); (try rw [Addr.add_zero'] at hx107_0); (try rw [show ((0 : Int)).toNat = 0 from rfl] at hx107_1); (try rw [show 0 * 5 = 0 from rfl] at hx107_1); (try rw [Addr.add_zero'] at hx107_1); (try rw [show ((0 : Int)).toNat = 0 from rfl] at hx107_2); (try rw [show 0 * 5 = 0 from rfl] at hx107_2); (try rw [Addr.add_zero'] at hx107_2); (try rw [show ((0 : Int)).toNat = 0 from rfl] at hx107_3); (try rw [show 0 * 5 = 0 from rfl] at hx107_3); (try rw [Addr.add_zero'] at hx107_3); (try rw [show ((0 : Int)).toNat = 0 from rfl] at hx107_4); (try rw [show 0 * 5 = 0 from rfl] at hx107_4); (try rw [Addr.add_zero'] at hx107_4); replace p107 := eq_true p107; replace q107 := eq_true q107; have p108 : 0 ≤ (4 : Int) := (by omega); have q108 : 4 < (t101.length : Int) := of_decide_eq_true (by first | (with_reducible assumption) | assumption); obtain ⟨ad108, e108, hx108_0, hx108_1, hx108_2, hx108_3, hx108_4⟩ := at_T26 (Kd.R_reads' HO103.out).2.2 4 p108 q108; obtain rfl : ad107 = ad108 := (by injection e108); (try simp only [show (4 : Int).toNat = 4 from rfl, Nat.reduceMul, Nat.reduceEqDiff, Go.Addr.add, ↓reduceIte] at hx108_0); (try simp only [show (4 : Int).toNat = 4 from rfl, Nat.reduceMul, Nat.reduceEqDiff, Go.Addr.add, ↓reduceIte] at hx108_1); (try simp only [show (4 : Int).toNat = 4 from rfl, Nat.reduceMul, Nat.reduceEqDiff, Go.Addr.add, ↓reduceIte] at hx108_2); (try simp only [show (4 : Int).toNat = 4 from rfl, Nat.reduceMul, Nat.reduceEqDiff, Go.Addr.add, ↓reduceIte] at hx108_3); (try simp only [show (4 : Int).toNat = 4 from rfl, Nat.reduceMul, Nat.reduceEqDiff, Go.Addr.add, ↓reduceIte] at hx108_4); have qi108 : (4 < t101.length) = True := eq_true (by omega); (try rw [show ((4 : Int)).toNat = 4 from rfl] at hx108_0); (try rw [show 4 * 5 = 20 from rfl] at hx108_0); (try rw [show ((4 : Int)).toNat = 4 from rfl] at hx108_1); (try rw [show 4 * 5 = 20 from rfl] at hx108_1); (try rw [show ((4 : Int)).toNat = 4 from rfl] at hx108_2); (try rw [show 4 * 5 = 20 from rfl] at hx108_2); (try rw [show ((4 : Int)).toNat = 4 from rfl] at hx108_3); (try rw [show 4 * 5 = 20 from rfl] at hx108_3); (try rw [show ((4 : Int)).toNat = 4 from rfl] at hx108_4); (try rw [show 4 * 5 = 20 from rfl] at hx108_4); replace p108 := eq_true p108; replace q108 := eq_true q108; have p109 : 0 ≤ (4 : Int) := (by omega); have q109 : 4 < (t101.length : Int) := of_decide_eq_true (by first | (with_reducible assumption) | assumption); obtain ⟨ad109, e109, hx109_0, hx109_1, hx109_2, hx109_3, hx109_4⟩ := at_T26 (Kd.R_reads' HO103.out).2.2 4 p109 q109; obtain rfl : ad107 = ad109 := (by injection e109); (try simp only [show (4 : Int).toNat = 4 from rfl, Nat.reduceMul, Nat.reduceEqDiff, Go.Addr.add, ↓reduceIte] at hx109_0); (try simp only [show (4 : Int).toNat = 4 from rfl, Nat.reduceMul, Nat.reduceEqDiff, Go.Addr.add, ↓reduceIte] at hx109_1); (try simp only [show (4 : Int).toNat = 4 from rfl, Nat.reduceMul, Nat.reduceEqDiff, Go.Addr.add, ↓reduceIte] at hx109_2); (try simp only [show (4 : Int).toNat = 4 from rfl, Nat.reduceMul, Nat.reduceEqDiff, Go.Addr.add, ↓reduceIte] at hx109_3); (try simp only [show (4 : Int).toNat = 4 from rfl, Nat.reduceMul, Nat.reduceEqDiff, Go.Addr.add, ↓reduceIte] at hx109_4); have qi109 : (4 < t101.length) = True := eq_true (by omega); (try rw [show ((4 : Int)).toNat = 4 from rfl] at hx109_0); (try rw [show 4 * 5 = 20 from rfl] at hx109_0); (try rw [show ((4 : Int)).toNat = 4 from rfl] at hx109_1); (try rw [show 4 * 5 = 20 from rfl] at hx109_1); (try rw [show ((4 : Int)).toNat = 4 from rfl] at hx109_2); (try rw [show 4 * 5 = 20 from rfl] at hx109_2); (try rw [show ((4 : Int)).toNat = 4 from rfl] at hx109_3); (try rw [show 4 * 5 = 20 from rfl] at hx109_3); (try rw [show ((4 : Int)).toNat = 4 from rfl] at hx109_4); (try rw [show 4 * 5 = 20 from rfl] at hx109_4); replace p109 := eq_true p109; replace q109 := eq_true q109))
              go_ret
              exact ⟨by first | rfl | (simp [errW_none, errW_some] <;> rfl) | (simp [*, errW_none, errW_some] <;> rfl), by repeat (first | (with_reducible first | exact HB.out | apply below_alloc | apply pw_below_drewN | apply below_drew1) | exact HB.out)⟩
          · rw [if_neg c7] at H
            have c7b0 : (((rd_T26 t101 4).f0) == 12) = false := beq_eq_false_iff_ne.mpr c7
            have c7b1 : (((rd_T26 t101 4).f0) != 12) = true := bne_iff_ne.mpr c7
            obtain rfl := Option.some.inj H
            go_enter Tryd.func9, Tryd.ntmps9
            go_wp2_with (first | ((with_reducible refine gate_callee (f := 10) rfl ?_); refine goesL_ (some 3) rfl rfl Tryd.func10 (by kernel_rfl) rfl #[.string (⟨#[97, 123, 98, 58, 49, 46, 53, 101, 109, 125]⟩ : ByteArray)] rfl (by (try simp only [List.map_toArray, List.map_cons, List.map_nil]); first | done | rfl | (simp only [List.length_drop, List.length_take]; rfl)) ?_; (with_reducible refine (gouachelaw02_cut.calls (⟨#[97, 123, 98, 58, 49, 46, 53, 101, 109, 125]⟩ : ByteArray) t101 _ A1.out).mono ?_); rintro e w44 ⟨v102, rfl, ho0, hb⟩; refine ⟨_, rfl, ?_⟩; have n0_ := Aside0.mk (Kd.R_lower ho0 (below_size (by repeat (first | (with_reducible first | exact HB.out | apply below_alloc | apply pw_below_drewN | apply below_drew1) | exact HB.out)))); have n1_ := Aside0.mk (below_step (by repeat (first | (with_reducible first | exact HB.out | apply below_alloc | apply pw_below_drewN | apply below_drew1) | exact HB.out)) hb); clear HB; have HO103 := n0_; have HB := n1_; clear n0_ n1_; (try clear hb); (try clear hb2); (try clear hk); (try clear hi); (try clear ho0)) | ((with_reducible refine gate_callee (f := 10) rfl ?_); refine goesL_ (some 4) rfl rfl Tryd.func10 (by kernel_rfl) rfl #[.string (⟨#[34, 97, 10]⟩ : ByteArray)] rfl (by (try simp only [List.map_toArray, List.map_cons, List.map_nil]); first | done | rfl | (simp only [List.length_drop, List.length_take]; rfl)) ?_; (with_reducible refine (gouachelaw02_cut.calls (⟨#[34, 97, 10]⟩ : ByteArray) t104 _ A2.out).mono ?_); rintro e w45 ⟨v105, rfl, ho0, hb⟩; refine ⟨_, rfl, ?_⟩; have n0_ := Aside0.mk (Kd.R_elder' (by (with_reducible repeat (first | apply Kd.R_alloc | apply Kd.R_drewN | apply Kd.R_drew)); exact HO103.out) (Kd.R_base ho0) hb); have n1_ := Aside0.mk (Kd.R_lower (Kd.R_new' ho0 (Kd.R_lt (by (with_reducible repeat (first | apply Kd.R_alloc | apply Kd.R_drewN | apply Kd.R_drew)); exact HO103.out))) (below_size (by repeat (first | (with_reducible first | exact HB.out | apply below_alloc | apply pw_below_drewN | apply below_drew1) | exact HB.out)))); have n2_ := Aside0.mk (below_step (by repeat (first | (with_reducible first | exact HB.out | apply below_alloc | apply pw_below_drewN | apply below_drew1) | exact HB.out)) hb); clear HO103; clear HB; have HO103 := n0_; have HO106 := n1_; have HB := n2_; clear n0_ n1_ n2_; (try clear hb); (try clear hb2); (try clear hk); (try clear hi); (try clear ho0); obtain ⟨Ao46, co46, eo46⟩ := Kd.R_slice HO103.out; subst eo46; have p107 : 0 ≤ (0 : Int) := (by omega); have q107 : 0 < (t101.length : Int) := of_decide_eq_true (by first | (with_reducible assumption) | assumption); obtain ⟨ad107, e107, hx107_0, hx107_1, hx107_2, hx107_3, hx107_4⟩ := at_T26 (Kd.R_reads' HO103.out).2.2 0 p107 q107; cases e107; have qi107 : (0 < t101.length) = True := eq_true (by omega); (try rw [show ((0 : Int)).toNat = 0 from rfl] at hx107_0); (try rw [show 0 * 5 = 0 from rfl] at hx107_0); (try rw [Addr.add_zero'] at hx107_0); (try rw [show ((0 : Int)).toNat = 0 from rfl] at hx107_1); (try rw [show 0 * 5 = 0 from rfl] at hx107_1); (try rw [Addr.add_zero'] at hx107_1); (try rw [show ((0 : Int)).toNat = 0 from rfl] at hx107_2); (try rw [show 0 * 5 = 0 from rfl] at hx107_2); (try rw [Addr.add_zero'] at hx107_2); (try rw [show ((0 : Int)).toNat = 0 from rfl] at hx107_3); (try rw [show 0 * 5 = 0 from rfl] at hx107_3); (try rw [Addr.add_zero'] at hx107_3); (try rw [show ((0 : Int)).toNat = 0 from rfl] at hx107_4); (try rw [show 0 * 5 = 0 from rfl] at hx107_4); (try rw [Addr.add_zero'] at hx107_4); replace p107 := eq_true p107; replace q107 := eq_true q107; have p108 : 0 ≤ (4 : Int) := (by omega); have q108 : 4 < (t101.length : Int) := of_decide_eq_true (by first | (with_reducible assumption) | assumption); obtain ⟨ad108, e108, hx108_0, hx108_1, hx108_2, hx108_3, hx108_4⟩ := at_T26 (Kd.R_reads' HO103.out).2.2 4 p108 q108; obtain rfl : ad107 = ad108 := (by injection e108); (try simp only [show (4 : Int).toNat = 4 from rfl, Nat.reduceMul, Nat.reduceEqDiff, Go.Addr.add, ↓reduceIte] at hx108_0); (try simp only [show (4 : Int).toNat = 4 from rfl, Nat.reduceMul, Nat.reduceEqDiff, Go.Addr.add, ↓reduceIte] at hx108_1); (try simp only [show (4 : Int).toNat = 4 from rfl, Nat.reduceMul, Nat.reduceEqDiff, Go.Addr.add, ↓reduceIte] at hx108_2); (try simp only [show (4 : Int).toNat = 4 from rfl, Nat.reduceMul, Nat.reduceEqDiff, Go.Addr.add, ↓reduceIte] at hx108_3); (try simp only [show (4 : Int).toNat = 4 from rfl, Nat.reduceMul, Nat.reduceEqDiff, Go.Addr.add, ↓reduceIte] at hx108_4); have qi108 : (4 < t101.length) = True := eq_true (by omega); (try rw [show ((4 : Int)).toNat = 4 from rfl] at hx108_0); (try rw [show 4 * 5 = 20 from rfl] at hx108_0); (try rw [show ((4 : Int)).toNat = 4 from rfl] at hx108_1); (try rw [show 4 * 5 = 20 from rfl] at hx108_1); (try rw [show ((4 : Int)).toNat = 4 from rfl] at hx108_2); (try rw [show 4 * 5 = 20 from rfl] at hx108_2); (try rw [show ((4 : Int)).toNat = 4 from rfl] at hx108_3); (try rw [show 4 * 5 = 20 from rfl] at hx108_3); (try rw [show ((4 : Int)).toNat = 4 from rfl] at hx108_4); (try rw [show 4 * 5 = 20 from rfl] at hx108_4); replace p108 := eq_true p108; replace q108 := eq_true q108))
            go_ret
            exact ⟨by first | rfl | (simp [errW_none, errW_some] <;> rfl) | (simp [*, errW_none, errW_some] <;> rfl), by repeat (first | (with_reducible first | exact HB.out | apply below_alloc | apply pw_below_drewN | apply below_drew1) | exact HB.out)⟩
        · rw [if_neg c6] at H
          exact absurd H (by simp)
      · rw [if_neg c5] at H
        have c5b0 : (((rd_T26 t101 0).f0) == 1) = false := beq_eq_false_iff_ne.mpr c5
        have c5b1 : (((rd_T26 t101 0).f0) != 1) = true := bne_iff_ne.mpr c5
        obtain rfl := Option.some.inj H
        go_enter Tryd.func9, Tryd.ntmps9
        go_wp2_with (first | ((with_reducible refine gate_callee (f := 10) rfl ?_); refine goesL_ (some 3) rfl rfl Tryd.func10 (by kernel_rfl) rfl #[.string (⟨#[97, 123, 98, 58, 49, 46, 53, 101, 109, 125]⟩ : ByteArray)] rfl (by (try simp only [List.map_toArray, List.map_cons, List.map_nil]); first | done | rfl | (simp only [List.length_drop, List.length_take]; rfl)) ?_; (with_reducible refine (gouachelaw02_cut.calls (⟨#[97, 123, 98, 58, 49, 46, 53, 101, 109, 125]⟩ : ByteArray) t101 _ A1.out).mono ?_); rintro e w47 ⟨v102, rfl, ho0, hb⟩; refine ⟨_, rfl, ?_⟩; have n0_ := Aside0.mk (Kd.R_lower ho0 (below_size (by repeat (first | (with_reducible first | exact HB.out | apply below_alloc | apply pw_below_drewN | apply below_drew1) | exact HB.out)))); have n1_ := Aside0.mk (below_step (by repeat (first | (with_reducible first | exact HB.out | apply below_alloc | apply pw_below_drewN | apply below_drew1) | exact HB.out)) hb); clear HB; have HO103 := n0_; have HB := n1_; clear n0_ n1_; (try clear hb); (try clear hb2); (try clear hk); (try clear hi); (try clear ho0)) | ((with_reducible refine gate_callee (f := 10) rfl ?_); refine goesL_ (some 4) rfl rfl Tryd.func10 (by kernel_rfl) rfl #[.string (⟨#[34, 97, 10]⟩ : ByteArray)] rfl (by (try simp only [List.map_toArray, List.map_cons, List.map_nil]); first | done | rfl | (simp only [List.length_drop, List.length_take]; rfl)) ?_; (with_reducible refine (gouachelaw02_cut.calls (⟨#[34, 97, 10]⟩ : ByteArray) t104 _ A2.out).mono ?_); rintro e w48 ⟨v105, rfl, ho0, hb⟩; refine ⟨_, rfl, ?_⟩; have n0_ := Aside0.mk (Kd.R_elder' (by (with_reducible repeat (first | apply Kd.R_alloc | apply Kd.R_drewN | apply Kd.R_drew)); exact HO103.out) (Kd.R_base ho0) hb); have n1_ := Aside0.mk (Kd.R_lower (Kd.R_new' ho0 (Kd.R_lt (by (with_reducible repeat (first | apply Kd.R_alloc | apply Kd.R_drewN | apply Kd.R_drew)); exact HO103.out))) (below_size (by repeat (first | (with_reducible first | exact HB.out | apply below_alloc | apply pw_below_drewN | apply below_drew1) | exact HB.out)))); have n2_ := Aside0.mk (below_step (by repeat (first | (with_reducible first | exact HB.out | apply below_alloc | apply pw_below_drewN | apply below_drew1) | exact HB.out)) hb); clear HO103; clear HB; have HO103 := n0_; have HO106 := n1_; have HB := n2_; clear n0_ n1_ n2_; (try clear hb); (try clear hb2); (try clear hk); (try clear hi); (try clear ho0); obtain ⟨Ao49, co49, eo49⟩ := Kd.R_slice HO103.out; subst eo49; have p107 : 0 ≤ (0 : Int) := (by omega); have q107 : 0 < (t101.length : Int) := of_decide_eq_true (by first | (with_reducible assumption) | assumption); obtain ⟨ad107, e107, hx107_0, hx107_1, hx107_2, hx107_3, hx107_4⟩ := at_T26 (Kd.R_reads' HO103.out).2.2 0 p107 q107; cases e107; have qi107 : (0 < t101.length) = True := eq_true (by omega); (try rw [show ((0 : Int)).toNat = 0 from rfl] at hx107_0); (try rw [show 0 * 5 = 0 from rfl] at hx107_0); (try rw [Addr.add_zero'] at hx107_0); (try rw [show ((0 : Int)).toNat = 0 from rfl] at hx107_1); (try rw [show 0 * 5 = 0 from rfl] at hx107_1); (try rw [Addr.add_zero'] at hx107_1); (try rw [show ((0 : Int)).toNat = 0 from rfl] at hx107_2); (try rw [show 0 * 5 = 0 from rfl] at hx107_2); (try rw [Addr.add_zero'] at hx107_2); (try rw [show ((0 : Int)).toNat = 0 from rfl] at hx107_3); (try rw [show 0 * 5 = 0 from rfl] at hx107_3); (try rw [Addr.add_zero'] at hx107_3); (try rw [show ((0 : Int)).toNat = 0 from rfl] at hx107_4); (try rw [show 0 * 5 = 0 from rfl] at hx107_4); (try rw [Addr.add_zero'] at hx107_4); replace p107 := eq_true p107; replace q107 := eq_true q107))
        go_ret
        exact ⟨by first | rfl | (simp [errW_none, errW_some] <;> rfl) | (simp [*, errW_none, errW_some] <;> rfl), by repeat (first | (with_reducible first | exact HB.out | apply below_alloc | apply pw_below_drewN | apply below_drew1) | exact HB.out)⟩
    · rw [if_neg c4] at H
      exact absurd H (by simp)
  · rw [if_neg c3] at H
    have c3b0 : ((t101.length : Int) == 6) = false := beq_eq_false_iff_ne.mpr c3
    have c3b1 : ((t101.length : Int) != 6) = true := bne_iff_ne.mpr c3
    obtain rfl := Option.some.inj H
    go_enter Tryd.func9, Tryd.ntmps9
    go_wp2_with (first | ((with_reducible refine gate_callee (f := 10) rfl ?_); refine goesL_ (some 3) rfl rfl Tryd.func10 (by kernel_rfl) rfl #[.string (⟨#[97, 123, 98, 58, 49, 46, 53, 101, 109, 125]⟩ : ByteArray)] rfl (by (try simp only [List.map_toArray, List.map_cons, List.map_nil]); first | done | rfl | (simp only [List.length_drop, List.length_take]; rfl)) ?_; (with_reducible refine (gouachelaw02_cut.calls (⟨#[97, 123, 98, 58, 49, 46, 53, 101, 109, 125]⟩ : ByteArray) t101 _ A1.out).mono ?_); rintro e w50 ⟨v102, rfl, ho0, hb⟩; refine ⟨_, rfl, ?_⟩; have n0_ := Aside0.mk (Kd.R_lower ho0 (below_size (by repeat (first | (with_reducible first | exact HB.out | apply below_alloc | apply pw_below_drewN | apply below_drew1) | exact HB.out)))); have n1_ := Aside0.mk (below_step (by repeat (first | (with_reducible first | exact HB.out | apply below_alloc | apply pw_below_drewN | apply below_drew1) | exact HB.out)) hb); clear HB; have HO103 := n0_; have HB := n1_; clear n0_ n1_; (try clear hb); (try clear hb2); (try clear hk); (try clear hi); (try clear ho0)) | ((with_reducible refine gate_callee (f := 10) rfl ?_); refine goesL_ (some 4) rfl rfl Tryd.func10 (by kernel_rfl) rfl #[.string (⟨#[34, 97, 10]⟩ : ByteArray)] rfl (by (try simp only [List.map_toArray, List.map_cons, List.map_nil]); first | done | rfl | (simp only [List.length_drop, List.length_take]; rfl)) ?_; (with_reducible refine (gouachelaw02_cut.calls (⟨#[34, 97, 10]⟩ : ByteArray) t104 _ A2.out).mono ?_); rintro e w51 ⟨v105, rfl, ho0, hb⟩; refine ⟨_, rfl, ?_⟩; have n0_ := Aside0.mk (Kd.R_elder' (by (with_reducible repeat (first | apply Kd.R_alloc | apply Kd.R_drewN | apply Kd.R_drew)); exact HO103.out) (Kd.R_base ho0) hb); have n1_ := Aside0.mk (Kd.R_lower (Kd.R_new' ho0 (Kd.R_lt (by (with_reducible repeat (first | apply Kd.R_alloc | apply Kd.R_drewN | apply Kd.R_drew)); exact HO103.out))) (below_size (by repeat (first | (with_reducible first | exact HB.out | apply below_alloc | apply pw_below_drewN | apply below_drew1) | exact HB.out)))); have n2_ := Aside0.mk (below_step (by repeat (first | (with_reducible first | exact HB.out | apply below_alloc | apply pw_below_drewN | apply below_drew1) | exact HB.out)) hb); clear HO103; clear HB; have HO103 := n0_; have HO106 := n1_; have HB := n2_; clear n0_ n1_ n2_; (try clear hb); (try clear hb2); (try clear hk); (try clear hi); (try clear ho0); obtain ⟨Ao52, co52, eo52⟩ := Kd.R_slice HO103.out; subst eo52))
    go_ret
    exact ⟨by first | rfl | (simp [errW_none, errW_some] <;> rfl) | (simp [*, errW_none, errW_some] <;> rfl), by repeat (first | (with_reducible first | exact HB.out | apply below_alloc | apply pw_below_drewN | apply below_drew1) | exact HB.out)⟩
end Go.Proofs.YtpnlbmeeihbjaabDoor.P
end
section
set_option linter.unusedVariables false
set_option linter.unusedSimpArgs false
namespace Go.Proofs.YtpnlbmeeihbjaabDoor.P
open Go.RowKit Go.Proofs.YtpnlbmeeihbjaabDoorW.PrintWords Go.Proofs.YtpnlbmeeihbjaabDoorW.PrintLast Go.Proofs.YtpnlbmeeihbjaabDoorW.PrintMore
open Go.Lib
attribute [local go_sem] max2_int min2_int max_two min_two max_three min_three max_four min_four
set_option linter.unusedVariables false
set_option linter.unusedSimpArgs false
def token_Quote.f (a0 : ByteArray) : Option ByteArray := if a0.size ≤ 1099511627776 then some ⟨(quoteS a0).toArray⟩ else none
theorem token_Quote.calls (a0 : ByteArray) (r : ByteArray) (w : World) (h : token_Quote.f a0 = some r) (hT : WT w) :
    Calls Tryd.prog 13 #[.string a0] w fun e w' => e = .returned (.string r) ∧ Below w.heap.size w w' := by
  unfold token_Quote.f at h
  by_cases hs : a0.size ≤ 1099511627776
  · rw [if_pos hs] at h
    obtain rfl := Option.some.inj h
    exact quote_w a0 w hT hs
  · rw [if_neg hs] at h
    cases h
end Go.Proofs.YtpnlbmeeihbjaabDoor.P
end
section
set_option linter.unusedVariables false
set_option linter.unusedSimpArgs false
namespace Go.Proofs.YtpnlbmeeihbjaabDoor.P
open Go.RowKit Go.Proofs.YtpnlbmeeihbjaabDoorW.PrintWords Go.Proofs.YtpnlbmeeihbjaabDoorW.PrintLast Go.Proofs.YtpnlbmeeihbjaabDoorW.PrintMore
open Go.Lib
attribute [local go_sem] max2_int min2_int max_two min_two max_three min_three max_four min_four
set_option linter.unusedVariables false
set_option linter.unusedSimpArgs false
def token_hash.f (a0_0 : Int) (a0_1 : ByteArray) (a0_2 : ByteArray) (a0_3 : Bool) (a0_4 : Bool) : Option ByteArray := if a0_1.size ≤ 1099511627776 then some ⟨(hashT a0_1 a0_4).toArray⟩ else none
theorem token_hash.calls (a0_0 : Int) (a0_1 : ByteArray) (a0_2 : ByteArray) (a0_3 : Bool) (a0_4 : Bool) (r : ByteArray) (w : World) (h : token_hash.f a0_0 a0_1 a0_2 a0_3 a0_4 = some r) (hT : WT w) :
    Calls Tryd.prog 34 #[.agg #[.int .i64 a0_0, .string a0_1, .string a0_2, .bool a0_3, .bool a0_4]] w fun e w' => e = .returned (.string r) ∧ Below w.heap.size w w' := by
  unfold token_hash.f at h
  by_cases hs : a0_1.size ≤ 1099511627776
  · rw [if_pos hs] at h
    obtain rfl := Option.some.inj h
    exact hash_w a0_0 a0_1 a0_2 a0_3 a0_4 w hT hs
  · rw [if_neg hs] at h
    cases h
end Go.Proofs.YtpnlbmeeihbjaabDoor.P
end
section
set_option linter.unusedVariables false
set_option linter.unusedSimpArgs false
namespace Go.Proofs.YtpnlbmeeihbjaabDoor.P
open Go.RowKit Go.Proofs.YtpnlbmeeihbjaabDoorW.PrintWords Go.Proofs.YtpnlbmeeihbjaabDoorW.PrintLast Go.Proofs.YtpnlbmeeihbjaabDoorW.PrintMore
open Go.Lib
attribute [local go_sem] max2_int min2_int max_two min_two max_three min_three max_four min_four
set_option linter.unusedVariables false
set_option linter.unusedSimpArgs false
def token_unit.f (a0 : ByteArray) : Option ByteArray := if a0.size ≤ 1099511627776 then some ⟨(unitT a0).toArray⟩ else none
theorem token_unit.calls (a0 : ByteArray) (r : ByteArray) (w : World) (h : token_unit.f a0 = some r) (hT : WT w) :
    Calls Tryd.prog 35 #[.string a0] w fun e w' => e = .returned (.string r) ∧ Below w.heap.size w w' := by
  unfold token_unit.f at h
  by_cases hs : a0.size ≤ 1099511627776
  · rw [if_pos hs] at h
    obtain rfl := Option.some.inj h
    exact unit_w a0 w hT hs
  · rw [if_neg hs] at h
    cases h
end Go.Proofs.YtpnlbmeeihbjaabDoor.P
end
section
set_option linter.unusedVariables false
set_option linter.unusedSimpArgs false
namespace Go.Proofs.YtpnlbmeeihbjaabDoor.P
open Go.RowKit Go.Proofs.YtpnlbmeeihbjaabDoorW.PrintWords Go.Proofs.YtpnlbmeeihbjaabDoorW.PrintLast Go.Proofs.YtpnlbmeeihbjaabDoorW.PrintMore
attribute [local go_sem] max2_int min2_int max_two min_two max_three min_three max_four min_four
set_option linter.unusedVariables false
set_option linter.unusedSimpArgs false
def token_Source.j0 : Nat → Int → Bool → Int → ByteArray → ByteArray → Bool → Bool → Option (ByteArray)
  | 0, _, _, _, _, _, _, _ => none
  | k + 1, x5, x33, x102000, x102001, x102002, x102003, x102004 => if x33 = true then (some x102001) else (if x5 = 11 then (if x102001.size + 1 ≤ 9223372036854775807 then (some (x102001 ++ (⟨#[37]⟩ : ByteArray))) else (none)) else (if x5 = 12 then ((token_unit.f x102002).bind fun t107 => (if x102001.size + t107.size ≤ 9223372036854775807 then (some (x102001 ++ t107)) else (none))) else (if x5 = 13 then (some (⟨#[32]⟩ : ByteArray)) else (if x5 = 14 then (some (⟨#[60, 33, 45, 45]⟩ : ByteArray)) else (if x5 = 15 then (some (⟨#[45, 45, 62]⟩ : ByteArray)) else (if x102000 ≥ 16 then (if (wrap64 (x102000 - 16)) < 9 then (if 0 ≤ (wrap64 (x102000 - 16)) then (if (wrap64 (x102000 - 16)) ≤ (wrap64 ((wrap64 (x102000 - 16)) + 1)) then (if (wrap64 ((wrap64 (x102000 - 16)) + 1)) ≤ 9 then (some ((⟨#[58, 59, 44, 91, 93, 40, 41, 123, 125]⟩ : ByteArray).extract ((wrap64 (x102000 - 16)) : Int).toNat ((wrap64 ((wrap64 (x102000 - 16)) + 1)) : Int).toNat)) else (none)) else (none)) else (none)) else (some (⟨#[]⟩ : ByteArray))) else (some (⟨#[]⟩ : ByteArray))))))))
def token_Source.f (k : Nat) (a0_0 : Int) (a0_1 : ByteArray) (a0_2 : ByteArray) (a0_3 : Bool) (a0_4 : Bool) : Option (ByteArray) := if a0_0 = 1 then ((token_Escape.f a0_1).bind fun t102 => (some t102)) else (if a0_0 = 2 then ((token_Escape.f a0_1).bind fun t103 => (if t103.size + 1 ≤ 9223372036854775807 then (some (t103 ++ (⟨#[40]⟩ : ByteArray))) else (none))) else (if a0_0 = 3 then ((token_Escape.f a0_1).bind fun t104 => (if 1 + t104.size ≤ 9223372036854775807 then (some ((⟨#[64]⟩ : ByteArray) ++ t104)) else (none))) else (if a0_0 = 4 then ((token_hash.f a0_0 a0_1 a0_2 a0_3 a0_4).bind fun t105 => (if 1 + t105.size ≤ 9223372036854775807 then (some ((⟨#[35]⟩ : ByteArray) ++ t105)) else (none))) else (if a0_0 = 5 then ((token_Quote.f a0_1).bind fun t106 => (some t106)) else (if a0_0 = 9 then (token_Source.j0 k a0_0 (a0_0 == 9) a0_0 a0_1 a0_2 a0_3 a0_4) else (token_Source.j0 k a0_0 (a0_0 == 10) a0_0 a0_1 a0_2 a0_3 a0_4))))))
set_option maxHeartbeats 8000000 in
set_option maxRecDepth 100000 in
theorem token_Source.calls (k : Nat) (a0_0 : Int) (a0_1 : ByteArray) (a0_2 : ByteArray) (a0_3 : Bool) (a0_4 : Bool) (r : ByteArray) (w : World) (h : token_Source.f k a0_0 a0_1 a0_2 a0_3 a0_4 = some r) (hT : WT w) :
    Calls Tryd.prog 16 #[.agg #[.int .i64 a0_0, .string a0_1, .string a0_2, .bool a0_3, .bool a0_4]] w fun e w' => e = .returned (.string r) ∧ Below w.heap.size w w' := by
  have HT := Aside0.mk hT
  clear hT
  have hu26 := Tryd.underlying26
  have HB := Aside0.mk (Below.refl w.heap.size w)
  have H : (if a0_0 = 1 then ((token_Escape.f a0_1).bind fun t102 => (some t102)) else (if a0_0 = 2 then ((token_Escape.f a0_1).bind fun t103 => (if t103.size + 1 ≤ 9223372036854775807 then (some (t103 ++ (⟨#[40]⟩ : ByteArray))) else (none))) else (if a0_0 = 3 then ((token_Escape.f a0_1).bind fun t104 => (if 1 + t104.size ≤ 9223372036854775807 then (some ((⟨#[64]⟩ : ByteArray) ++ t104)) else (none))) else (if a0_0 = 4 then ((token_hash.f a0_0 a0_1 a0_2 a0_3 a0_4).bind fun t105 => (if 1 + t105.size ≤ 9223372036854775807 then (some ((⟨#[35]⟩ : ByteArray) ++ t105)) else (none))) else (if a0_0 = 5 then ((token_Quote.f a0_1).bind fun t106 => (some t106)) else (if a0_0 = 9 then (token_Source.j0 k a0_0 (a0_0 == 9) a0_0 a0_1 a0_2 a0_3 a0_4) else (token_Source.j0 k a0_0 (a0_0 == 10) a0_0 a0_1 a0_2 a0_3 a0_4))))))) = some r := h
  clear h
  by_cases c2 : a0_0 = 1
  · rw [if_pos c2] at H
    have c2b0 : (a0_0 == 1) = true := beq_iff_eq.mpr c2
    have c2b1 : (a0_0 != 1) = false := bne_eq_false_iff_eq.mpr c2
    clear c2
    replace H := Option.bind_eq_some_iff.mp H
    obtain ⟨t102, A30, H⟩ := H
    replace H : (some t102) = some r := H
    have A3 := Aside0.mk A30
    clear A30
    obtain rfl := Option.some.inj H
    go_enter Tryd.func16, Tryd.ntmps16
    go_wp2_with (first | ((with_reducible refine gate_dst (N := 1) rfl ?_); refine box_event ?hg (N := 1) ?hd (cs := #[.int .i64 a0_0, .string a0_1, .string a0_2, .bool a0_3, .bool a0_4]) (t := 26) ?hr ?_; (case hd => rfl); (case hg => rfl); (case hr => first | (go_simp; done) | (go_simp; rfl)); intro gb101 hg w4 hbox hb; have n0_ := Aside0.mk (below_step (by repeat (first | (with_reducible first | exact HB.out | apply below_alloc | apply pw_below_drewN | apply below_drew1) | exact HB.out)) hb); have n1_ := Aside0.mk (hbox); have n2_ := Aside0.mk ((by rw [hg]; exact (below_size (by repeat (first | (with_reducible first | exact HB.out | apply below_alloc | apply pw_below_drewN | apply below_drew1) | exact HB.out))) : w.heap.size ≤ gb101)); have n3_ := Aside0.mk ((by rw [hg]; exact (below_size (by repeat (first | (with_reducible first | exact HB.out | apply below_alloc | apply pw_below_drewN | apply below_drew1) | exact HB.out))) : w.heap.size ≤ gb101)); clear HB; have HB := n0_; have BK101 := n1_; have GW101 := n2_; have GE101 := n3_; clear n0_ n1_ n2_ n3_; clear hb hbox hg; have hcz5_0 : w4.cell? ⟨gb101, 0, none⟩ = some (.int .i64 a0_0) := (blk_cell BK101.out 0).trans rfl; have hcz5_1 : w4.cell? ⟨gb101, 1, none⟩ = some (.string a0_1) := (blk_cell BK101.out 1).trans rfl; have hcz5_2 : w4.cell? ⟨gb101, 2, none⟩ = some (.string a0_2) := (blk_cell BK101.out 2).trans rfl; have hcz5_3 : w4.cell? ⟨gb101, 3, none⟩ = some (.bool a0_3) := (blk_cell BK101.out 3).trans rfl; have hcz5_4 : w4.cell? ⟨gb101, 4, none⟩ = some (.bool a0_4) := (blk_cell BK101.out 4).trans rfl; have hfz5_0 := blk_frozen BK101.out 0; have hfz5_1 := blk_frozen BK101.out 1; have hfz5_2 := blk_frozen BK101.out 2; have hfz5_3 := blk_frozen BK101.out 3; have hfz5_4 := blk_frozen BK101.out 4) | ((with_reducible refine gate_callee (f := 14) rfl ?_); refine goesL_ (some 10) rfl rfl Tryd.func14 (by kernel_rfl) rfl #[.string a0_1] rfl (by (try simp only [List.map_toArray, List.map_cons, List.map_nil]); first | done | rfl | (simp only [List.length_drop, List.length_take]; rfl)) ?_; (with_reducible refine (token_Escape.calls a0_1 t102 _ A3.out (HT.out.below (by repeat (first | (with_reducible first | exact HB.out | apply below_alloc | apply pw_below_drewN | apply below_drew1) | exact HB.out)))).mono ?_); rintro e w6 ⟨rfl, hb⟩; refine ⟨_, rfl, ?_⟩; have n0_ := Aside0.mk (blk_below (g := gb101) (o := .cells #[.int .i64 a0_0, .string a0_1, .string a0_2, .bool a0_3, .bool a0_4] 26 (0, 0)) (by (with_reducible repeat (first | refine blk_drewN ?_ _ | refine blk_drew ?_ | refine blk_alloc ?_ _)); exact BK101.out) hb); have n1_ := Aside0.mk (below_step (by repeat (first | (with_reducible first | exact HB.out | apply below_alloc | apply pw_below_drewN | apply below_drew1 | refine below_set ?_ GE101.out) | exact HB.out)) hb); clear BK101; clear HB; have BK101 := n0_; have HB := n1_; clear n0_ n1_; (try clear hb); (try clear hb2); (try clear hk); (try clear hi)))
    go_ret
    exact ⟨by first | rfl | (simp [errW_none, errW_some] <;> rfl) | (simp [*, errW_none, errW_some] <;> rfl), by repeat (first | (with_reducible first | exact HB.out | apply below_alloc | apply pw_below_drewN | apply below_drew1 | refine below_set ?_ GE101.out) | exact HB.out)⟩
  · rw [if_neg c2] at H
    have c2b0 : (a0_0 == 1) = false := beq_eq_false_iff_ne.mpr c2
    have c2b1 : (a0_0 != 1) = true := bne_iff_ne.mpr c2
    by_cases c7 : a0_0 = 2
    · rw [if_pos c7] at H
      have c7b0 : (a0_0 == 2) = true := beq_iff_eq.mpr c7
      have c7b1 : (a0_0 != 2) = false := bne_eq_false_iff_eq.mpr c7
      clear c7
      replace H := Option.bind_eq_some_iff.mp H
      obtain ⟨t103, A80, H⟩ := H
      replace H : (if t103.size + 1 ≤ 9223372036854775807 then (some (t103 ++ (⟨#[40]⟩ : ByteArray))) else (none)) = some r := H
      have A8 := Aside0.mk A80
      clear A80
      by_cases c9 : t103.size + 1 ≤ 9223372036854775807
      · rw [if_pos c9] at H
        have c9b0 := eq_true c9
        have c9b1 : decide (t103.size + 1 ≤ 9223372036854775807) = true := decide_eq_true c9
        try have c9b2 : (9223372036854775807 < t103.size + 1) = False := eq_false (Nat.not_lt.2 c9)
        obtain rfl := Option.some.inj H
        go_enter Tryd.func16, Tryd.ntmps16
        go_wp2_with (first | ((with_reducible refine gate_dst (N := 1) rfl ?_); refine box_event ?hg (N := 1) ?hd (cs := #[.int .i64 a0_0, .string a0_1, .string a0_2, .bool a0_3, .bool a0_4]) (t := 26) ?hr ?_; (case hd => rfl); (case hg => rfl); (case hr => first | (go_simp; done) | (go_simp; rfl)); intro gb101 hg w10 hbox hb; have n0_ := Aside0.mk (below_step (by repeat (first | (with_reducible first | exact HB.out | apply below_alloc | apply pw_below_drewN | apply below_drew1) | exact HB.out)) hb); have n1_ := Aside0.mk (hbox); have n2_ := Aside0.mk ((by rw [hg]; exact (below_size (by repeat (first | (with_reducible first | exact HB.out | apply below_alloc | apply pw_below_drewN | apply below_drew1) | exact HB.out))) : w.heap.size ≤ gb101)); have n3_ := Aside0.mk ((by rw [hg]; exact (below_size (by repeat (first | (with_reducible first | exact HB.out | apply below_alloc | apply pw_below_drewN | apply below_drew1) | exact HB.out))) : w.heap.size ≤ gb101)); clear HB; have HB := n0_; have BK101 := n1_; have GW101 := n2_; have GE101 := n3_; clear n0_ n1_ n2_ n3_; clear hb hbox hg; have hcz11_0 : w10.cell? ⟨gb101, 0, none⟩ = some (.int .i64 a0_0) := (blk_cell BK101.out 0).trans rfl; have hcz11_1 : w10.cell? ⟨gb101, 1, none⟩ = some (.string a0_1) := (blk_cell BK101.out 1).trans rfl; have hcz11_2 : w10.cell? ⟨gb101, 2, none⟩ = some (.string a0_2) := (blk_cell BK101.out 2).trans rfl; have hcz11_3 : w10.cell? ⟨gb101, 3, none⟩ = some (.bool a0_3) := (blk_cell BK101.out 3).trans rfl; have hcz11_4 : w10.cell? ⟨gb101, 4, none⟩ = some (.bool a0_4) := (blk_cell BK101.out 4).trans rfl; have hfz11_0 := blk_frozen BK101.out 0; have hfz11_1 := blk_frozen BK101.out 1; have hfz11_2 := blk_frozen BK101.out 2; have hfz11_3 := blk_frozen BK101.out 3; have hfz11_4 := blk_frozen BK101.out 4) | ((with_reducible refine gate_callee (f := 14) rfl ?_); refine goesL_ (some 15) rfl rfl Tryd.func14 (by kernel_rfl) rfl #[.string a0_1] rfl (by (try simp only [List.map_toArray, List.map_cons, List.map_nil]); first | done | rfl | (simp only [List.length_drop, List.length_take]; rfl)) ?_; (with_reducible refine (token_Escape.calls a0_1 t103 _ A8.out (HT.out.below (by repeat (first | (with_reducible first | exact HB.out | apply below_alloc | apply pw_below_drewN | apply below_drew1) | exact HB.out)))).mono ?_); rintro e w12 ⟨rfl, hb⟩; refine ⟨_, rfl, ?_⟩; have n0_ := Aside0.mk (blk_below (g := gb101) (o := .cells #[.int .i64 a0_0, .string a0_1, .string a0_2, .bool a0_3, .bool a0_4] 26 (0, 0)) (by (with_reducible repeat (first | refine blk_drewN ?_ _ | refine blk_drew ?_ | refine blk_alloc ?_ _)); exact BK101.out) hb); have n1_ := Aside0.mk (below_step (by repeat (first | (with_reducible first | exact HB.out | apply below_alloc | apply pw_below_drewN | apply below_drew1 | refine below_set ?_ GE101.out) | exact HB.out)) hb); clear BK101; clear HB; have BK101 := n0_; have HB := n1_; clear n0_ n1_; (try clear hb); (try clear hb2); (try clear hk); (try clear hi)))
        go_ret
        exact ⟨by first | rfl | (simp [errW_none, errW_some] <;> rfl) | (simp [*, errW_none, errW_some] <;> rfl), by repeat (first | (with_reducible first | exact HB.out | apply below_alloc | apply pw_below_drewN | apply below_drew1 | refine below_set ?_ GE101.out) | exact HB.out)⟩
      · rw [if_neg c9] at H
        exact absurd H (by simp)
    · rw [if_neg c7] at H
      have c7b0 : (a0_0 == 2) = false := beq_eq_false_iff_ne.mpr c7
      have c7b1 : (a0_0 != 2) = true := bne_iff_ne.mpr c7
      by_cases c13 : a0_0 = 3
      · rw [if_pos c13] at H
        have c13b0 : (a0_0 == 3) = true := beq_iff_eq.mpr c13
        have c13b1 : (a0_0 != 3) = false := bne_eq_false_iff_eq.mpr c13
        clear c13
        replace H := Option.bind_eq_some_iff.mp H
        obtain ⟨t104, A140, H⟩ := H
        replace H : (if 1 + t104.size ≤ 9223372036854775807 then (some ((⟨#[64]⟩ : ByteArray) ++ t104)) else (none)) = some r := H
        have A14 := Aside0.mk A140
        clear A140
        by_cases c15 : 1 + t104.size ≤ 9223372036854775807
        · rw [if_pos c15] at H
          have c15b0 := eq_true c15
          have c15b1 : decide (1 + t104.size ≤ 9223372036854775807) = true := decide_eq_true c15
          try have c15b2 : (9223372036854775807 < 1 + t104.size) = False := eq_false (Nat.not_lt.2 c15)
          obtain rfl := Option.some.inj H
          go_enter Tryd.func16, Tryd.ntmps16
          go_wp2_with (first | ((with_reducible refine gate_dst (N := 1) rfl ?_); refine box_event ?hg (N := 1) ?hd (cs := #[.int .i64 a0_0, .string a0_1, .string a0_2, .bool a0_3, .bool a0_4]) (t := 26) ?hr ?_; (case hd => rfl); (case hg => rfl); (case hr => first | (go_simp; done) | (go_simp; rfl)); intro gb101 hg w16 hbox hb; have n0_ := Aside0.mk (below_step (by repeat (first | (with_reducible first | exact HB.out | apply below_alloc | apply pw_below_drewN | apply below_drew1) | exact HB.out)) hb); have n1_ := Aside0.mk (hbox); have n2_ := Aside0.mk ((by rw [hg]; exact (below_size (by repeat (first | (with_reducible first | exact HB.out | apply below_alloc | apply pw_below_drewN | apply below_drew1) | exact HB.out))) : w.heap.size ≤ gb101)); have n3_ := Aside0.mk ((by rw [hg]; exact (below_size (by repeat (first | (with_reducible first | exact HB.out | apply below_alloc | apply pw_below_drewN | apply below_drew1) | exact HB.out))) : w.heap.size ≤ gb101)); clear HB; have HB := n0_; have BK101 := n1_; have GW101 := n2_; have GE101 := n3_; clear n0_ n1_ n2_ n3_; clear hb hbox hg; have hcz17_0 : w16.cell? ⟨gb101, 0, none⟩ = some (.int .i64 a0_0) := (blk_cell BK101.out 0).trans rfl; have hcz17_1 : w16.cell? ⟨gb101, 1, none⟩ = some (.string a0_1) := (blk_cell BK101.out 1).trans rfl; have hcz17_2 : w16.cell? ⟨gb101, 2, none⟩ = some (.string a0_2) := (blk_cell BK101.out 2).trans rfl; have hcz17_3 : w16.cell? ⟨gb101, 3, none⟩ = some (.bool a0_3) := (blk_cell BK101.out 3).trans rfl; have hcz17_4 : w16.cell? ⟨gb101, 4, none⟩ = some (.bool a0_4) := (blk_cell BK101.out 4).trans rfl; have hfz17_0 := blk_frozen BK101.out 0; have hfz17_1 := blk_frozen BK101.out 1; have hfz17_2 := blk_frozen BK101.out 2; have hfz17_3 := blk_frozen BK101.out 3; have hfz17_4 := blk_frozen BK101.out 4) | ((with_reducible refine gate_callee (f := 14) rfl ?_); refine goesL_ (some 21) rfl rfl Tryd.func14 (by kernel_rfl) rfl #[.string a0_1] rfl (by (try simp only [List.map_toArray, List.map_cons, List.map_nil]); first | done | rfl | (simp only [List.length_drop, List.length_take]; rfl)) ?_; (with_reducible refine (token_Escape.calls a0_1 t104 _ A14.out (HT.out.below (by repeat (first | (with_reducible first | exact HB.out | apply below_alloc | apply pw_below_drewN | apply below_drew1) | exact HB.out)))).mono ?_); rintro e w18 ⟨rfl, hb⟩; refine ⟨_, rfl, ?_⟩; have n0_ := Aside0.mk (blk_below (g := gb101) (o := .cells #[.int .i64 a0_0, .string a0_1, .string a0_2, .bool a0_3, .bool a0_4] 26 (0, 0)) (by (with_reducible repeat (first | refine blk_drewN ?_ _ | refine blk_drew ?_ | refine blk_alloc ?_ _)); exact BK101.out) hb); have n1_ := Aside0.mk (below_step (by repeat (first | (with_reducible first | exact HB.out | apply below_alloc | apply pw_below_drewN | apply below_drew1 | refine below_set ?_ GE101.out) | exact HB.out)) hb); clear BK101; clear HB; have BK101 := n0_; have HB := n1_; clear n0_ n1_; (try clear hb); (try clear hb2); (try clear hk); (try clear hi)))
          go_ret
          exact ⟨by first | rfl | (simp [errW_none, errW_some] <;> rfl) | (simp [*, errW_none, errW_some] <;> rfl), by repeat (first | (with_reducible first | exact HB.out | apply below_alloc | apply pw_below_drewN | apply below_drew1 | refine below_set ?_ GE101.out) | exact HB.out)⟩
        · rw [if_neg c15] at H
          exact absurd H (by simp)
      · rw [if_neg c13] at H
        have c13b0 : (a0_0 == 3) = false := beq_eq_false_iff_ne.mpr c13
        have c13b1 : (a0_0 != 3) = true := bne_iff_ne.mpr c13
        by_cases c19 : a0_0 = 4
        · rw [if_pos c19] at H
          have c19b0 : (a0_0 == 4) = true := beq_iff_eq.mpr c19
          have c19b1 : (a0_0 != 4) = false := bne_eq_false_iff_eq.mpr c19
          clear c19
          replace H := Option.bind_eq_some_iff.mp H
          obtain ⟨t105, A200, H⟩ := H
          replace H : (if 1 + t105.size ≤ 9223372036854775807 then (some ((⟨#[35]⟩ : ByteArray) ++ t105)) else (none)) = some r := H
          have A20 := Aside0.mk A200
          clear A200
          by_cases c21 : 1 + t105.size ≤ 9223372036854775807
          · rw [if_pos c21] at H
            have c21b0 := eq_true c21
            have c21b1 : decide (1 + t105.size ≤ 9223372036854775807) = true := decide_eq_true c21
            try have c21b2 : (9223372036854775807 < 1 + t105.size) = False := eq_false (Nat.not_lt.2 c21)
            obtain rfl := Option.some.inj H
            go_enter Tryd.func16, Tryd.ntmps16
            go_wp2_with (first | ((with_reducible refine gate_dst (N := 1) rfl ?_); refine box_event ?hg (N := 1) ?hd (cs := #[.int .i64 a0_0, .string a0_1, .string a0_2, .bool a0_3, .bool a0_4]) (t := 26) ?hr ?_; (case hd => rfl); (case hg => rfl); (case hr => first | (go_simp; done) | (go_simp; rfl)); intro gb101 hg w22 hbox hb; have n0_ := Aside0.mk (below_step (by repeat (first | (with_reducible first | exact HB.out | apply below_alloc | apply pw_below_drewN | apply below_drew1) | exact HB.out)) hb); have n1_ := Aside0.mk (hbox); have n2_ := Aside0.mk ((by rw [hg]; exact (below_size (by repeat (first | (with_reducible first | exact HB.out | apply below_alloc | apply pw_below_drewN | apply below_drew1) | exact HB.out))) : w.heap.size ≤ gb101)); have n3_ := Aside0.mk ((by rw [hg]; exact (below_size (by repeat (first | (with_reducible first | exact HB.out | apply below_alloc | apply pw_below_drewN | apply below_drew1) | exact HB.out))) : w.heap.size ≤ gb101)); clear HB; have HB := n0_; have BK101 := n1_; have GW101 := n2_; have GE101 := n3_; clear n0_ n1_ n2_ n3_; clear hb hbox hg; have hcz23_0 : w22.cell? ⟨gb101, 0, none⟩ = some (.int .i64 a0_0) := (blk_cell BK101.out 0).trans rfl; have hcz23_1 : w22.cell? ⟨gb101, 1, none⟩ = some (.string a0_1) := (blk_cell BK101.out 1).trans rfl; have hcz23_2 : w22.cell? ⟨gb101, 2, none⟩ = some (.string a0_2) := (blk_cell BK101.out 2).trans rfl; have hcz23_3 : w22.cell? ⟨gb101, 3, none⟩ = some (.bool a0_3) := (blk_cell BK101.out 3).trans rfl; have hcz23_4 : w22.cell? ⟨gb101, 4, none⟩ = some (.bool a0_4) := (blk_cell BK101.out 4).trans rfl; have hfz23_0 := blk_frozen BK101.out 0; have hfz23_1 := blk_frozen BK101.out 1; have hfz23_2 := blk_frozen BK101.out 2; have hfz23_3 := blk_frozen BK101.out 3; have hfz23_4 := blk_frozen BK101.out 4) | ((with_reducible refine gate_callee (f := 34) rfl ?_); refine goesL_ (some 26) rfl rfl Tryd.func34 (by kernel_rfl) rfl #[.agg #[.int .i64 a0_0, .string a0_1, .string a0_2, .bool a0_3, .bool a0_4]] rfl (by (try simp only [List.map_toArray, List.map_cons, List.map_nil]); first | done | rfl | (simp only [List.length_drop, List.length_take]; rfl)) ?_; (with_reducible refine (token_hash.calls a0_0 a0_1 a0_2 a0_3 a0_4 t105 _ A20.out (HT.out.below (by repeat (first | (with_reducible first | exact HB.out | apply below_alloc | apply pw_below_drewN | apply below_drew1) | exact HB.out)))).mono ?_); rintro e w24 ⟨rfl, hb⟩; refine ⟨_, rfl, ?_⟩; have n0_ := Aside0.mk (blk_below (g := gb101) (o := .cells #[.int .i64 a0_0, .string a0_1, .string a0_2, .bool a0_3, .bool a0_4] 26 (0, 0)) (by (with_reducible repeat (first | refine blk_drewN ?_ _ | refine blk_drew ?_ | refine blk_alloc ?_ _)); exact BK101.out) hb); have n1_ := Aside0.mk (below_step (by repeat (first | (with_reducible first | exact HB.out | apply below_alloc | apply pw_below_drewN | apply below_drew1 | refine below_set ?_ GE101.out) | exact HB.out)) hb); clear BK101; clear HB; have BK101 := n0_; have HB := n1_; clear n0_ n1_; (try clear hb); (try clear hb2); (try clear hk); (try clear hi)))
            go_ret
            exact ⟨by first | rfl | (simp [errW_none, errW_some] <;> rfl) | (simp [*, errW_none, errW_some] <;> rfl), by repeat (first | (with_reducible first | exact HB.out | apply below_alloc | apply pw_below_drewN | apply below_drew1 | refine below_set ?_ GE101.out) | exact HB.out)⟩
          · rw [if_neg c21] at H
            exact absurd H (by simp)
        · rw [if_neg c19] at H
          have c19b0 : (a0_0 == 4) = false := beq_eq_false_iff_ne.mpr c19
          have c19b1 : (a0_0 != 4) = true := bne_iff_ne.mpr c19
          by_cases c25 : a0_0 = 5
          · rw [if_pos c25] at H
            have c25b0 : (a0_0 == 5) = true := beq_iff_eq.mpr c25
            have c25b1 : (a0_0 != 5) = false := bne_eq_false_iff_eq.mpr c25
            clear c25
            replace H := Option.bind_eq_some_iff.mp H
            obtain ⟨t106, A260, H⟩ := H
            replace H : (some t106) = some r := H
            have A26 := Aside0.mk A260
            clear A260
            obtain rfl := Option.some.inj H
            go_enter Tryd.func16, Tryd.ntmps16
            go_wp2_with (first | ((with_reducible refine gate_dst (N := 1) rfl ?_); refine box_event ?hg (N := 1) ?hd (cs := #[.int .i64 a0_0, .string a0_1, .string a0_2, .bool a0_3, .bool a0_4]) (t := 26) ?hr ?_; (case hd => rfl); (case hg => rfl); (case hr => first | (go_simp; done) | (go_simp; rfl)); intro gb101 hg w27 hbox hb; have n0_ := Aside0.mk (below_step (by repeat (first | (with_reducible first | exact HB.out | apply below_alloc | apply pw_below_drewN | apply below_drew1) | exact HB.out)) hb); have n1_ := Aside0.mk (hbox); have n2_ := Aside0.mk ((by rw [hg]; exact (below_size (by repeat (first | (with_reducible first | exact HB.out | apply below_alloc | apply pw_below_drewN | apply below_drew1) | exact HB.out))) : w.heap.size ≤ gb101)); have n3_ := Aside0.mk ((by rw [hg]; exact (below_size (by repeat (first | (with_reducible first | exact HB.out | apply below_alloc | apply pw_below_drewN | apply below_drew1) | exact HB.out))) : w.heap.size ≤ gb101)); clear HB; have HB := n0_; have BK101 := n1_; have GW101 := n2_; have GE101 := n3_; clear n0_ n1_ n2_ n3_; clear hb hbox hg; have hcz28_0 : w27.cell? ⟨gb101, 0, none⟩ = some (.int .i64 a0_0) := (blk_cell BK101.out 0).trans rfl; have hcz28_1 : w27.cell? ⟨gb101, 1, none⟩ = some (.string a0_1) := (blk_cell BK101.out 1).trans rfl; have hcz28_2 : w27.cell? ⟨gb101, 2, none⟩ = some (.string a0_2) := (blk_cell BK101.out 2).trans rfl; have hcz28_3 : w27.cell? ⟨gb101, 3, none⟩ = some (.bool a0_3) := (blk_cell BK101.out 3).trans rfl; have hcz28_4 : w27.cell? ⟨gb101, 4, none⟩ = some (.bool a0_4) := (blk_cell BK101.out 4).trans rfl; have hfz28_0 := blk_frozen BK101.out 0; have hfz28_1 := blk_frozen BK101.out 1; have hfz28_2 := blk_frozen BK101.out 2; have hfz28_3 := blk_frozen BK101.out 3; have hfz28_4 := blk_frozen BK101.out 4) | ((with_reducible refine gate_callee (f := 13) rfl ?_); refine goesL_ (some 32) rfl rfl Tryd.func13 (by kernel_rfl) rfl #[.string a0_1] rfl (by (try simp only [List.map_toArray, List.map_cons, List.map_nil]); first | done | rfl | (simp only [List.length_drop, List.length_take]; rfl)) ?_; (with_reducible refine (token_Quote.calls a0_1 t106 _ A26.out (HT.out.below (by repeat (first | (with_reducible first | exact HB.out | apply below_alloc | apply pw_below_drewN | apply below_drew1) | exact HB.out)))).mono ?_); rintro e w29 ⟨rfl, hb⟩; refine ⟨_, rfl, ?_⟩; have n0_ := Aside0.mk (blk_below (g := gb101) (o := .cells #[.int .i64 a0_0, .string a0_1, .string a0_2, .bool a0_3, .bool a0_4] 26 (0, 0)) (by (with_reducible repeat (first | refine blk_drewN ?_ _ | refine blk_drew ?_ | refine blk_alloc ?_ _)); exact BK101.out) hb); have n1_ := Aside0.mk (below_step (by repeat (first | (with_reducible first | exact HB.out | apply below_alloc | apply pw_below_drewN | apply below_drew1 | refine below_set ?_ GE101.out) | exact HB.out)) hb); clear BK101; clear HB; have BK101 := n0_; have HB := n1_; clear n0_ n1_; (try clear hb); (try clear hb2); (try clear hk); (try clear hi)))
            go_ret
            exact ⟨by first | rfl | (simp [errW_none, errW_some] <;> rfl) | (simp [*, errW_none, errW_some] <;> rfl), by repeat (first | (with_reducible first | exact HB.out | apply below_alloc | apply pw_below_drewN | apply below_drew1 | refine below_set ?_ GE101.out) | exact HB.out)⟩
          · rw [if_neg c25] at H
            have c25b0 : (a0_0 == 5) = false := beq_eq_false_iff_ne.mpr c25
            have c25b1 : (a0_0 != 5) = true := bne_iff_ne.mpr c25
            have HC30 := Aside0.mk H
            clear H
            go_enter Tryd.func16, Tryd.ntmps16
            go_upto_if 33 with (first | ((with_reducible refine gate_dst (N := 1) rfl ?_); refine box_event ?hg (N := 1) ?hd (cs := #[.int .i64 a0_0, .string a0_1, .string a0_2, .bool a0_3, .bool a0_4]) (t := 26) ?hr ?_; (case hd => rfl); (case hg => rfl); (case hr => first | (go_simp; done) | (go_simp; rfl)); intro gb101 hg w31 hbox hb; have n0_ := Aside0.mk (below_step (by repeat (first | (with_reducible first | exact HB.out | apply below_alloc | apply pw_below_drewN | apply below_drew1) | exact HB.out)) hb); have n1_ := Aside0.mk (hbox); have n2_ := Aside0.mk ((by rw [hg]; exact (below_size (by repeat (first | (with_reducible first | exact HB.out | apply below_alloc | apply pw_below_drewN | apply below_drew1) | exact HB.out))) : w.heap.size ≤ gb101)); have n3_ := Aside0.mk ((by rw [hg]; exact (below_size (by repeat (first | (with_reducible first | exact HB.out | apply below_alloc | apply pw_below_drewN | apply below_drew1) | exact HB.out))) : w.heap.size ≤ gb101)); clear HB; have HB := n0_; have BK101 := n1_; have GW101 := n2_; have GE101 := n3_; clear n0_ n1_ n2_ n3_; clear hb hbox hg; have hcz32_0 : w31.cell? ⟨gb101, 0, none⟩ = some (.int .i64 a0_0) := (blk_cell BK101.out 0).trans rfl; have hcz32_1 : w31.cell? ⟨gb101, 1, none⟩ = some (.string a0_1) := (blk_cell BK101.out 1).trans rfl; have hcz32_2 : w31.cell? ⟨gb101, 2, none⟩ = some (.string a0_2) := (blk_cell BK101.out 2).trans rfl; have hcz32_3 : w31.cell? ⟨gb101, 3, none⟩ = some (.bool a0_3) := (blk_cell BK101.out 3).trans rfl; have hcz32_4 : w31.cell? ⟨gb101, 4, none⟩ = some (.bool a0_4) := (blk_cell BK101.out 4).trans rfl; have hfz32_0 := blk_frozen BK101.out 0; have hfz32_1 := blk_frozen BK101.out 1; have hfz32_2 := blk_frozen BK101.out 2; have hfz32_3 := blk_frozen BK101.out 3; have hfz32_4 := blk_frozen BK101.out 4))
            (try simp only [Act.put, List.setIfInBounds_toArray, List.set_cons_zero, List.set_cons_succ])
            go_cut [33] (fun v33 wc => ∃ (kq : Nat) (x33_29 : Bool), v33 = .bool x33_29 ∧ Aside0 (token_Source.j0 kq a0_0 x33_29 a0_0 a0_1 a0_2 a0_3 a0_4 = some r) ∧ Aside0 (kq ≤ k) ∧ Aside0 (wc.heap[gb101]? = some (.cells #[.int .i64 a0_0, .string a0_1, .string a0_2, .bool a0_3, .bool a0_4] 26 (0, 0))) ∧ Aside0 (Below w.heap.size w wc))
            case first =>
              have H := HC30.out
              clear HC30
              by_cases c33 : a0_0 = 9
              · rw [if_pos c33] at H
                have c33b0 : (a0_0 == 9) = true := beq_iff_eq.mpr c33
                have c33b1 : (a0_0 != 9) = false := bne_eq_false_iff_eq.mpr c33
                clear c33
                (first | rw [c33b0] | (simp only [i64_w, i32_w]; rw [c33b0]) | skip)
                have H' := Aside0.mk H
                clear H
                go_wp2
                go_meet
                case rel => exact ⟨_, ((a0_0 == 9)), (by first | rfl | (simp; done) | (simp [*]; done)), H', ⟨by first | omega | exact Nat.le_refl _⟩, ⟨by (with_reducible repeat (first | refine blk_drewN ?_ _ | refine blk_drew ?_ | refine blk_alloc ?_ _)); exact BK101.out⟩, ⟨by repeat (first | (with_reducible first | exact HB.out | apply below_alloc | apply pw_below_drewN | apply below_drew1 | refine below_set ?_ GE101.out) | exact HB.out)⟩⟩
              · rw [if_neg c33] at H
                have c33b0 : (a0_0 == 9) = false := beq_eq_false_iff_ne.mpr c33
                have c33b1 : (a0_0 != 9) = true := bne_iff_ne.mpr c33
                (first | rw [c33b0] | (simp only [i64_w, i32_w]; rw [c33b0]) | skip)
                have H' := Aside0.mk H
                clear H
                go_wp2
                go_meet
                case rel => exact ⟨_, ((a0_0 == 10)), (by first | rfl | (simp; done) | (simp [*]; done)), H', ⟨by first | omega | exact Nat.le_refl _⟩, ⟨by (with_reducible repeat (first | refine blk_drewN ?_ _ | refine blk_drew ?_ | refine blk_alloc ?_ _)); exact BK101.out⟩, ⟨by repeat (first | (with_reducible first | exact HB.out | apply below_alloc | apply pw_below_drewN | apply below_drew1 | refine below_set ?_ GE101.out) | exact HB.out)⟩⟩
            case rest =>
              clear HC30
              try clear c1
              try clear c2
              try clear c2b0
              try clear c2b1
              try clear p2
              try clear c3
              try clear c7
              try clear c7b0
              try clear c7b1
              try clear c9
              try clear c9b0
              try clear c9b1
              try clear c9b2
              try clear c13
              try clear c13b0
              try clear c13b1
              try clear c14
              try clear c15
              try clear c15b0
              try clear c15b1
              try clear c15b2
              try clear c16
              try clear c19
              try clear c19b0
              try clear c19b1
              try clear c21
              try clear c21b0
              try clear c21b1
              try clear c21b2
              try clear c25
              try clear c25b0
              try clear c25b1
              try clear c33
              try clear c33b0
              try clear c33b1
              try clear hcz11_0
              try clear hcz11_1
              try clear hcz11_2
              try clear hcz11_3
              try clear hcz11_4
              try clear hcz17_0
              try clear hcz17_1
              try clear hcz17_2
              try clear hcz17_3
              try clear hcz17_4
              try clear hcz23_0
              try clear hcz23_1
              try clear hcz23_2
              try clear hcz23_3
              try clear hcz23_4
              try clear hcz28_0
              try clear hcz28_1
              try clear hcz28_2
              try clear hcz28_3
              try clear hcz28_4
              try clear hcz32_0
              try clear hcz32_1
              try clear hcz32_2
              try clear hcz32_3
              try clear hcz32_4
              try clear hcz5_0
              try clear hcz5_1
              try clear hcz5_2
              try clear hcz5_3
              try clear hcz5_4
              try clear hfz11_0
              try clear hfz11_1
              try clear hfz11_2
              try clear hfz11_3
              try clear hfz11_4
              try clear hfz17_0
              try clear hfz17_1
              try clear hfz17_2
              try clear hfz17_3
              try clear hfz17_4
              try clear hfz23_0
              try clear hfz23_1
              try clear hfz23_2
              try clear hfz23_3
              try clear hfz23_4
              try clear hfz28_0
              try clear hfz28_1
              try clear hfz28_2
              try clear hfz28_3
              try clear hfz28_4
              try clear hfz32_0
              try clear hfz32_1
              try clear hfz32_2
              try clear hfz32_3
              try clear hfz32_4
              try clear hfz5_0
              try clear hfz5_1
              try clear hfz5_2
              try clear hfz5_3
              try clear hfz5_4
              obtain ⟨kq, x33_29, rfl, HA, HJ29, BK101, HB⟩ := hcut
              cases kq with
              | zero => exact absurd HA.out (by simp [token_Source.j0])
              | succ kj29 =>
                have H := HA.out
                clear HA
                simp only [token_Source.j0] at H
                by_cases c34 : x33_29 = true
                · subst c34
                  have H1 : (some a0_1) = some r := by rw [if_pos rfl] at H; exact H
                  clear H
                  have H := H1
                  clear H1
                  obtain rfl := Option.some.inj H
                  have hcz35_0 : wc.cell? ⟨gb101, 0, none⟩ = some (.int .i64 a0_0) := (blk_cell BK101.out 0).trans rfl
                  have hcz35_1 : wc.cell? ⟨gb101, 1, none⟩ = some (.string a0_1) := (blk_cell BK101.out 1).trans rfl
                  have hcz35_2 : wc.cell? ⟨gb101, 2, none⟩ = some (.string a0_2) := (blk_cell BK101.out 2).trans rfl
                  have hcz35_3 : wc.cell? ⟨gb101, 3, none⟩ = some (.bool a0_3) := (blk_cell BK101.out 3).trans rfl
                  have hcz35_4 : wc.cell? ⟨gb101, 4, none⟩ = some (.bool a0_4) := (blk_cell BK101.out 4).trans rfl
                  have hfz35_0 := blk_frozen BK101.out 0
                  have hfz35_1 := blk_frozen BK101.out 1
                  have hfz35_2 := blk_frozen BK101.out 2
                  have hfz35_3 := blk_frozen BK101.out 3
                  have hfz35_4 := blk_frozen BK101.out 4
                  go_wp2
                  go_ret
                  exact ⟨by first | rfl | (simp [errW_none, errW_some] <;> rfl) | (simp [*, errW_none, errW_some] <;> rfl), by repeat (first | (with_reducible first | exact HB.out | apply below_alloc | apply pw_below_drewN | apply below_drew1 | refine below_set ?_ GE101.out) | exact HB.out)⟩
                · replace c34 := Bool.eq_false_iff.mpr c34
                  subst c34
                  have H1 : (if a0_0 = 11 then (if a0_1.size + 1 ≤ 9223372036854775807 then (some (a0_1 ++ (⟨#[37]⟩ : ByteArray))) else (none)) else (if a0_0 = 12 then ((token_unit.f a0_2).bind fun t107 => (if a0_1.size + t107.size ≤ 9223372036854775807 then (some (a0_1 ++ t107)) else (none))) else (if a0_0 = 13 then (some (⟨#[32]⟩ : ByteArray)) else (if a0_0 = 14 then (some (⟨#[60, 33, 45, 45]⟩ : ByteArray)) else (if a0_0 = 15 then (some (⟨#[45, 45, 62]⟩ : ByteArray)) else (if a0_0 ≥ 16 then (if (wrap64 (a0_0 - 16)) < 9 then (if 0 ≤ (wrap64 (a0_0 - 16)) then (if (wrap64 (a0_0 - 16)) ≤ (wrap64 ((wrap64 (a0_0 - 16)) + 1)) then (if (wrap64 ((wrap64 (a0_0 - 16)) + 1)) ≤ 9 then (some ((⟨#[58, 59, 44, 91, 93, 40, 41, 123, 125]⟩ : ByteArray).extract ((wrap64 (a0_0 - 16)) : Int).toNat ((wrap64 ((wrap64 (a0_0 - 16)) + 1)) : Int).toNat)) else (none)) else (none)) else (none)) else (some (⟨#[]⟩ : ByteArray))) else (some (⟨#[]⟩ : ByteArray)))))))) = some r := by rw [if_neg (show ¬ (false = true) by decide)] at H; exact H
                  clear H
                  have H := H1
                  clear H1
                  by_cases c36 : a0_0 = 11
                  · rw [if_pos c36] at H
                    have c36b0 : (a0_0 == 11) = true := beq_iff_eq.mpr c36
                    have c36b1 : (a0_0 != 11) = false := bne_eq_false_iff_eq.mpr c36
                    clear c36
                    by_cases c37 : a0_1.size + 1 ≤ 9223372036854775807
                    · rw [if_pos c37] at H
                      have c37b0 := eq_true c37
                      have c37b1 : decide (a0_1.size + 1 ≤ 9223372036854775807) = true := decide_eq_true c37
                      try have c37b2 : (9223372036854775807 < a0_1.size + 1) = False := eq_false (Nat.not_lt.2 c37)
                      obtain rfl := Option.some.inj H
                      have hcz38_0 : wc.cell? ⟨gb101, 0, none⟩ = some (.int .i64 a0_0) := (blk_cell BK101.out 0).trans rfl
                      have hcz38_1 : wc.cell? ⟨gb101, 1, none⟩ = some (.string a0_1) := (blk_cell BK101.out 1).trans rfl
                      have hcz38_2 : wc.cell? ⟨gb101, 2, none⟩ = some (.string a0_2) := (blk_cell BK101.out 2).trans rfl
                      have hcz38_3 : wc.cell? ⟨gb101, 3, none⟩ = some (.bool a0_3) := (blk_cell BK101.out 3).trans rfl
                      have hcz38_4 : wc.cell? ⟨gb101, 4, none⟩ = some (.bool a0_4) := (blk_cell BK101.out 4).trans rfl
                      have hfz38_0 := blk_frozen BK101.out 0
                      have hfz38_1 := blk_frozen BK101.out 1
                      have hfz38_2 := blk_frozen BK101.out 2
                      have hfz38_3 := blk_frozen BK101.out 3
                      have hfz38_4 := blk_frozen BK101.out 4
                      go_wp2
                      go_ret
                      exact ⟨by first | rfl | (simp [errW_none, errW_some] <;> rfl) | (simp [*, errW_none, errW_some] <;> rfl), by repeat (first | (with_reducible first | exact HB.out | apply below_alloc | apply pw_below_drewN | apply below_drew1 | refine below_set ?_ GE101.out) | exact HB.out)⟩
                    · rw [if_neg c37] at H
                      exact absurd H (by simp)
                  · rw [if_neg c36] at H
                    have c36b0 : (a0_0 == 11) = false := beq_eq_false_iff_ne.mpr c36
                    have c36b1 : (a0_0 != 11) = true := bne_iff_ne.mpr c36
                    by_cases c39 : a0_0 = 12
                    · rw [if_pos c39] at H
                      have c39b0 : (a0_0 == 12) = true := beq_iff_eq.mpr c39
                      have c39b1 : (a0_0 != 12) = false := bne_eq_false_iff_eq.mpr c39
                      clear c39
                      replace H := Option.bind_eq_some_iff.mp H
                      obtain ⟨t107, A400, H⟩ := H
                      replace H : (if a0_1.size + t107.size ≤ 9223372036854775807 then (some (a0_1 ++ t107)) else (none)) = some r := H
                      have A40 := Aside0.mk A400
                      clear A400
                      by_cases c41 : a0_1.size + t107.size ≤ 9223372036854775807
                      · rw [if_pos c41] at H
                        have c41b0 := eq_true c41
                        have c41b1 : decide (a0_1.size + t107.size ≤ 9223372036854775807) = true := decide_eq_true c41
                        try have c41b2 : (9223372036854775807 < a0_1.size + t107.size) = False := eq_false (Nat.not_lt.2 c41)
                        obtain rfl := Option.some.inj H
                        try go_wp2
                        have n0_ := Aside0.mk (blk_drew BK101.out)
                        have n1_ := Aside0.mk (below_drew1 HB.out)
                        clear BK101
                        clear HB
                        have BK101 := n0_
                        have HB := n1_
                        clear n0_ n1_
                        refine start_ (n := 7) (S := fun w' => w'.cell? ⟨gb101, 0, none⟩ = some (.int .i64 a0_0) ∧ w'.cell? ⟨gb101, 1, none⟩ = some (.string a0_1) ∧ w'.cell? ⟨gb101, 2, none⟩ = some (.string a0_2) ∧ w'.cell? ⟨gb101, 3, none⟩ = some (.bool a0_3) ∧ w'.cell? ⟨gb101, 4, none⟩ = some (.bool a0_4)) (ds := []) #[false, false, false, false, false, false, false] (by kernel_rfl) rfl rfl ⟨(blk_cell BK101.out 0).trans rfl, (blk_cell BK101.out 1).trans rfl, (blk_cell BK101.out 2).trans rfl, (blk_cell BK101.out 3).trans rfl, (blk_cell BK101.out 4).trans rfl⟩ (fun hHeld => ?_)
                        generalize wc.drew = w42 at BK101 HB hHeld ⊢
                        refine pure_ (i := 0) (N := some 45) (v := ?_) (a' := ?_) #[true, false, false, false, false, false, false] rfl rfl (by kernel_rfl) (fun _ _ _ h => h) (Or.inl ⟨by rfl, ?_⟩) ?_ ?_
                        rotate_left
                        · intro w'
                          go_simp
                          with_reducible rfl
                        rotate_left
                        · simp only [Act.put, List.setIfInBounds_toArray, List.set_cons_zero, List.set_cons_succ, i64_w, i32_w]
                          rfl
                        refine pure_ (i := 2) (N := some 47) (v := ?_) (a' := ?_) #[true, false, true, false, false, false, false] rfl rfl (by kernel_rfl) (fun _ _ _ h => h) (Or.inl ⟨by rfl, ?_⟩) ?_ ?_
                        rotate_left
                        · intro w'
                          go_simp
                          with_reducible rfl
                        rotate_left
                        · simp only [Act.put, List.setIfInBounds_toArray, List.set_cons_zero, List.set_cons_succ, i64_w, i32_w]
                          rfl
                        refine take_ (i := 1) (N := some 46) (v := ?_) (a' := ?_) #[true, true, true, false, false, false, false] rfl rfl (by kernel_rfl) (fun _ _ _ h => h) (Or.inl ⟨by rfl, ?_⟩) hHeld ?_ ?_
                        rotate_left
                        · rintro w' ⟨s0, s1, s2, s3, s4⟩
                          go_simp
                          with_reducible rfl
                        rotate_left
                        · simp only [Act.put, List.setIfInBounds_toArray, List.set_cons_zero, List.set_cons_succ, i64_w, i32_w]
                          rfl
                        refine take_ (i := 3) (N := some 48) (v := ?_) (a' := ?_) #[true, true, true, true, false, false, false] rfl rfl (by kernel_rfl) (fun _ _ _ h => h) (Or.inl ⟨by rfl, ?_⟩) hHeld ?_ ?_
                        rotate_left
                        · rintro w' ⟨s0, s1, s2, s3, s4⟩
                          go_simp
                          with_reducible rfl
                        rotate_left
                        · simp only [Act.put, List.setIfInBounds_toArray, List.set_cons_zero, List.set_cons_succ, i64_w, i32_w]
                          rfl
                        refine one_ (i := 4) (N := some 49) #[true, true, true, true, true, false, false] rfl rfl (by kernel_rfl) (by decide) (fun K hK => ?_)
                        refine goes_ Tryd.func35 (by kernel_rfl) rfl #[.string a0_2] (by rfl) rfl rfl (by (try simp only [List.map_toArray, List.map_cons, List.map_nil]); first | done | rfl | (simp only [List.length_drop, List.length_take]; rfl)) ?_
                        with_reducible refine (token_unit.calls a0_2 t107 _ A40.out (HT.out.below (by repeat (first | (with_reducible first | exact HB.out | apply below_alloc | apply pw_below_drewN | apply below_drew1) | exact HB.out)))).mono ?_
                        rintro e w43 ⟨rfl, hb⟩
                        refine ⟨_, rfl, ?_⟩
                        have n0_ := Aside0.mk (blk_below (g := gb101) (o := .cells #[.int .i64 a0_0, .string a0_1, .string a0_2, .bool a0_3, .bool a0_4] 26 (0, 0)) (by (with_reducible repeat (first | refine blk_drewN ?_ _ | refine blk_drew ?_ | refine blk_alloc ?_ _)); exact BK101.out) hb)
                        have n1_ := Aside0.mk (below_step (by repeat (first | (with_reducible first | exact HB.out | apply below_alloc | apply pw_below_drewN | apply below_drew1 | refine below_set ?_ GE101.out) | exact HB.out)) hb)
                        clear BK101
                        clear HB
                        have BK101 := n0_
                        have HB := n1_
                        clear n0_ n1_
                        (try clear hb)
                        (try clear hb2)
                        (try clear hk)
                        (try clear hi)
                        refine hK.out _ _ ⟨(blk_cell BK101.out 0).trans rfl, (blk_cell BK101.out 1).trans rfl, (blk_cell BK101.out 2).trans rfl, (blk_cell BK101.out 3).trans rfl, (blk_cell BK101.out 4).trans rfl⟩ (fun hHeld => ?_)
                        clear hK K
                        refine norm_ (a' := ?_) ?_ ?_
                        rotate_left
                        · show Act.put _ (some 49) _ = _
                          simp only [Act.put, List.setIfInBounds_toArray, List.set_cons_zero, List.set_cons_succ, i64_w, i32_w]
                          rfl
                        refine pure_ (i := 5) (N := some 50) (v := ?_) (a' := ?_) #[true, true, true, true, true, true, false] rfl rfl (by kernel_rfl) (fun _ _ _ h => h) (Or.inl ⟨by rfl, ?_⟩) ?_ ?_
                        rotate_left
                        · intro w'
                          go_simp
                          with_reducible rfl
                        rotate_left
                        · simp only [Act.put, List.setIfInBounds_toArray, List.set_cons_zero, List.set_cons_succ, i64_w, i32_w]
                          rfl
                        refine pure_ (i := 6) (N := some 2) (v := ?_) (a' := ?_) #[true, true, true, true, true, true, true] rfl rfl (by kernel_rfl) (fun _ _ _ h => h) (Or.inl ⟨by rfl, ?_⟩) ?_ ?_
                        rotate_left
                        · intro w'
                          go_simp
                          with_reducible rfl
                        rotate_left
                        · simp only [Act.put, List.setIfInBounds_toArray, List.set_cons_zero, List.set_cons_succ, i64_w, i32_w]
                          rfl
                        refine done_ (by kernel_rfl) ?_
                        try go_wp2
                        go_ret
                        exact ⟨by first | rfl | (simp [errW_none, errW_some] <;> rfl) | (simp [*, errW_none, errW_some] <;> rfl), by repeat (first | (with_reducible first | exact HB.out | apply below_alloc | apply pw_below_drewN | apply below_drew1 | refine below_set ?_ GE101.out) | exact HB.out)⟩
                      · rw [if_neg c41] at H
                        exact absurd H (by simp)
                    · rw [if_neg c39] at H
                      have c39b0 : (a0_0 == 12) = false := beq_eq_false_iff_ne.mpr c39
                      have c39b1 : (a0_0 != 12) = true := bne_iff_ne.mpr c39
                      by_cases c44 : a0_0 = 13
                      · rw [if_pos c44] at H
                        have c44b0 : (a0_0 == 13) = true := beq_iff_eq.mpr c44
                        have c44b1 : (a0_0 != 13) = false := bne_eq_false_iff_eq.mpr c44
                        clear c44
                        obtain rfl := Option.some.inj H
                        go_wp2
                        go_ret
                        exact ⟨by first | rfl | (simp [errW_none, errW_some] <;> rfl) | (simp [*, errW_none, errW_some] <;> rfl), by repeat (first | (with_reducible first | exact HB.out | apply below_alloc | apply pw_below_drewN | apply below_drew1 | refine below_set ?_ GE101.out) | exact HB.out)⟩
                      · rw [if_neg c44] at H
                        have c44b0 : (a0_0 == 13) = false := beq_eq_false_iff_ne.mpr c44
                        have c44b1 : (a0_0 != 13) = true := bne_iff_ne.mpr c44
                        by_cases c45 : a0_0 = 14
                        · rw [if_pos c45] at H
                          have c45b0 : (a0_0 == 14) = true := beq_iff_eq.mpr c45
                          have c45b1 : (a0_0 != 14) = false := bne_eq_false_iff_eq.mpr c45
                          clear c45
                          obtain rfl := Option.some.inj H
                          go_wp2
                          go_ret
                          exact ⟨by first | rfl | (simp [errW_none, errW_some] <;> rfl) | (simp [*, errW_none, errW_some] <;> rfl), by repeat (first | (with_reducible first | exact HB.out | apply below_alloc | apply pw_below_drewN | apply below_drew1 | refine below_set ?_ GE101.out) | exact HB.out)⟩
                        · rw [if_neg c45] at H
                          have c45b0 : (a0_0 == 14) = false := beq_eq_false_iff_ne.mpr c45
                          have c45b1 : (a0_0 != 14) = true := bne_iff_ne.mpr c45
                          by_cases c46 : a0_0 = 15
                          · rw [if_pos c46] at H
                            have c46b0 : (a0_0 == 15) = true := beq_iff_eq.mpr c46
                            have c46b1 : (a0_0 != 15) = false := bne_eq_false_iff_eq.mpr c46
                            clear c46
                            obtain rfl := Option.some.inj H
                            go_wp2
                            go_ret
                            exact ⟨by first | rfl | (simp [errW_none, errW_some] <;> rfl) | (simp [*, errW_none, errW_some] <;> rfl), by repeat (first | (with_reducible first | exact HB.out | apply below_alloc | apply pw_below_drewN | apply below_drew1 | refine below_set ?_ GE101.out) | exact HB.out)⟩
                          · rw [if_neg c46] at H
                            have c46b0 : (a0_0 == 15) = false := beq_eq_false_iff_ne.mpr c46
                            have c46b1 : (a0_0 != 15) = true := bne_iff_ne.mpr c46
                            by_cases c47 : a0_0 ≥ 16
                            · rw [if_pos c47] at H
                              have c47b0 : decide (16 ≤ a0_0) = true := decide_eq_true c47
                              clear c47
                              by_cases c48 : (wrap64 (a0_0 - 16)) < 9
                              · rw [if_pos c48] at H
                                have c48b0 : decide ((wrap64 (a0_0 - 16)) < 9) = true := decide_eq_true c48
                                clear c48
                                obtain ⟨ji49, hji49⟩ : ∃ j_ : Int, (wrap64 (a0_0 - 16)) = j_ := ⟨_, rfl⟩
                                replace H : (if 0 ≤ (ji49) then (if (ji49) ≤ (wrap64 ((ji49) + 1)) then (if (wrap64 ((ji49) + 1)) ≤ 9 then (some ((⟨#[58, 59, 44, 91, 93, 40, 41, 123, 125]⟩ : ByteArray).extract ((ji49) : Int).toNat ((wrap64 ((ji49) + 1)) : Int).toNat)) else (none)) else (none)) else (none)) = some r := by first | (rw [hji49] at H; exact H) | (simp only [hji49] at H ⊢; exact H)
                                (try rw [hji49] at c48b0)
                                have hji49w : (IntKind.i64.wrap (a0_0 - 16)) = ji49 := (i64_w _).trans hji49
                                by_cases c50 : 0 ≤ (ji49)
                                · rw [if_pos c50] at H
                                  have c50b0 := eq_true c50
                                  have c50b1 : decide (0 ≤ (ji49)) = true := decide_eq_true c50
                                  clear c50
                                  by_cases c51 : (ji49) ≤ (wrap64 ((ji49) + 1))
                                  · rw [if_pos c51] at H
                                    have c51b0 := eq_true c51
                                    have c51b1 : decide ((ji49) ≤ (wrap64 ((ji49) + 1))) = true := decide_eq_true c51
                                    by_cases c52 : (wrap64 ((ji49) + 1)) ≤ 9
                                    · rw [if_pos c52] at H
                                      have c52b0 := eq_true c52
                                      have c52b1 : decide ((wrap64 ((ji49) + 1)) ≤ 9) = true := decide_eq_true c52
                                      obtain rfl := Option.some.inj H
                                      have hcz53_0 : wc.cell? ⟨gb101, 0, none⟩ = some (.int .i64 a0_0) := (blk_cell BK101.out 0).trans rfl
                                      have hcz53_1 : wc.cell? ⟨gb101, 1, none⟩ = some (.string a0_1) := (blk_cell BK101.out 1).trans rfl
                                      have hcz53_2 : wc.cell? ⟨gb101, 2, none⟩ = some (.string a0_2) := (blk_cell BK101.out 2).trans rfl
                                      have hcz53_3 : wc.cell? ⟨gb101, 3, none⟩ = some (.bool a0_3) := (blk_cell BK101.out 3).trans rfl
                                      have hcz53_4 : wc.cell? ⟨gb101, 4, none⟩ = some (.bool a0_4) := (blk_cell BK101.out 4).trans rfl
                                      have hfz53_0 := blk_frozen BK101.out 0
                                      have hfz53_1 := blk_frozen BK101.out 1
                                      have hfz53_2 := blk_frozen BK101.out 2
                                      have hfz53_3 := blk_frozen BK101.out 3
                                      have hfz53_4 := blk_frozen BK101.out 4
                                      go_wp2
                                      go_ret
                                      exact ⟨by first | rfl | (simp [errW_none, errW_some] <;> rfl) | (simp only [← hji49]; first | rfl | (simp [errW_none, errW_some] <;> rfl)) | (simp [*, errW_none, errW_some] <;> rfl), by repeat (first | (with_reducible first | exact HB.out | apply below_alloc | apply pw_below_drewN | apply below_drew1 | refine below_set ?_ GE101.out) | exact HB.out)⟩
                                    · rw [if_neg c52] at H
                                      exact absurd H (by simp)
                                  · rw [if_neg c51] at H
                                    exact absurd H (by simp)
                                · rw [if_neg c50] at H
                                  exact absurd H (by simp)
                              · rw [if_neg c48] at H
                                have c48b0 : decide ((wrap64 (a0_0 - 16)) < 9) = false := decide_eq_false c48
                                clear c48
                                obtain rfl := Option.some.inj H
                                have hcz54_0 : wc.cell? ⟨gb101, 0, none⟩ = some (.int .i64 a0_0) := (blk_cell BK101.out 0).trans rfl
                                have hcz54_1 : wc.cell? ⟨gb101, 1, none⟩ = some (.string a0_1) := (blk_cell BK101.out 1).trans rfl
                                have hcz54_2 : wc.cell? ⟨gb101, 2, none⟩ = some (.string a0_2) := (blk_cell BK101.out 2).trans rfl
                                have hcz54_3 : wc.cell? ⟨gb101, 3, none⟩ = some (.bool a0_3) := (blk_cell BK101.out 3).trans rfl
                                have hcz54_4 : wc.cell? ⟨gb101, 4, none⟩ = some (.bool a0_4) := (blk_cell BK101.out 4).trans rfl
                                have hfz54_0 := blk_frozen BK101.out 0
                                have hfz54_1 := blk_frozen BK101.out 1
                                have hfz54_2 := blk_frozen BK101.out 2
                                have hfz54_3 := blk_frozen BK101.out 3
                                have hfz54_4 := blk_frozen BK101.out 4
                                go_wp2
                                go_ret
                                exact ⟨by first | rfl | (simp [errW_none, errW_some] <;> rfl) | (simp [*, errW_none, errW_some] <;> rfl), by repeat (first | (with_reducible first | exact HB.out | apply below_alloc | apply pw_below_drewN | apply below_drew1 | refine below_set ?_ GE101.out) | exact HB.out)⟩
                            · rw [if_neg c47] at H
                              have c47b0 : decide (16 ≤ a0_0) = false := decide_eq_false c47
                              clear c47
                              obtain rfl := Option.some.inj H
                              have hcz55_0 : wc.cell? ⟨gb101, 0, none⟩ = some (.int .i64 a0_0) := (blk_cell BK101.out 0).trans rfl
                              have hcz55_1 : wc.cell? ⟨gb101, 1, none⟩ = some (.string a0_1) := (blk_cell BK101.out 1).trans rfl
                              have hcz55_2 : wc.cell? ⟨gb101, 2, none⟩ = some (.string a0_2) := (blk_cell BK101.out 2).trans rfl
                              have hcz55_3 : wc.cell? ⟨gb101, 3, none⟩ = some (.bool a0_3) := (blk_cell BK101.out 3).trans rfl
                              have hcz55_4 : wc.cell? ⟨gb101, 4, none⟩ = some (.bool a0_4) := (blk_cell BK101.out 4).trans rfl
                              have hfz55_0 := blk_frozen BK101.out 0
                              have hfz55_1 := blk_frozen BK101.out 1
                              have hfz55_2 := blk_frozen BK101.out 2
                              have hfz55_3 := blk_frozen BK101.out 3
                              have hfz55_4 := blk_frozen BK101.out 4
                              go_wp2
                              go_ret
                              exact ⟨by first | rfl | (simp [errW_none, errW_some] <;> rfl) | (simp [*, errW_none, errW_some] <;> rfl), by repeat (first | (with_reducible first | exact HB.out | apply below_alloc | apply pw_below_drewN | apply below_drew1 | refine below_set ?_ GE101.out) | exact HB.out)⟩
end Go.Proofs.YtpnlbmeeihbjaabDoor.P
end
section
set_option linter.unusedVariables false
set_option linter.unusedSimpArgs false
namespace Go.Proofs.YtpnlbmeeihbjaabDoor.P
open Go.RowKit Go.Proofs.YtpnlbmeeihbjaabDoorW.PrintWords Go.Proofs.YtpnlbmeeihbjaabDoorW.PrintLast Go.Proofs.YtpnlbmeeihbjaabDoorW.PrintMore
open Go.Lib
attribute [local go_sem] max2_int min2_int max_two min_two max_three min_three max_four min_four
set_option linter.unusedVariables false
set_option linter.unusedSimpArgs false
def token_Int.f (a0_0 : Int) (a0_1 : ByteArray) (a0_2 : ByteArray) (a0_3 : Bool) (a0_4 : Bool) : Option (Int × Bool) := some (intK a0_0 a0_1 a0_3)
theorem token_Int.calls (a0_0 : Int) (a0_1 : ByteArray) (a0_2 : ByteArray) (a0_3 : Bool) (a0_4 : Bool) (r1 : Int) (r2 : Bool) (w : World) (h : token_Int.f a0_0 a0_1 a0_2 a0_3 a0_4 = some (r1, r2)) :
    Calls Tryd.prog 17 #[.agg #[.int .i64 a0_0, .string a0_1, .string a0_2, .bool a0_3, .bool a0_4]] w fun e w' => e = .returned (.tuple #[.int .i64 r1, .bool r2]) ∧ Below w.heap.size w w' := by
  have e := Option.some.inj h
  rw [show r1 = (intK a0_0 a0_1 a0_3).1 by rw [e], show r2 = (intK a0_0 a0_1 a0_3).2 by rw [e]]
  by_cases hb : a0_3 = false ∨ a0_0 < 10 ∨ 12 < a0_0
  · have hk : intK a0_0 a0_1 a0_3 = (0, false) := by unfold intK; rw [if_pos hb]
    rw [hk]
    exact int_bad a0_0 a0_1 a0_2 a0_3 a0_4 w hb
  · have h3 : a0_3 = true := by
      cases a0_3 with
      | true => rfl
      | false => exact absurd (.inl rfl) hb
    subst h3
    exact int_good a0_0 a0_1 a0_2 a0_4 w (by omega) (by omega)
end Go.Proofs.YtpnlbmeeihbjaabDoor.P
end
