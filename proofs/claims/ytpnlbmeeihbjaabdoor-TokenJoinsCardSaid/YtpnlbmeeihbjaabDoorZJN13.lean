/- The law TokenJoins (layer 2): the row and its tied card: for every input the law returns true, and the arguments read behind the call as they read before. No condition of ours. -/
import Derived.Test.YtpnlbmeeihbjaabDoorZJN7
import Derived.Test.YtpnlbmeeihbjaabDoorZJN11
import Derived.Test.YtpnlbmeeihbjaabDoorZJN12
import Derived.Lib.TrimU
section
set_option linter.unusedVariables false
set_option linter.unusedSimpArgs false
namespace Go.Proofs.YtpnlbmeeihbjaabDoor.P
open Go.RowKit Go.Proofs.YtpnlbmeeihbjaabDoorW.PrintWords Go.Proofs.YtpnlbmeeihbjaabDoorW.PrintLast Go.Proofs.YtpnlbmeeihbjaabDoorW.PrintMore
open Go.Lib
attribute [local go_sem] max2_int min2_int max_two min_two max_three min_three max_four min_four
set_option linter.unusedVariables false
set_option linter.unusedSimpArgs false
open Go.Lib
def decL (S : ByteArray) : Nat → Nat → List Int
  | 0, _ => []
  | k + 1, pos => if pos < S.size then ((Utf8.decode S pos).1 : Int) :: decL S k (pos + (Utf8.decode S pos).2) else []
def decS (S : ByteArray) : List Int := decL S (S.size + 1) 0
def partsB (sb : Int → Bool) (xs : List Int) : List UInt8 := xs.flatMap (charB sb)
theorem partsB_cons (sb : Int → Bool) (c : Int) (xs : List Int) : partsB sb (c :: xs) = charB sb c ++ partsB sb xs := rfl
theorem WT.keep {B : Nat} {w W : World} (h : WT w) (h3 : 3 < B) (hb : Below B w W) : WT W := by
  have : W.heap[3]? = w.heap[3]? := hb.block 3 h3
  unfold WT World.cell? at *
  rw [this]
  exact h
theorem Blw.iterAt {B b : Nat} {l : List UInt8} {w : World} (h : Blw w B b l) {k : Nat} {S : ByteArray} {pos : Nat} (hk : w.heap[k]? = some (.stringIter S pos)) (pos' : Nat) : Blw (w.iterAt k S pos') B b l := by
  obtain ⟨p, hp, h, hn⟩ := h
  refine ⟨p, hp, h.iterAt hk pos', fun e => ?_⟩
  have h0 := hn e
  have hkb : b ≠ k := by
    intro e1
    rw [e1, hk] at h0
    cases h0
  exact (iterAt_other w k b S pos' hkb).trans h0
set_option maxHeartbeats 16000000 in
set_option maxRecDepth 100000 in
theorem parts_w (B b : Nat) (l : List UInt8) (S : ByteArray) (w : World) (hT : WT w) (h3 : 3 < B) (h : Blw w B b l) (hlen : l.length + 10 * S.size + 20 ≤ 140737488355328) (hBw : B ≤ w.heap.size) :
    Calls Tryd.prog 33 #[.pointer (some ⟨b, 0, none⟩), .string S] w fun e w' => e = .returned (.tuple #[]) ∧ (Blw w' B b (l ++ partsB partB (decS S)) ∧ Below B w w') := by
  have HT := Aside0.mk hT
  have HL := Aside0.mk hlen
  have HGB : Aside0 (B ≤ w.heap.size ∧ 3 < B ∧ w.heap.size ≠ b) := ⟨hBw, h3, by have := h.lt; omega⟩
  have HI : Aside0 ((w.iter S 0).heap[w.heap.size]? = some (.stringIter S 0)) := ⟨World.iter_heap w S 0⟩
  have HBL : Aside0 (Blw (w.iter S 0) B b l) := ⟨h.mono (below_alloc (Below.refl w.heap.size w) (.stringIter S 0))⟩
  have HBB : Aside0 (Below B w (w.iter S 0)) := ⟨below_less (below_alloc (Below.refl w.heap.size w) (.stringIter S 0)) hBw⟩
  clear hT hlen hBw h3 h
  go_enter Tryd.func33, Tryd.ntmps33
  go_wp2_with fail
  go_loopg [] (S.size + 1) (fun kq w' => ∃ (pos : Nat) (out : List UInt8), Aside0 (out ++ partsB partB (decL S kq pos) = partsB partB (decS S)) ∧ Aside0 (out.length + 10 * kq ≤ 10 * (S.size + 1) ∧ S.size + 1 ≤ pos + kq) ∧ Aside0 (w'.heap[w.heap.size]? = some (.stringIter S pos)) ∧ Aside0 (Blw w' B b (l ++ out)) ∧ Aside0 (Below B w w'))
  case atStart => exact ⟨0, [], ⟨rfl⟩, ⟨by simp⟩, HI, ⟨by rw [List.append_nil]; exact HBL.out⟩, HBB⟩
  case round =>
    clear HI HBL HBB
    obtain ⟨pos, out, HE, HN, HI, HBL, HBB⟩ := hrel
    cases gk with
    | zero =>
      have c0 : ¬ pos < S.size := by have := HN.out; omega
      have hnx : ∀ ty, (Instr.next (.pointer (some ⟨w.heap.size, 0, none⟩)) true ty).run Tryd.prog wr = .ok (.tuple #[.bool false]) wr := fun ty => run_next_end_at wr w.heap.size S pos ty HI.out c0
      have HE2 : Aside0 (out = partsB partB (decS S)) := ⟨by rw [← HE.out, show decL S 0 pos = [] from rfl]; simp [partsB]⟩
      clear c0
      go_wp2_with fail
      go_end0
      exact ⟨rfl, by rw [← HE2.out]; exact HBL.out, HBB.out⟩
    | succ n =>
      by_cases c0 : pos < S.size
      · have hnx : ∀ ty, (Instr.next (.pointer (some ⟨w.heap.size, 0, none⟩)) true ty).run Tryd.prog wr = .ok (.tuple #[.bool true, .int .i64 pos, .int .i32 (Utf8.decode S pos).1]) (wr.iterAt w.heap.size S (pos + (Utf8.decode S pos).2)) := fun ty => run_next_any_at wr w.heap.size S pos ty HI.out c0
        have hE : partsB partB (decS S) = (out ++ charB partB ((Utf8.decode S pos).1 : Int)) ++ partsB partB (decL S n (pos + (Utf8.decode S pos).2)) := by rw [← HE.out, decL, if_pos c0, partsB_cons, List.append_assoc]
        have HDP : Aside0 (pos + 1 ≤ pos + (Utf8.decode S pos).2) := ⟨by have := dec_pos S pos c0; omega⟩
        have HC : Aside0 ((0 : Int) ≤ ((Utf8.decode S pos).1 : Int) ∧ ((Utf8.decode S pos).1 : Int) ≤ 1114111) := ⟨by have := rune_le S pos; omega⟩
        have HI2 := Aside0.mk (iterAt_heap wr w.heap.size S pos (pos + (Utf8.decode S pos).2) HI.out)
        have HBL2 : Aside0 (Blw (wr.iterAt w.heap.size S (pos + (Utf8.decode S pos).2)) B b (l ++ out)) := ⟨HBL.out.iterAt HI.out _⟩
        have HBB2 : Aside0 (Below B w (wr.iterAt w.heap.size S (pos + (Utf8.decode S pos).2))) := ⟨iter_below HBB.out HGB.out.1 S _⟩
        generalize wr.iterAt w.heap.size S (pos + (Utf8.decode S pos).2) = W3 at HI2 HBL2 HBB2 hnx
        have HI := HI2
        have HBL := HBL2
        have HBB := HBB2
        clear HI2 HBL2 HBB2
        generalize pos + (Utf8.decode S pos).2 = pos' at hE HI HDP
        generalize ((Utf8.decode S pos).1 : Int) = c at hE HC hnx
        have hl := HL.out
        have hs := HN.out
        have hcl := charB_len partB c
        have cp := plain_part B b (l ++ out) c HC.out.1 (by have := HC.out.2; omega) W3 (HT.out.keep HGB.out.2.1 HBB.out) HBL.out (by rw [List.length_append]; omega) (by have := HBB.out.size; have := HGB.out; omega)
        have HE3 := Aside0.mk hE
        have HLL : Aside0 ((l ++ out).length + 10 ≤ 140737488355328) := ⟨by rw [List.length_append]; omega⟩
        have HOL : Aside0 ((out ++ charB partB c).length + 10 * n ≤ 10 * (S.size + 1)) := ⟨by rw [List.length_append]; omega⟩
        clear hE hl hs hcl
        cases hp : plainB partB c with
        | some o =>
          rw [hp] at cp
          have HO : Aside0 (charB partB c = o) := ⟨by rw [charB, hp]⟩
          clear hp
          go_wp2_with (first | (go_at_call 26; refine cp.mono ?_; rintro e W4 ⟨rfl, hB4⟩; have HB4 := Aside0.mk hB4; clear hB4) | fail)
          go_roundg n
          case measure => omega
          case rel => exact ⟨pos', out ++ charB partB c, ⟨HE3.out.symm⟩, ⟨by have := HN.out; have := HDP.out; have := HOL.out; omega⟩, ⟨HB4.out.2.2.iter HI.out HGB.out.2.2⟩, ⟨by rw [HO.out, ← List.append_assoc]; exact HB4.out.1⟩, ⟨HBB.out.trans HB4.out.2.1⟩⟩
        | none =>
          rw [hp] at cp
          have HO : Aside0 (charB partB c = 92 :: Lib.encodeRune c) := ⟨by rw [charB, hp]⟩
          clear hp
          go_wp2_with (first | (go_at_call 26; refine cp.mono ?_; rintro e W4 ⟨rfl, hB4⟩; have HB4 := Aside0.mk hB4; clear hB4) | (go_at_call 28; refine (barred_w B b (l ++ out) c (by have := HC.out.1; omega) (by have := HC.out.2; omega) _ (by have := HB4.out.1; rwa [show optL none = [] from rfl, List.append_nil] at this) HLL.out (by have := HBB.out.size; have := HB4.out.2.1.size; have := HGB.out; omega)).mono ?_; rintro e W5 ⟨rfl, hB5⟩; have HB5 := Aside0.mk hB5; clear hB5) | fail)
          go_roundg n
          case measure => omega
          case rel => exact ⟨pos', out ++ charB partB c, ⟨HE3.out.symm⟩, ⟨by have := HN.out; have := HDP.out; have := HOL.out; omega⟩, ⟨HB5.out.2.2.iter (HB4.out.2.2.iter HI.out HGB.out.2.2) HGB.out.2.2⟩, ⟨by rw [HO.out, ← List.append_assoc]; exact HB5.out.1⟩, ⟨(HBB.out.trans HB4.out.2.1).trans HB5.out.2.1⟩⟩
      · have hnx : ∀ ty, (Instr.next (.pointer (some ⟨w.heap.size, 0, none⟩)) true ty).run Tryd.prog wr = .ok (.tuple #[.bool false]) wr := fun ty => run_next_end_at wr w.heap.size S pos ty HI.out c0
        have HE2 : Aside0 (out = partsB partB (decS S)) := ⟨by rw [← HE.out, decL, if_neg c0]; simp [partsB]⟩
        clear c0
        go_wp2_with fail
        go_end0
        exact ⟨rfl, by rw [← HE2.out]; exact HBL.out, HBB.out⟩
end Go.Proofs.YtpnlbmeeihbjaabDoor.P
end
section
set_option linter.unusedVariables false
set_option linter.unusedSimpArgs false
namespace Go.Proofs.YtpnlbmeeihbjaabDoor.P
open Go.RowKit Go.Proofs.YtpnlbmeeihbjaabDoorW.PrintWords Go.Proofs.YtpnlbmeeihbjaabDoorW.PrintLast Go.Proofs.YtpnlbmeeihbjaabDoorW.PrintMore
open Go.Lib
attribute [local go_sem] max2_int min2_int max_two min_two max_three min_three max_four min_four
set_option linter.unusedVariables false
set_option linter.unusedSimpArgs false
open Go.Lib
def hpB (S D : ByteArray) : Bool := decide (D.size ≤ S.size) && ((S.extract 0 D.size).toList == D.toList)
theorem hasPrefix_f (S D : ByteArray) : strings_HasPrefix.f S D = some (hpB S D) := by
  simp only [strings_HasPrefix.f, stringslite_HasPrefix.f, hpB, Option.bind_some]
  by_cases h : D.size ≤ S.size
  · rw [if_pos (by omega), if_pos (by omega), if_pos (by omega)]
    simp [h]
  · rw [if_neg (by omega)]
    simp [h]
theorem hasPrefix_calls (S D : ByteArray) (w : World) : Calls Tryd.prog 30 #[.string S, .string D] w fun e w' => e = .returned (.bool (hpB S D)) ∧ Below w.heap.size w w' :=
  (strings_HasPrefix.calls S D _ w (hasPrefix_f S D)).mono (fun e w' h => ⟨h.1, h.2.below⟩)
def hd0 (R : ByteArray) : Nat := if h : 0 < R.size then (R[0]'h).toNat else 0
theorem hd0_at (R : ByteArray) (h : 0 < R.size) : hd0 R = (R[0]'h).toNat := dif_pos h
def escR (R : ByteArray) : List UInt8 := if 0 < R.size ∧ btw 48 57 (hd0 R) = true then hexC (hd0 R) ++ partsB partB (decS (R.extract 1 R.size)) else partsB partB (decS R)
def escS (S : ByteArray) : List UInt8 := if hpB S ⟨#[45]⟩ = true ∧ 1 < S.size then 45 :: escR (S.extract 1 S.size) else if S.toList = [45] then [92, 45] else escR S
theorem bytes_len (S : ByteArray) : S.toList.length = S.size := by
  rw [ByteArray.toList_eq]
  rfl
theorem ne_nil (S : ByteArray) (h : 0 < S.size) : S.toList.isEmpty = false := by
  have : S.toList ≠ [] := fun e => by
    have h2 := congrArg List.length e
    rw [bytes_len] at h2
    have h3 : S.size = 0 := h2
    omega
  simp [this]
theorem eq_nil (S : ByteArray) (h : ¬ 0 < S.size) : S.toList.isEmpty = true := by
  have : S.toList = [] := List.eq_nil_of_length_eq_zero (by rw [bytes_len]; omega)
  simp [this]
theorem ne_one (S : ByteArray) (h : 1 < S.size) : (S.toList == [45]) = false := by
  have : S.toList ≠ [45] := fun e => by
    have h2 := congrArg List.length e
    rw [bytes_len] at h2
    have h3 : S.size = 1 := h2
    omega
  simp [this]
set_option maxHeartbeats 16000000 in
set_option maxRecDepth 100000 in
theorem escape_A (S : ByteArray) (w : World) (hT : WT w) (hlen : S.size ≤ 1099511627776) (h1 : hpB S ⟨#[45]⟩ = true) (h2 : 1 < S.size) :
    Calls Tryd.prog 14 #[.string S] w fun e w' => e = .returned (.string ⟨(escS S).toArray⟩) ∧ Below w.heap.size w w' := by
  have hu44 := Tryd.underlying44
  have hu40 := Tryd.underlying40
  have hu42 := Tryd.underlying42
  have hu46 := Tryd.underlying46
  have hu41 := Tryd.underlying41
  have h3 : 3 < w.heap.size := by
    have : w.cell? ⟨3, 15, none⟩ = some (.int .u8 4) := hT
    obtain ⟨c, e, fr, hb, _⟩ := Go.Sort.cells_of_cell? this
    exact blk_lt hb
  have hp := hasPrefix_calls S ⟨#[45]⟩
  have HBN : Aside0 (Below w.heap.size w (w.alloc (.cells #[.pointer none, .slice none 0 0] 46))) := ⟨below_alloc (Below.refl w.heap.size w) _⟩
  have HWR : Aside0 (Blw (w.alloc (.cells #[.pointer none, .slice none 0 0] 46)) w.heap.size w.heap.size []) := ⟨Blw.new w w.heap.size (Nat.le_refl _)⟩
  have HT := Aside0.mk hT
  have HS := Aside0.mk hlen
  have H3 := Aside0.mk h3
  clear hT hlen h3
  have HU0 : Aside0 (escS S = 45 :: escR (S.extract 1 S.size)) := ⟨by rw [escS, if_pos ⟨h1, h2⟩]⟩
  have d1 : decide ((1 : Int) < (S.size : Int)) = true := decide_eq_true (by omega)
  have d2 : (S.toList == [45]) = false := ne_one S h2
  have HR : Aside0 ((S.extract 1 S.size).size ≤ S.size ∧ ((S.extract 1 S.size).extract 1 (S.extract 1 S.size).size).size ≤ S.size) := ⟨by simp; omega⟩
  go_enter Tryd.func14, Tryd.ntmps14
  go_upto_region 6 with (first | (go_at_call 30; (with_reducible refine (hp _).mono ?_); rintro e W ⟨rfl, hb⟩; rw [h1]; have HBN := Aside0.mk (HBN.out.trans (below_less hb HBN.out.size)); have HWR := Aside0.mk (HWR.out.mono hb); clear hb) | (go_at_call 25; refine (wbyte w.heap.size w.heap.size _ 45 _ HWR.out (by simp) (by have := HBN.out.size; omega)).mono ?_; rintro e W ⟨rfl, hb⟩; have HBN := Aside0.mk (HBN.out.trans hb.2.1); have HWR := Aside0.mk hb.1; clear hb) | fail)
  generalize S.extract 1 S.size = R at HU0 HR ⊢
  by_cases hz : 0 < R.size
  · have HZ := Aside0.mk hz
    have e0 : hd0 R = (R[0]'hz).toNat := hd0_at R hz
    have hw : wrap32 (((R[0]'hz).toNat : Nat) : Int) = (((R[0]'hz).toNat : Nat) : Int) := by have := UInt8.toNat_lt (R[0]'hz); unfold wrap32; omega
    have d3 : R.toList.isEmpty = false := ne_nil R hz
    cases hd : btw 48 57 (((R[0]'hz).toNat : Nat) : Int)
    · have HD := Aside0.mk hd
      have HF : Aside0 (escR R = partsB partB (decS R)) := ⟨by rw [escR, if_neg (fun h => by rw [e0, hd] at h; exact absurd h.2 (by simp))]⟩
      clear hd e0
      go_wp2_with (first | (go_at_call 31; (with_reducible refine (digit_calls _ _).mono ?_); rintro e W ⟨rfl, hb⟩; rw [HD.out]; have HBN := Aside0.mk (HBN.out.trans (below_less hb HBN.out.size)); have HWR := Aside0.mk (HWR.out.mono hb); clear hb) | (go_at_call 33; refine (parts_w w.heap.size w.heap.size _ R _ (HT.out.keep H3.out HBN.out) H3.out HWR.out (by have h6 := HS.out; have h7 := HR.out.1; have h8 := HR.out.2; have h9 := hexC_len (R[0]?.getD 0).toNat; simp only [List.length_append, List.length_cons, List.length_nil]; omega) (by have := HBN.out.size; omega)).mono ?_; rintro e W ⟨rfl, hb⟩; have HBN := Aside0.mk (HBN.out.trans hb.2); have HWR := Aside0.mk hb.1; clear hb) | (go_at_call 29; refine (wstring w.heap.size w.heap.size _ _ HWR.out).mono ?_; rintro e W ⟨rfl, hb⟩; have HBN := Aside0.mk (HBN.out.trans hb); clear hb) | fail)
      go_ret
      exact ⟨by rw [HU0.out, HF.out]; simp, HBN.out⟩
    · have HD := Aside0.mk hd
      have HF : Aside0 (escR R = hexC (R[0]'hz).toNat ++ partsB partB (decS (R.extract 1 R.size))) := ⟨by rw [escR, if_pos ⟨hz, by rw [e0]; exact hd⟩, e0]⟩
      have HLN : Aside0 ((hexC (R[0]'hz).toNat).length ≤ 10) := ⟨hexC_len _⟩
      clear hd e0
      go_wp2_with (first | (go_at_call 31; (with_reducible refine (digit_calls _ _).mono ?_); rintro e W ⟨rfl, hb⟩; rw [HD.out]; have HBN := Aside0.mk (HBN.out.trans (below_less hb HBN.out.size)); have HWR := Aside0.mk (HWR.out.mono hb); clear hb) | (go_at_call 32; refine (number_w w.heap.size w.heap.size _ (R[0]'HZ.out).toNat (by have := UInt8.toNat_lt (R[0]'HZ.out); omega) _ (HT.out.keep H3.out HBN.out) HWR.out (by simp) (by have := HBN.out.size; omega)).mono ?_; rintro e W ⟨rfl, hb⟩; have HBN := Aside0.mk (HBN.out.trans hb.2.1); have HWR := Aside0.mk hb.1; clear hb) | (go_at_call 33; refine (parts_w w.heap.size w.heap.size _ (R.extract 1 R.size) _ (HT.out.keep H3.out HBN.out) H3.out HWR.out (by have h6 := HS.out; have h7 := HR.out.1; have h8 := HR.out.2; have h10 := HLN.out; simp only [List.length_append, List.length_cons, List.length_nil]; omega) (by have := HBN.out.size; omega)).mono ?_; rintro e W ⟨rfl, hb⟩; have HBN := Aside0.mk (HBN.out.trans hb.2); have HWR := Aside0.mk hb.1; clear hb) | (go_at_call 29; refine (wstring w.heap.size w.heap.size _ _ HWR.out).mono ?_; rintro e W ⟨rfl, hb⟩; have HBN := Aside0.mk (HBN.out.trans hb); clear hb) | fail)
      go_ret
      exact ⟨by rw [HU0.out, HF.out]; simp, HBN.out⟩
  · have d3 : R.toList.isEmpty = true := eq_nil R hz
    have HF : Aside0 (escR R = partsB partB (decS R)) := ⟨by rw [escR, if_neg (fun h => hz h.1)]⟩
    clear hz
    go_wp2_with (first | (go_at_call 33; refine (parts_w w.heap.size w.heap.size _ R _ (HT.out.keep H3.out HBN.out) H3.out HWR.out (by have h6 := HS.out; have h7 := HR.out.1; have h8 := HR.out.2; have h9 := hexC_len (R[0]?.getD 0).toNat; simp only [List.length_append, List.length_cons, List.length_nil]; omega) (by have := HBN.out.size; omega)).mono ?_; rintro e W ⟨rfl, hb⟩; have HBN := Aside0.mk (HBN.out.trans hb.2); have HWR := Aside0.mk hb.1; clear hb) | (go_at_call 29; refine (wstring w.heap.size w.heap.size _ _ HWR.out).mono ?_; rintro e W ⟨rfl, hb⟩; have HBN := Aside0.mk (HBN.out.trans hb); clear hb) | fail)
    go_ret
    exact ⟨by rw [HU0.out, HF.out]; simp, HBN.out⟩
set_option maxHeartbeats 16000000 in
set_option maxRecDepth 100000 in
theorem escape_C (S : ByteArray) (w : World) (hT : WT w) (hlen : S.size ≤ 1099511627776) (h1 : hpB S ⟨#[45]⟩ = true → ¬ 1 < S.size) (h2 : S.toList ≠ [45]) :
    Calls Tryd.prog 14 #[.string S] w fun e w' => e = .returned (.string ⟨(escS S).toArray⟩) ∧ Below w.heap.size w w' := by
  have hu44 := Tryd.underlying44
  have hu40 := Tryd.underlying40
  have hu42 := Tryd.underlying42
  have hu46 := Tryd.underlying46
  have hu41 := Tryd.underlying41
  have h3 : 3 < w.heap.size := by
    have : w.cell? ⟨3, 15, none⟩ = some (.int .u8 4) := hT
    obtain ⟨c, e, fr, hb, _⟩ := Go.Sort.cells_of_cell? this
    exact blk_lt hb
  have hp := hasPrefix_calls S ⟨#[45]⟩
  have HBN : Aside0 (Below w.heap.size w (w.alloc (.cells #[.pointer none, .slice none 0 0] 46))) := ⟨below_alloc (Below.refl w.heap.size w) _⟩
  have HWR : Aside0 (Blw (w.alloc (.cells #[.pointer none, .slice none 0 0] 46)) w.heap.size w.heap.size []) := ⟨Blw.new w w.heap.size (Nat.le_refl _)⟩
  have HT := Aside0.mk hT
  have HS := Aside0.mk hlen
  have H3 := Aside0.mk h3
  clear hT hlen h3
  have HU0 : Aside0 (escS S = escR S) := ⟨by rw [escS, if_neg (fun h => h1 h.1 h.2), if_neg h2]⟩
  have d2 : (S.toList == [45]) = false := by simp [h2]
  have HR : Aside0 (S.size ≤ S.size ∧ (S.extract 1 S.size).size ≤ S.size) := ⟨by simp⟩
  obtain ⟨R, hR⟩ : ∃ R, R = S := ⟨_, rfl⟩
  cases ho : hpB S ⟨#[45]⟩
  · have h1 := ho
    go_enter Tryd.func14, Tryd.ntmps14
    go_upto_region 6 with (first | (go_at_call 30; (with_reducible refine (hp _).mono ?_); rintro e W ⟨rfl, hb⟩; rw [h1]; have HBN := Aside0.mk (HBN.out.trans (below_less hb HBN.out.size)); have HWR := Aside0.mk (HWR.out.mono hb); clear hb) | (go_at_call 25; refine (wbyte w.heap.size w.heap.size _ 45 _ HWR.out (by simp) (by have := HBN.out.size; omega)).mono ?_; rintro e W ⟨rfl, hb⟩; have HBN := Aside0.mk (HBN.out.trans hb.2.1); have HWR := Aside0.mk hb.1; clear hb) | fail)
    subst hR
    by_cases hz : 0 < R.size
    · have HZ := Aside0.mk hz
      have e0 : hd0 R = (R[0]'hz).toNat := hd0_at R hz
      have hw : wrap32 (((R[0]'hz).toNat : Nat) : Int) = (((R[0]'hz).toNat : Nat) : Int) := by have := UInt8.toNat_lt (R[0]'hz); unfold wrap32; omega
      have d3 : R.toList.isEmpty = false := ne_nil R hz
      cases hd : btw 48 57 (((R[0]'hz).toNat : Nat) : Int)
      · have HD := Aside0.mk hd
        have HF : Aside0 (escR R = partsB partB (decS R)) := ⟨by rw [escR, if_neg (fun h => by rw [e0, hd] at h; exact absurd h.2 (by simp))]⟩
        clear hd e0
        go_wp2_with (first | (go_at_call 31; (with_reducible refine (digit_calls _ _).mono ?_); rintro e W ⟨rfl, hb⟩; rw [HD.out]; have HBN := Aside0.mk (HBN.out.trans (below_less hb HBN.out.size)); have HWR := Aside0.mk (HWR.out.mono hb); clear hb) | (go_at_call 33; refine (parts_w w.heap.size w.heap.size _ R _ (HT.out.keep H3.out HBN.out) H3.out HWR.out (by have h6 := HS.out; have h7 := HR.out.1; have h8 := HR.out.2; have h9 := hexC_len (R[0]?.getD 0).toNat; simp only [List.length_append, List.length_cons, List.length_nil]; omega) (by have := HBN.out.size; omega)).mono ?_; rintro e W ⟨rfl, hb⟩; have HBN := Aside0.mk (HBN.out.trans hb.2); have HWR := Aside0.mk hb.1; clear hb) | (go_at_call 29; refine (wstring w.heap.size w.heap.size _ _ HWR.out).mono ?_; rintro e W ⟨rfl, hb⟩; have HBN := Aside0.mk (HBN.out.trans hb); clear hb) | fail)
        go_ret
        exact ⟨by rw [HU0.out, HF.out]; simp, HBN.out⟩
      · have HD := Aside0.mk hd
        have HF : Aside0 (escR R = hexC (R[0]'hz).toNat ++ partsB partB (decS (R.extract 1 R.size))) := ⟨by rw [escR, if_pos ⟨hz, by rw [e0]; exact hd⟩, e0]⟩
        have HLN : Aside0 ((hexC (R[0]'hz).toNat).length ≤ 10) := ⟨hexC_len _⟩
        clear hd e0
        go_wp2_with (first | (go_at_call 31; (with_reducible refine (digit_calls _ _).mono ?_); rintro e W ⟨rfl, hb⟩; rw [HD.out]; have HBN := Aside0.mk (HBN.out.trans (below_less hb HBN.out.size)); have HWR := Aside0.mk (HWR.out.mono hb); clear hb) | (go_at_call 32; refine (number_w w.heap.size w.heap.size _ (R[0]'HZ.out).toNat (by have := UInt8.toNat_lt (R[0]'HZ.out); omega) _ (HT.out.keep H3.out HBN.out) HWR.out (by simp) (by have := HBN.out.size; omega)).mono ?_; rintro e W ⟨rfl, hb⟩; have HBN := Aside0.mk (HBN.out.trans hb.2.1); have HWR := Aside0.mk hb.1; clear hb) | (go_at_call 33; refine (parts_w w.heap.size w.heap.size _ (R.extract 1 R.size) _ (HT.out.keep H3.out HBN.out) H3.out HWR.out (by have h6 := HS.out; have h7 := HR.out.1; have h8 := HR.out.2; have h10 := HLN.out; simp only [List.length_append, List.length_cons, List.length_nil]; omega) (by have := HBN.out.size; omega)).mono ?_; rintro e W ⟨rfl, hb⟩; have HBN := Aside0.mk (HBN.out.trans hb.2); have HWR := Aside0.mk hb.1; clear hb) | (go_at_call 29; refine (wstring w.heap.size w.heap.size _ _ HWR.out).mono ?_; rintro e W ⟨rfl, hb⟩; have HBN := Aside0.mk (HBN.out.trans hb); clear hb) | fail)
        go_ret
        exact ⟨by rw [HU0.out, HF.out]; simp, HBN.out⟩
    · have d3 : R.toList.isEmpty = true := eq_nil R hz
      have HF : Aside0 (escR R = partsB partB (decS R)) := ⟨by rw [escR, if_neg (fun h => hz h.1)]⟩
      clear hz
      go_wp2_with (first | (go_at_call 33; refine (parts_w w.heap.size w.heap.size _ R _ (HT.out.keep H3.out HBN.out) H3.out HWR.out (by have h6 := HS.out; have h7 := HR.out.1; have h8 := HR.out.2; have h9 := hexC_len (R[0]?.getD 0).toNat; simp only [List.length_append, List.length_cons, List.length_nil]; omega) (by have := HBN.out.size; omega)).mono ?_; rintro e W ⟨rfl, hb⟩; have HBN := Aside0.mk (HBN.out.trans hb.2); have HWR := Aside0.mk hb.1; clear hb) | (go_at_call 29; refine (wstring w.heap.size w.heap.size _ _ HWR.out).mono ?_; rintro e W ⟨rfl, hb⟩; have HBN := Aside0.mk (HBN.out.trans hb); clear hb) | fail)
      go_ret
      exact ⟨by rw [HU0.out, HF.out]; simp, HBN.out⟩
  · have d1 : decide ((1 : Int) < (S.size : Int)) = false := decide_eq_false (by have := h1 ho; omega)
    have h1 := ho
    go_enter Tryd.func14, Tryd.ntmps14
    go_upto_region 6 with (first | (go_at_call 30; (with_reducible refine (hp _).mono ?_); rintro e W ⟨rfl, hb⟩; rw [h1]; have HBN := Aside0.mk (HBN.out.trans (below_less hb HBN.out.size)); have HWR := Aside0.mk (HWR.out.mono hb); clear hb) | (go_at_call 25; refine (wbyte w.heap.size w.heap.size _ 45 _ HWR.out (by simp) (by have := HBN.out.size; omega)).mono ?_; rintro e W ⟨rfl, hb⟩; have HBN := Aside0.mk (HBN.out.trans hb.2.1); have HWR := Aside0.mk hb.1; clear hb) | fail)
    subst hR
    by_cases hz : 0 < R.size
    · have HZ := Aside0.mk hz
      have e0 : hd0 R = (R[0]'hz).toNat := hd0_at R hz
      have hw : wrap32 (((R[0]'hz).toNat : Nat) : Int) = (((R[0]'hz).toNat : Nat) : Int) := by have := UInt8.toNat_lt (R[0]'hz); unfold wrap32; omega
      have d3 : R.toList.isEmpty = false := ne_nil R hz
      cases hd : btw 48 57 (((R[0]'hz).toNat : Nat) : Int)
      · have HD := Aside0.mk hd
        have HF : Aside0 (escR R = partsB partB (decS R)) := ⟨by rw [escR, if_neg (fun h => by rw [e0, hd] at h; exact absurd h.2 (by simp))]⟩
        clear hd e0
        go_wp2_with (first | (go_at_call 31; (with_reducible refine (digit_calls _ _).mono ?_); rintro e W ⟨rfl, hb⟩; rw [HD.out]; have HBN := Aside0.mk (HBN.out.trans (below_less hb HBN.out.size)); have HWR := Aside0.mk (HWR.out.mono hb); clear hb) | (go_at_call 33; refine (parts_w w.heap.size w.heap.size _ R _ (HT.out.keep H3.out HBN.out) H3.out HWR.out (by have h6 := HS.out; have h7 := HR.out.1; have h8 := HR.out.2; have h9 := hexC_len (R[0]?.getD 0).toNat; simp only [List.length_append, List.length_cons, List.length_nil]; omega) (by have := HBN.out.size; omega)).mono ?_; rintro e W ⟨rfl, hb⟩; have HBN := Aside0.mk (HBN.out.trans hb.2); have HWR := Aside0.mk hb.1; clear hb) | (go_at_call 29; refine (wstring w.heap.size w.heap.size _ _ HWR.out).mono ?_; rintro e W ⟨rfl, hb⟩; have HBN := Aside0.mk (HBN.out.trans hb); clear hb) | fail)
        go_ret
        exact ⟨by rw [HU0.out, HF.out]; simp, HBN.out⟩
      · have HD := Aside0.mk hd
        have HF : Aside0 (escR R = hexC (R[0]'hz).toNat ++ partsB partB (decS (R.extract 1 R.size))) := ⟨by rw [escR, if_pos ⟨hz, by rw [e0]; exact hd⟩, e0]⟩
        have HLN : Aside0 ((hexC (R[0]'hz).toNat).length ≤ 10) := ⟨hexC_len _⟩
        clear hd e0
        go_wp2_with (first | (go_at_call 31; (with_reducible refine (digit_calls _ _).mono ?_); rintro e W ⟨rfl, hb⟩; rw [HD.out]; have HBN := Aside0.mk (HBN.out.trans (below_less hb HBN.out.size)); have HWR := Aside0.mk (HWR.out.mono hb); clear hb) | (go_at_call 32; refine (number_w w.heap.size w.heap.size _ (R[0]'HZ.out).toNat (by have := UInt8.toNat_lt (R[0]'HZ.out); omega) _ (HT.out.keep H3.out HBN.out) HWR.out (by simp) (by have := HBN.out.size; omega)).mono ?_; rintro e W ⟨rfl, hb⟩; have HBN := Aside0.mk (HBN.out.trans hb.2.1); have HWR := Aside0.mk hb.1; clear hb) | (go_at_call 33; refine (parts_w w.heap.size w.heap.size _ (R.extract 1 R.size) _ (HT.out.keep H3.out HBN.out) H3.out HWR.out (by have h6 := HS.out; have h7 := HR.out.1; have h8 := HR.out.2; have h10 := HLN.out; simp only [List.length_append, List.length_cons, List.length_nil]; omega) (by have := HBN.out.size; omega)).mono ?_; rintro e W ⟨rfl, hb⟩; have HBN := Aside0.mk (HBN.out.trans hb.2); have HWR := Aside0.mk hb.1; clear hb) | (go_at_call 29; refine (wstring w.heap.size w.heap.size _ _ HWR.out).mono ?_; rintro e W ⟨rfl, hb⟩; have HBN := Aside0.mk (HBN.out.trans hb); clear hb) | fail)
        go_ret
        exact ⟨by rw [HU0.out, HF.out]; simp, HBN.out⟩
    · have d3 : R.toList.isEmpty = true := eq_nil R hz
      have HF : Aside0 (escR R = partsB partB (decS R)) := ⟨by rw [escR, if_neg (fun h => hz h.1)]⟩
      clear hz
      go_wp2_with (first | (go_at_call 33; refine (parts_w w.heap.size w.heap.size _ R _ (HT.out.keep H3.out HBN.out) H3.out HWR.out (by have h6 := HS.out; have h7 := HR.out.1; have h8 := HR.out.2; have h9 := hexC_len (R[0]?.getD 0).toNat; simp only [List.length_append, List.length_cons, List.length_nil]; omega) (by have := HBN.out.size; omega)).mono ?_; rintro e W ⟨rfl, hb⟩; have HBN := Aside0.mk (HBN.out.trans hb.2); have HWR := Aside0.mk hb.1; clear hb) | (go_at_call 29; refine (wstring w.heap.size w.heap.size _ _ HWR.out).mono ?_; rintro e W ⟨rfl, hb⟩; have HBN := Aside0.mk (HBN.out.trans hb); clear hb) | fail)
      go_ret
      exact ⟨by rw [HU0.out, HF.out]; simp, HBN.out⟩
set_option maxHeartbeats 16000000 in
set_option maxRecDepth 100000 in
theorem escape_B (S : ByteArray) (w : World) (hT : WT w) (hlen : S.size ≤ 1099511627776) (h2 : S.toList = [45]) :
    Calls Tryd.prog 14 #[.string S] w fun e w' => e = .returned (.string ⟨(escS S).toArray⟩) ∧ Below w.heap.size w w' := by
  have hu44 := Tryd.underlying44
  have hu40 := Tryd.underlying40
  have hu42 := Tryd.underlying42
  have hu46 := Tryd.underlying46
  have hu41 := Tryd.underlying41
  have h3 : 3 < w.heap.size := by
    have : w.cell? ⟨3, 15, none⟩ = some (.int .u8 4) := hT
    obtain ⟨c, e, fr, hb, _⟩ := Go.Sort.cells_of_cell? this
    exact blk_lt hb
  have hp := hasPrefix_calls S ⟨#[45]⟩
  have HBN : Aside0 (Below w.heap.size w (w.alloc (.cells #[.pointer none, .slice none 0 0] 46))) := ⟨below_alloc (Below.refl w.heap.size w) _⟩
  have HWR : Aside0 (Blw (w.alloc (.cells #[.pointer none, .slice none 0 0] 46)) w.heap.size w.heap.size []) := ⟨Blw.new w w.heap.size (Nat.le_refl _)⟩
  have HT := Aside0.mk hT
  have HS := Aside0.mk hlen
  have H3 := Aside0.mk h3
  clear hT hlen h3
  have hs : S.size = 1 := by
    have := congrArg List.length h2
    rw [bytes_len] at this
    exact this
  have HU0 : Aside0 (escS S = [92, 45]) := ⟨by rw [escS, if_neg (fun h => by omega), if_pos h2]⟩
  have d2 : (S.toList == [45]) = true := by simp [h2]
  have d1 : decide ((1 : Int) < (S.size : Int)) = false := decide_eq_false (by omega)
  cases ho : hpB S ⟨#[45]⟩
  all_goals have h1 := ho
  all_goals clear h2 hs
  all_goals go_enter Tryd.func14, Tryd.ntmps14
  all_goals go_wp2_with (first | (go_at_call 30; (with_reducible refine (hp _).mono ?_); rintro e W ⟨rfl, hb⟩; rw [h1]; have HBN := Aside0.mk (HBN.out.trans (below_less hb HBN.out.size)); have HWR := Aside0.mk (HWR.out.mono hb); clear hb) | (go_at_call 28; refine (barred_w w.heap.size w.heap.size _ 45 (by omega) (by omega) _ HWR.out (by simp) (by have := HBN.out.size; omega)).mono ?_; rintro e W ⟨rfl, hb⟩; have HBN := Aside0.mk (HBN.out.trans hb.2.1); have HWR := Aside0.mk hb.1; clear hb) | (go_at_call 29; refine (wstring w.heap.size w.heap.size _ _ HWR.out).mono ?_; rintro e W ⟨rfl, hb⟩; have HBN := Aside0.mk (HBN.out.trans hb); clear hb) | fail)
  all_goals go_ret
  all_goals exact ⟨by rw [HU0.out]; rfl, HBN.out⟩
theorem escape_w (S : ByteArray) (w : World) (hT : WT w) (hlen : S.size ≤ 1099511627776) :
    Calls Tryd.prog 14 #[.string S] w fun e w' => e = .returned (.string ⟨(escS S).toArray⟩) ∧ Below w.heap.size w w' := by
  by_cases h2 : S.toList = [45]
  · exact escape_B S w hT hlen h2
  · by_cases h1 : hpB S ⟨#[45]⟩ = true ∧ 1 < S.size
    · exact escape_A S w hT hlen h1.1 h1.2
    · exact escape_C S w hT hlen (fun a b => h1 ⟨a, b⟩) h2
end Go.Proofs.YtpnlbmeeihbjaabDoor.P
end
section
set_option linter.unusedVariables false
set_option linter.unusedSimpArgs false
namespace Go.Proofs.YtpnlbmeeihbjaabDoor.P
open Go.RowKit Go.Proofs.YtpnlbmeeihbjaabDoorW.PrintWords Go.Proofs.YtpnlbmeeihbjaabDoorW.PrintLast Go.Proofs.YtpnlbmeeihbjaabDoorW.PrintMore
open Go.Lib
attribute [local go_sem] max2_int min2_int max_two min_two max_three min_three max_four min_four
set_option linter.unusedVariables false
set_option linter.unusedSimpArgs false
open Go.Lib
def cutS (S : ByteArray) : List S26 := toksS (runS S)
theorem runL_len (S : ByteArray) : ∀ (k pos : Nat) (was : Int), (runL S k pos was).length ≤ k
  | 0, _, _ => Nat.le_refl _
  | k + 1, pos, was => by
    have := runL_len S k (pos + (Utf8.decode S pos).2) (Utf8.decode S pos).1
    unfold runL
    split
    · rw [List.length_append]
      split <;> simp <;> omega
    · simp
theorem runL_char (S : ByteArray) : ∀ (k pos : Nat) (was : Int), ∀ c ∈ runL S k pos was, 0 < c ∧ c ≤ 1114111
  | 0, _, _, c, h => by cases h
  | k + 1, pos, was, c, h => by
    have ih := runL_char S k (pos + (Utf8.decode S pos).2) (Utf8.decode S pos).1 c
    have hr := rune_le S pos
    unfold runL at h
    split at h
    · rcases List.mem_append.1 h with h | h
      · split at h
        · cases h
        · simp only [List.mem_singleton] at h
          subst h
          split
          · omega
          · split <;> omega
      · exact ih h
    · cases h
theorem okL_run (S : ByteArray) (h : S.size < 1099511627776) : OkL (runS S) := by
  refine ⟨?_, fun c hc => ?_⟩
  · have := runL_len S (S.size + 1) 0 0
    unfold runS
    omega
  · have := runL_char S (S.size + 1) 0 0 c hc
    omega
theorem nums_back (S : ByteArray) : strOfNums (bytesOfS S) = S := by
  have h : (strOfNums (bytesOfS S)).data.toList = S.data.toList := by
    rw [strOfNums_data]
    unfold bytesOfS
    rw [List.map_map]
    conv => rhs; rw [← List.map_id S.data.toList]
    refine List.map_congr_left fun b _ => ?_
    simp
  exact Go.WideShapes.bytes_inj h
set_option maxHeartbeats 4000000 in
set_option maxRecDepth 100000 in
theorem cut_calls (S : ByteArray) (w : World) (hS : S.size < 1099511627776) :
    Calls Tryd.prog 10 #[.string S] w fun e w' => ∃ v, e = .returned v ∧ Kd.R k26 26 w' w.heap.size (fun _ => True) v (cutS S) ∧ Below w.heap.size w w' := by
  have hu9 := Tryd.underlying9
  have hu40 := Tryd.underlying40
  have hO := Aside0.mk (okL_run S hS)
  have hcv := Lib.run_convert_string_bytes (P := Tryd.prog) w 9 40 5 S Tryd.underlying9 Tryd.underlying40 Tryd.underlying5
  have HB := Aside0.mk (bytesWorld_below w 5 S)
  have c24 := runes_calls S (some ⟨w.heap.size, 0, none⟩) (grownCap w S.size 0 5) (Lib.bytesWorld w 5 S) (by omega) (fun W hW => by
    have h := ((BRow.made w 5 S).below hW).str (P := Tryd.prog) 40 9 (grownCap w S.size 0 5) Tryd.underlying40 Tryd.underlying5 Tryd.underlying9 S.size (bytesOfS_len S)
    rw [nums_back] at h
    exact h)
  clear hS
  go_enter Tryd.func10, Tryd.ntmps10
  go_wp2_with fail
  refine c24.mono ?_
  rintro e W1 ⟨u, rfl, hR, hb⟩
  obtain ⟨A1, n1, rfl, hn1, hC1⟩ := Kd.R_reads hR
  have c23 := tokens_calls (runS S) A1 n1 W1 hC1 hn1 hO.out
  have HB1 := Aside0.mk (HB.out.trans (below_less hb HB.out.size))
  clear hcv c24 hR hC1 hb
  go_wp2_with fail
  refine c23.mono ?_
  rintro e W2 ⟨u, rfl, hR, hb⟩
  have HB2 := Aside0.mk (HB1.out.trans (below_less hb HB1.out.size))
  have HC2 := Aside0.mk (Kd.R_lower hR HB1.out.size)
  clear c23 hR hb
  go_wp2_with fail
  go_ret
  exact ⟨_, rfl, HC2.out, HB2.out⟩
end Go.Proofs.YtpnlbmeeihbjaabDoor.P
end
section
set_option linter.unusedVariables false
set_option linter.unusedSimpArgs false
namespace Go.Proofs.YtpnlbmeeihbjaabDoor.P
open Go.RowKit Go.Proofs.YtpnlbmeeihbjaabDoorW.PrintWords Go.Proofs.YtpnlbmeeihbjaabDoorW.PrintLast Go.Proofs.YtpnlbmeeihbjaabDoorW.PrintMore
open Go.Lib
attribute [local go_sem] max2_int min2_int max_two min_two max_three min_three max_four min_four
set_option linter.unusedVariables false
set_option linter.unusedSimpArgs false
def gouachelaw02_cut.f (a0 : ByteArray) : Option (List (S26)) := if a0.size < 1099511627776 then some (cutS a0) else none
theorem gouachelaw02_cut.calls (a0 : ByteArray) (r : List S26) (w : World) (h : gouachelaw02_cut.f a0 = some r) :
    Calls Tryd.prog 10 #[.string a0] w fun e w' => ∃ v, e = .returned v ∧ Kd.R k26 26 w' w.heap.size (fun _ => True) v r ∧ Below w.heap.size w w' := by
  unfold gouachelaw02_cut.f at h
  by_cases hs : a0.size < 1099511627776
  · rw [if_pos hs] at h
    obtain rfl := Option.some.inj h
    exact cut_calls a0 w hs
  · rw [if_neg hs] at h
    cases h
end Go.Proofs.YtpnlbmeeihbjaabDoor.P
end
section
set_option linter.unusedVariables false
set_option linter.unusedSimpArgs false
namespace Go.Proofs.YtpnlbmeeihbjaabDoor.P
open Go.RowKit Go.Proofs.YtpnlbmeeihbjaabDoorW.PrintWords Go.Proofs.YtpnlbmeeihbjaabDoorW.PrintLast Go.Proofs.YtpnlbmeeihbjaabDoorW.PrintMore
open Go.Lib
attribute [local go_sem] max2_int min2_int max_two min_two max_three min_three max_four min_four
set_option linter.unusedVariables false
set_option linter.unusedSimpArgs false
def token_Escape.f (a0 : ByteArray) : Option ByteArray := if a0.size ≤ 1099511627776 then some ⟨(escS a0).toArray⟩ else none
theorem token_Escape.calls (a0 : ByteArray) (r : ByteArray) (w : World) (h : token_Escape.f a0 = some r) (hT : WT w) :
    Calls Tryd.prog 14 #[.string a0] w fun e w' => e = .returned (.string r) ∧ Below w.heap.size w w' := by
  unfold token_Escape.f at h
  by_cases hs : a0.size ≤ 1099511627776
  · rw [if_pos hs] at h
    obtain rfl := Option.some.inj h
    exact escape_w a0 w hT hs
  · rw [if_neg hs] at h
    cases h
end Go.Proofs.YtpnlbmeeihbjaabDoor.P
end
section
set_option linter.unusedVariables false
set_option linter.unusedSimpArgs false
namespace Go.Proofs.YtpnlbmeeihbjaabDoor.P
open Go.RowKit Go.Proofs.YtpnlbmeeihbjaabDoorW.PrintWords Go.Proofs.YtpnlbmeeihbjaabDoorW.PrintLast Go.Proofs.YtpnlbmeeihbjaabDoorW.PrintMore
attribute [local go_sem] max2_int min2_int max_two min_two max_three min_three max_four min_four
set_option linter.unusedVariables false
set_option linter.unusedSimpArgs false
def gouachelaw02_lives.f  : Option (Bool) := (gouachelaw02_cut.f (⟨#[97, 123, 98, 58, 49, 46, 53, 101, 109, 125]⟩ : ByteArray)).bind fun t101 => ((gouachelaw02_cut.f (⟨#[34, 97, 10]⟩ : ByteArray)).bind fun t104 => (if (t101.length : Int) = 6 then (if 0 < (t101.length : Int) then (if ((rd_T26 t101 0).f0) = 1 then (if 4 < (t101.length : Int) then (if ((rd_T26 t101 4).f0) = 12 then (if ((rd_T26 t101 4).f1).toList = ([49, 46, 53] : List UInt8) then (if ((rd_T26 t101 4).f2).toList = ([101, 109] : List UInt8) then (if ((rd_T26 t101 4).f3 = true) then (some false) else (if (t104.length : Int) = 2 then (if 0 < (t104.length : Int) then (if ((rd_T26 t104 0).f0) = 6 then (if 1 < (t104.length : Int) then (if ((rd_T26 t104 1).f0) = 13 then ((token_Escape.f (⟨#[49]⟩ : ByteArray)).bind fun t114 => (some (t114.toList == ([92, 51, 49, 32] : List UInt8)))) else (some false)) else (none)) else (some false)) else (none)) else (some false))) else (some false)) else (some false)) else (some false)) else (none)) else (some false)) else (none)) else (some false)))
set_option maxHeartbeats 8000000 in
set_option maxRecDepth 100000 in
theorem gouachelaw02_lives.calls  (r : Bool) (w : World) (h : gouachelaw02_lives.f  = some r) (hT : WT w) :
    Calls Tryd.prog 9 #[] w fun e w' => e = .returned (.bool r) ∧ Below w.heap.size w w' := by
  have HT := Aside0.mk hT
  clear hT
  have HB := Aside0.mk (Below.refl w.heap.size w)
  have H : ((gouachelaw02_cut.f (⟨#[97, 123, 98, 58, 49, 46, 53, 101, 109, 125]⟩ : ByteArray)).bind fun t101 => ((gouachelaw02_cut.f (⟨#[34, 97, 10]⟩ : ByteArray)).bind fun t104 => (if (t101.length : Int) = 6 then (if 0 < (t101.length : Int) then (if ((rd_T26 t101 0).f0) = 1 then (if 4 < (t101.length : Int) then (if ((rd_T26 t101 4).f0) = 12 then (if ((rd_T26 t101 4).f1).toList = ([49, 46, 53] : List UInt8) then (if ((rd_T26 t101 4).f2).toList = ([101, 109] : List UInt8) then (if ((rd_T26 t101 4).f3 = true) then (some false) else (if (t104.length : Int) = 2 then (if 0 < (t104.length : Int) then (if ((rd_T26 t104 0).f0) = 6 then (if 1 < (t104.length : Int) then (if ((rd_T26 t104 1).f0) = 13 then ((token_Escape.f (⟨#[49]⟩ : ByteArray)).bind fun t114 => (some (t114.toList == ([92, 51, 49, 32] : List UInt8)))) else (some false)) else (none)) else (some false)) else (none)) else (some false))) else (some false)) else (some false)) else (some false)) else (none)) else (some false)) else (none)) else (some false)))) = some r := h
  clear h
  replace H := Option.bind_eq_some_iff.mp H
  obtain ⟨t101, A10, H⟩ := H
  replace H : ((gouachelaw02_cut.f (⟨#[34, 97, 10]⟩ : ByteArray)).bind fun t104 => (if (t101.length : Int) = 6 then (if 0 < (t101.length : Int) then (if ((rd_T26 t101 0).f0) = 1 then (if 4 < (t101.length : Int) then (if ((rd_T26 t101 4).f0) = 12 then (if ((rd_T26 t101 4).f1).toList = ([49, 46, 53] : List UInt8) then (if ((rd_T26 t101 4).f2).toList = ([101, 109] : List UInt8) then (if ((rd_T26 t101 4).f3 = true) then (some false) else (if (t104.length : Int) = 2 then (if 0 < (t104.length : Int) then (if ((rd_T26 t104 0).f0) = 6 then (if 1 < (t104.length : Int) then (if ((rd_T26 t104 1).f0) = 13 then ((token_Escape.f (⟨#[49]⟩ : ByteArray)).bind fun t114 => (some (t114.toList == ([92, 51, 49, 32] : List UInt8)))) else (some false)) else (none)) else (some false)) else (none)) else (some false))) else (some false)) else (some false)) else (some false)) else (none)) else (some false)) else (none)) else (some false))) = some r := H
  have A1 := Aside0.mk A10
  clear A10
  replace H := Option.bind_eq_some_iff.mp H
  obtain ⟨t104, A20, H⟩ := H
  replace H : (if (t101.length : Int) = 6 then (if 0 < (t101.length : Int) then (if ((rd_T26 t101 0).f0) = 1 then (if 4 < (t101.length : Int) then (if ((rd_T26 t101 4).f0) = 12 then (if ((rd_T26 t101 4).f1).toList = ([49, 46, 53] : List UInt8) then (if ((rd_T26 t101 4).f2).toList = ([101, 109] : List UInt8) then (if ((rd_T26 t101 4).f3 = true) then (some false) else (if (t104.length : Int) = 2 then (if 0 < (t104.length : Int) then (if ((rd_T26 t104 0).f0) = 6 then (if 1 < (t104.length : Int) then (if ((rd_T26 t104 1).f0) = 13 then ((token_Escape.f (⟨#[49]⟩ : ByteArray)).bind fun t114 => (some (t114.toList == ([92, 51, 49, 32] : List UInt8)))) else (some false)) else (none)) else (some false)) else (none)) else (some false))) else (some false)) else (some false)) else (some false)) else (none)) else (some false)) else (none)) else (some false)) = some r := H
  have A2 := Aside0.mk A20
  clear A20
  by_cases c3 : (t101.length : Int) = 6
  · rw [if_pos c3] at H
    have c3b0 : ((t101.length : Int) == 6) = true := beq_iff_eq.mpr c3
    have c3b1 : ((t101.length : Int) != 6) = false := bne_eq_false_iff_eq.mpr c3
    clear c3
    by_cases c4 : 0 < (t101.length : Int)
    · rw [if_pos c4] at H
      have c4b0 : decide (0 < (t101.length : Int)) = true := decide_eq_true c4
      have c4b1 : decide (0 < t101.length) = true := decide_eq_true (by omega)
      clear c4
      by_cases c5 : ((rd_T26 t101 0).f0) = 1
      · rw [if_pos c5] at H
        have c5b0 : (((rd_T26 t101 0).f0) == 1) = true := beq_iff_eq.mpr c5
        have c5b1 : (((rd_T26 t101 0).f0) != 1) = false := bne_eq_false_iff_eq.mpr c5
        clear c5
        by_cases c6 : 4 < (t101.length : Int)
        · rw [if_pos c6] at H
          have c6b0 : decide (4 < (t101.length : Int)) = true := decide_eq_true c6
          have c6b1 : decide (4 < t101.length) = true := decide_eq_true (by omega)
          clear c6
          by_cases c7 : ((rd_T26 t101 4).f0) = 12
          · rw [if_pos c7] at H
            have c7b0 : (((rd_T26 t101 4).f0) == 12) = true := beq_iff_eq.mpr c7
            have c7b1 : (((rd_T26 t101 4).f0) != 12) = false := bne_eq_false_iff_eq.mpr c7
            clear c7
            by_cases c8 : ((rd_T26 t101 4).f1).toList = ([49, 46, 53] : List UInt8)
            · rw [if_pos c8] at H
              have c8b0 : (((rd_T26 t101 4).f1).toList == ([49, 46, 53] : List UInt8)) = true := beq_iff_eq.mpr c8
              have c8b1 : (((rd_T26 t101 4).f1).toList != ([49, 46, 53] : List UInt8)) = false := bne_eq_false_iff_eq.mpr c8
              clear c8
              by_cases c9 : ((rd_T26 t101 4).f2).toList = ([101, 109] : List UInt8)
              · rw [if_pos c9] at H
                have c9b0 : (((rd_T26 t101 4).f2).toList == ([101, 109] : List UInt8)) = true := beq_iff_eq.mpr c9
                have c9b1 : (((rd_T26 t101 4).f2).toList != ([101, 109] : List UInt8)) = false := bne_eq_false_iff_eq.mpr c9
                clear c9
                obtain ⟨bq10, hbq10⟩ : ∃ b_ : Bool, b_ = ((rd_T26 t101 4).f3) := ⟨_, rfl⟩
                replace H : (if (bq10 = true) then (some false) else (if (t104.length : Int) = 2 then (if 0 < (t104.length : Int) then (if ((rd_T26 t104 0).f0) = 6 then (if 1 < (t104.length : Int) then (if ((rd_T26 t104 1).f0) = 13 then ((token_Escape.f (⟨#[49]⟩ : ByteArray)).bind fun t114 => (some (t114.toList == ([92, 51, 49, 32] : List UInt8)))) else (some false)) else (none)) else (some false)) else (none)) else (some false))) = some r := by rw [← hbq10] at H; exact H
                have Nbq10 := Aside0.mk hbq10
                clear hbq10
                by_cases c11 : (bq10 = true)
                · subst c11
                  have H1 : (some false) = some r := by rw [if_pos rfl] at H; exact H
                  clear H
                  have H := H1
                  clear H1
                  obtain rfl := Option.some.inj H
                  go_enter Tryd.func9, Tryd.ntmps9
                  go_wp2_with (first | ((with_reducible refine gate_callee (f := 10) rfl ?_); refine goesL_ (some 3) rfl rfl Tryd.func10 (by kernel_rfl) rfl #[.string (⟨#[97, 123, 98, 58, 49, 46, 53, 101, 109, 125]⟩ : ByteArray)] rfl (by (try simp only [List.map_toArray, List.map_cons, List.map_nil]); first | done | rfl | (simp only [List.length_drop, List.length_take]; rfl)) ?_; (with_reducible refine (gouachelaw02_cut.calls (⟨#[97, 123, 98, 58, 49, 46, 53, 101, 109, 125]⟩ : ByteArray) t101 _ A1.out).mono ?_); rintro e w12 ⟨v102, rfl, ho0, hb⟩; refine ⟨_, rfl, ?_⟩; have n0_ := Aside0.mk (Kd.R_lower ho0 (below_size (by repeat (first | (with_reducible first | exact HB.out | apply below_alloc | apply pw_below_drewN | apply below_drew1) | exact HB.out)))); have n1_ := Aside0.mk (below_step (by repeat (first | (with_reducible first | exact HB.out | apply below_alloc | apply pw_below_drewN | apply below_drew1) | exact HB.out)) hb); clear HB; have HO103 := n0_; have HB := n1_; clear n0_ n1_; (try clear hb); (try clear hb2); (try clear hk); (try clear hi); (try clear ho0)) | ((with_reducible refine gate_callee (f := 10) rfl ?_); refine goesL_ (some 4) rfl rfl Tryd.func10 (by kernel_rfl) rfl #[.string (⟨#[34, 97, 10]⟩ : ByteArray)] rfl (by (try simp only [List.map_toArray, List.map_cons, List.map_nil]); first | done | rfl | (simp only [List.length_drop, List.length_take]; rfl)) ?_; (with_reducible refine (gouachelaw02_cut.calls (⟨#[34, 97, 10]⟩ : ByteArray) t104 _ A2.out).mono ?_); rintro e w13 ⟨v105, rfl, ho0, hb⟩; refine ⟨_, rfl, ?_⟩; have n0_ := Aside0.mk (Kd.R_elder' (by (with_reducible repeat (first | apply Kd.R_alloc | apply Kd.R_drewN | apply Kd.R_drew)); exact HO103.out) (Kd.R_base ho0) hb); have n1_ := Aside0.mk (Kd.R_lower (Kd.R_new' ho0 (Kd.R_lt (by (with_reducible repeat (first | apply Kd.R_alloc | apply Kd.R_drewN | apply Kd.R_drew)); exact HO103.out))) (below_size (by repeat (first | (with_reducible first | exact HB.out | apply below_alloc | apply pw_below_drewN | apply below_drew1) | exact HB.out)))); have n2_ := Aside0.mk (below_step (by repeat (first | (with_reducible first | exact HB.out | apply below_alloc | apply pw_below_drewN | apply below_drew1) | exact HB.out)) hb); clear HO103; clear HB; have HO103 := n0_; have HO106 := n1_; have HB := n2_; clear n0_ n1_ n2_; (try clear hb); (try clear hb2); (try clear hk); (try clear hi); (try clear ho0); obtain ⟨Ao14, co14, eo14⟩ := Kd.R_slice HO103.out; subst eo14; have p107 : 0 ≤ (0 : Int) := (by omega); have q107 : 0 < (t101.length : Int) := of_decide_eq_true (by first | (with_reducible assumption) | assumption); obtain ⟨ad107, e107, hx107_0, hx107_1, hx107_2, hx107_3, hx107_4⟩ := at_T26 (Kd.R_reads' HO103.out).2.2 0 p107 q107; (try rw [← Nbq10.out] at hx107_3); (try rw [← Nbq10.out] at hx107_4); cases e107; have qi107 : (0 < t101.length) = True := eq_true (by omega); (try rw [show ((0 : Int)).toNat = 0 from rfl] at hx107_0); (try rw [show 0 * 5 = 0 from rfl] at hx107_0); (try rw [Addr.add_zero'] at hx107_0); (try rw [show ((0 : Int)).toNat = 0 from rfl] at hx107_1); (try rw [show 0 * 5 = 0 from rfl] at hx107_1); (try rw [Addr.add_zero'] at hx107_1); (try rw [show ((0 : Int)).toNat = 0 from rfl] at hx107_2); (try rw [show 0 * 5 = 0 from rfl] at hx107_2); (try rw [Addr.add_zero'] at hx107_2); (try rw [show ((0 : Int)).toNat = 0 from rfl] at hx107_3); (try rw [show 0 * 5 = 0 from rfl] at hx107_3); (try rw [Addr.add_zero'] at hx107_3); (try rw [show ((0 : Int)).toNat = 0 from rfl] at hx107_4); (try rw [show 0 * 5 = 0 from rfl] at hx107_4); (try rw [Addr.add_zero'] at hx107_4); replace p107 := eq_true p107; replace q107 := eq_true q107; have p108 : 0 ≤ (4 : Int) := (by omega); have q108 : 4 < (t101.length : Int) := of_decide_eq_true (by first | (with_reducible assumption) | assumption); obtain ⟨ad108, e108, hx108_0, hx108_1, hx108_2, hx108_3, hx108_4⟩ := at_T26 (Kd.R_reads' HO103.out).2.2 4 p108 q108; (try rw [← Nbq10.out] at hx108_3); (try rw [← Nbq10.out] at hx108_4); obtain rfl : ad107 = ad108 := (by injection e108); (try simp only [show (4 : Int).toNat = 4 from rfl, Nat.reduceMul, Nat.reduceEqDiff, Go.Addr.add, ↓reduceIte] at hx108_0); (try simp only [show (4 : Int).toNat = 4 from rfl, Nat.reduceMul, Nat.reduceEqDiff, Go.Addr.add, ↓reduceIte] at hx108_1); (try simp only [show (4 : Int).toNat = 4 from rfl, Nat.reduceMul, Nat.reduceEqDiff, Go.Addr.add, ↓reduceIte] at hx108_2); (try simp only [show (4 : Int).toNat = 4 from rfl, Nat.reduceMul, Nat.reduceEqDiff, Go.Addr.add, ↓reduceIte] at hx108_3); (try simp only [show (4 : Int).toNat = 4 from rfl, Nat.reduceMul, Nat.reduceEqDiff, Go.Addr.add, ↓reduceIte] at hx108_4); have qi108 : (4 < t101.length) = True := eq_true (by omega); (try rw [show ((4 : Int)).toNat = 4 from rfl] at hx108_0); (try rw [show 4 * 5 = 20 from rfl] at hx108_0); (try rw [show ((4 : Int)).toNat = 4 from rfl] at hx108_1); (try rw [show 4 * 5 = 20 from rfl] at hx108_1); (try rw [show ((4 : Int)).toNat = 4 from rfl] at hx108_2); (try rw [show 4 * 5 = 20 from rfl] at hx108_2); (try rw [show ((4 : Int)).toNat = 4 from rfl] at hx108_3); (try rw [show 4 * 5 = 20 from rfl] at hx108_3); (try rw [show ((4 : Int)).toNat = 4 from rfl] at hx108_4); (try rw [show 4 * 5 = 20 from rfl] at hx108_4); replace p108 := eq_true p108; replace q108 := eq_true q108; have p109 : 0 ≤ (4 : Int) := (by omega); have q109 : 4 < (t101.length : Int) := of_decide_eq_true (by first | (with_reducible assumption) | assumption); obtain ⟨ad109, e109, hx109_0, hx109_1, hx109_2, hx109_3, hx109_4⟩ := at_T26 (Kd.R_reads' HO103.out).2.2 4 p109 q109; (try rw [← Nbq10.out] at hx109_3); (try rw [← Nbq10.out] at hx109_4); obtain rfl : ad107 = ad109 := (by injection e109); (try simp only [show (4 : Int).toNat = 4 from rfl, Nat.reduceMul, Nat.reduceEqDiff, Go.Addr.add, ↓reduceIte] at hx109_0); (try simp only [show (4 : Int).toNat = 4 from rfl, Nat.reduceMul, Nat.reduceEqDiff, Go.Addr.add, ↓reduceIte] at hx109_1); (try simp only [show (4 : Int).toNat = 4 from rfl, Nat.reduceMul, Nat.reduceEqDiff, Go.Addr.add, ↓reduceIte] at hx109_2); (try simp only [show (4 : Int).toNat = 4 from rfl, Nat.reduceMul, Nat.reduceEqDiff, Go.Addr.add, ↓reduceIte] at hx109_3); (try simp only [show (4 : Int).toNat = 4 from rfl, Nat.reduceMul, Nat.reduceEqDiff, Go.Addr.add, ↓reduceIte] at hx109_4); have qi109 : (4 < t101.length) = True := eq_true (by omega); (try rw [show ((4 : Int)).toNat = 4 from rfl] at hx109_0); (try rw [show 4 * 5 = 20 from rfl] at hx109_0); (try rw [show ((4 : Int)).toNat = 4 from rfl] at hx109_1); (try rw [show 4 * 5 = 20 from rfl] at hx109_1); (try rw [show ((4 : Int)).toNat = 4 from rfl] at hx109_2); (try rw [show 4 * 5 = 20 from rfl] at hx109_2); (try rw [show ((4 : Int)).toNat = 4 from rfl] at hx109_3); (try rw [show 4 * 5 = 20 from rfl] at hx109_3); (try rw [show ((4 : Int)).toNat = 4 from rfl] at hx109_4); (try rw [show 4 * 5 = 20 from rfl] at hx109_4); replace p109 := eq_true p109; replace q109 := eq_true q109; have p110 : 0 ≤ (4 : Int) := (by omega); have q110 : 4 < (t101.length : Int) := of_decide_eq_true (by first | (with_reducible assumption) | assumption); obtain ⟨ad110, e110, hx110_0, hx110_1, hx110_2, hx110_3, hx110_4⟩ := at_T26 (Kd.R_reads' HO103.out).2.2 4 p110 q110; (try rw [← Nbq10.out] at hx110_3); (try rw [← Nbq10.out] at hx110_4); obtain rfl : ad107 = ad110 := (by injection e110); (try simp only [show (4 : Int).toNat = 4 from rfl, Nat.reduceMul, Nat.reduceEqDiff, Go.Addr.add, ↓reduceIte] at hx110_0); (try simp only [show (4 : Int).toNat = 4 from rfl, Nat.reduceMul, Nat.reduceEqDiff, Go.Addr.add, ↓reduceIte] at hx110_1); (try simp only [show (4 : Int).toNat = 4 from rfl, Nat.reduceMul, Nat.reduceEqDiff, Go.Addr.add, ↓reduceIte] at hx110_2); (try simp only [show (4 : Int).toNat = 4 from rfl, Nat.reduceMul, Nat.reduceEqDiff, Go.Addr.add, ↓reduceIte] at hx110_3); (try simp only [show (4 : Int).toNat = 4 from rfl, Nat.reduceMul, Nat.reduceEqDiff, Go.Addr.add, ↓reduceIte] at hx110_4); have qi110 : (4 < t101.length) = True := eq_true (by omega); (try rw [show ((4 : Int)).toNat = 4 from rfl] at hx110_0); (try rw [show 4 * 5 = 20 from rfl] at hx110_0); (try rw [show ((4 : Int)).toNat = 4 from rfl] at hx110_1); (try rw [show 4 * 5 = 20 from rfl] at hx110_1); (try rw [show ((4 : Int)).toNat = 4 from rfl] at hx110_2); (try rw [show 4 * 5 = 20 from rfl] at hx110_2); (try rw [show ((4 : Int)).toNat = 4 from rfl] at hx110_3); (try rw [show 4 * 5 = 20 from rfl] at hx110_3); (try rw [show ((4 : Int)).toNat = 4 from rfl] at hx110_4); (try rw [show 4 * 5 = 20 from rfl] at hx110_4); replace p110 := eq_true p110; replace q110 := eq_true q110; have p111 : 0 ≤ (4 : Int) := (by omega); have q111 : 4 < (t101.length : Int) := of_decide_eq_true (by first | (with_reducible assumption) | assumption); obtain ⟨ad111, e111, hx111_0, hx111_1, hx111_2, hx111_3, hx111_4⟩ := at_T26 (Kd.R_reads' HO103.out).2.2 4 p111 q111; (try rw [← Nbq10.out] at hx111_3); (try rw [← Nbq10.out] at hx111_4); obtain rfl : ad107 = ad111 := (by injection e111); (try simp only [show (4 : Int).toNat = 4 from rfl, Nat.reduceMul, Nat.reduceEqDiff, Go.Addr.add, ↓reduceIte] at hx111_0); (try simp only [show (4 : Int).toNat = 4 from rfl, Nat.reduceMul, Nat.reduceEqDiff, Go.Addr.add, ↓reduceIte] at hx111_1); (try simp only [show (4 : Int).toNat = 4 from rfl, Nat.reduceMul, Nat.reduceEqDiff, Go.Addr.add, ↓reduceIte] at hx111_2); (try simp only [show (4 : Int).toNat = 4 from rfl, Nat.reduceMul, Nat.reduceEqDiff, Go.Addr.add, ↓reduceIte] at hx111_3); (try simp only [show (4 : Int).toNat = 4 from rfl, Nat.reduceMul, Nat.reduceEqDiff, Go.Addr.add, ↓reduceIte] at hx111_4); have qi111 : (4 < t101.length) = True := eq_true (by omega); (try rw [show ((4 : Int)).toNat = 4 from rfl] at hx111_0); (try rw [show 4 * 5 = 20 from rfl] at hx111_0); (try rw [show ((4 : Int)).toNat = 4 from rfl] at hx111_1); (try rw [show 4 * 5 = 20 from rfl] at hx111_1); (try rw [show ((4 : Int)).toNat = 4 from rfl] at hx111_2); (try rw [show 4 * 5 = 20 from rfl] at hx111_2); (try rw [show ((4 : Int)).toNat = 4 from rfl] at hx111_3); (try rw [show 4 * 5 = 20 from rfl] at hx111_3); (try rw [show ((4 : Int)).toNat = 4 from rfl] at hx111_4); (try rw [show 4 * 5 = 20 from rfl] at hx111_4); replace p111 := eq_true p111; replace q111 := eq_true q111))
                  go_ret
                  exact ⟨by first | rfl | (simp [errW_none, errW_some] <;> rfl) | (simp [*, errW_none, errW_some] <;> rfl), by repeat (first | (with_reducible first | exact HB.out | apply below_alloc | apply pw_below_drewN | apply below_drew1) | exact HB.out)⟩
                · replace c11 := Bool.eq_false_iff.mpr c11
                  subst c11
                  have H1 : (if (t104.length : Int) = 2 then (if 0 < (t104.length : Int) then (if ((rd_T26 t104 0).f0) = 6 then (if 1 < (t104.length : Int) then (if ((rd_T26 t104 1).f0) = 13 then ((token_Escape.f (⟨#[49]⟩ : ByteArray)).bind fun t114 => (some (t114.toList == ([92, 51, 49, 32] : List UInt8)))) else (some false)) else (none)) else (some false)) else (none)) else (some false)) = some r := by rw [if_neg (show ¬ (false = true) by decide)] at H; exact H
                  clear H
                  have H := H1
                  clear H1
                  by_cases c15 : (t104.length : Int) = 2
                  · rw [if_pos c15] at H
                    have c15b0 : ((t104.length : Int) == 2) = true := beq_iff_eq.mpr c15
                    have c15b1 : ((t104.length : Int) != 2) = false := bne_eq_false_iff_eq.mpr c15
                    clear c15
                    by_cases c16 : 0 < (t104.length : Int)
                    · rw [if_pos c16] at H
                      have c16b0 : decide (0 < (t104.length : Int)) = true := decide_eq_true c16
                      have c16b1 : decide (0 < t104.length) = true := decide_eq_true (by omega)
                      clear c16
                      by_cases c17 : ((rd_T26 t104 0).f0) = 6
                      · rw [if_pos c17] at H
                        have c17b0 : (((rd_T26 t104 0).f0) == 6) = true := beq_iff_eq.mpr c17
                        have c17b1 : (((rd_T26 t104 0).f0) != 6) = false := bne_eq_false_iff_eq.mpr c17
                        clear c17
                        by_cases c18 : 1 < (t104.length : Int)
                        · rw [if_pos c18] at H
                          have c18b0 : decide (1 < (t104.length : Int)) = true := decide_eq_true c18
                          have c18b1 : decide (1 < t104.length) = true := decide_eq_true (by omega)
                          clear c18
                          by_cases c19 : ((rd_T26 t104 1).f0) = 13
                          · rw [if_pos c19] at H
                            have c19b0 : (((rd_T26 t104 1).f0) == 13) = true := beq_iff_eq.mpr c19
                            have c19b1 : (((rd_T26 t104 1).f0) != 13) = false := bne_eq_false_iff_eq.mpr c19
                            clear c19
                            replace H := Option.bind_eq_some_iff.mp H
                            obtain ⟨t114, A200, H⟩ := H
                            replace H : (some (t114.toList == ([92, 51, 49, 32] : List UInt8))) = some r := H
                            have A20 := Aside0.mk A200
                            clear A200
                            obtain rfl := Option.some.inj H
                            go_enter Tryd.func9, Tryd.ntmps9
                            go_wp2_with (first | ((with_reducible refine gate_callee (f := 10) rfl ?_); refine goesL_ (some 3) rfl rfl Tryd.func10 (by kernel_rfl) rfl #[.string (⟨#[97, 123, 98, 58, 49, 46, 53, 101, 109, 125]⟩ : ByteArray)] rfl (by (try simp only [List.map_toArray, List.map_cons, List.map_nil]); first | done | rfl | (simp only [List.length_drop, List.length_take]; rfl)) ?_; (with_reducible refine (gouachelaw02_cut.calls (⟨#[97, 123, 98, 58, 49, 46, 53, 101, 109, 125]⟩ : ByteArray) t101 _ A1.out).mono ?_); rintro e w21 ⟨v102, rfl, ho0, hb⟩; refine ⟨_, rfl, ?_⟩; have n0_ := Aside0.mk (Kd.R_lower ho0 (below_size (by repeat (first | (with_reducible first | exact HB.out | apply below_alloc | apply pw_below_drewN | apply below_drew1) | exact HB.out)))); have n1_ := Aside0.mk (below_step (by repeat (first | (with_reducible first | exact HB.out | apply below_alloc | apply pw_below_drewN | apply below_drew1) | exact HB.out)) hb); clear HB; have HO103 := n0_; have HB := n1_; clear n0_ n1_; (try clear hb); (try clear hb2); (try clear hk); (try clear hi); (try clear ho0)) | ((with_reducible refine gate_callee (f := 10) rfl ?_); refine goesL_ (some 4) rfl rfl Tryd.func10 (by kernel_rfl) rfl #[.string (⟨#[34, 97, 10]⟩ : ByteArray)] rfl (by (try simp only [List.map_toArray, List.map_cons, List.map_nil]); first | done | rfl | (simp only [List.length_drop, List.length_take]; rfl)) ?_; (with_reducible refine (gouachelaw02_cut.calls (⟨#[34, 97, 10]⟩ : ByteArray) t104 _ A2.out).mono ?_); rintro e w22 ⟨v105, rfl, ho0, hb⟩; refine ⟨_, rfl, ?_⟩; have n0_ := Aside0.mk (Kd.R_elder' (by (with_reducible repeat (first | apply Kd.R_alloc | apply Kd.R_drewN | apply Kd.R_drew)); exact HO103.out) (Kd.R_base ho0) hb); have n1_ := Aside0.mk (Kd.R_lower (Kd.R_new' ho0 (Kd.R_lt (by (with_reducible repeat (first | apply Kd.R_alloc | apply Kd.R_drewN | apply Kd.R_drew)); exact HO103.out))) (below_size (by repeat (first | (with_reducible first | exact HB.out | apply below_alloc | apply pw_below_drewN | apply below_drew1) | exact HB.out)))); have n2_ := Aside0.mk (below_step (by repeat (first | (with_reducible first | exact HB.out | apply below_alloc | apply pw_below_drewN | apply below_drew1) | exact HB.out)) hb); clear HO103; clear HB; have HO103 := n0_; have HO106 := n1_; have HB := n2_; clear n0_ n1_ n2_; (try clear hb); (try clear hb2); (try clear hk); (try clear hi); (try clear ho0); obtain ⟨Ao23, co23, eo23⟩ := Kd.R_slice HO103.out; subst eo23; have p107 : 0 ≤ (0 : Int) := (by omega); have q107 : 0 < (t101.length : Int) := of_decide_eq_true (by first | (with_reducible assumption) | assumption); obtain ⟨ad107, e107, hx107_0, hx107_1, hx107_2, hx107_3, hx107_4⟩ := at_T26 (Kd.R_reads' HO103.out).2.2 0 p107 q107; (try rw [← Nbq10.out] at hx107_3); (try rw [← Nbq10.out] at hx107_4); cases e107; have qi107 : (0 < t101.length) = True := eq_true (by omega); (try rw [show ((0 : Int)).toNat = 0 from rfl] at hx107_0); (try rw [show 0 * 5 = 0 from rfl] at hx107_0); (try rw [Addr.add_zero'] at hx107_0); (try rw [show ((0 : Int)).toNat = 0 from rfl] at hx107_1); (try rw [show 0 * 5 = 0 from rfl] at hx107_1); (try rw [Addr.add_zero'] at hx107_1); (try rw [show ((0 : Int)).toNat = 0 from rfl] at hx107_2); (try rw [show 0 * 5 = 0 from rfl] at hx107_2); (try rw [Addr.add_zero'] at hx107_2); (try rw [show ((0 : Int)).toNat = 0 from rfl] at hx107_3); (try rw [show 0 * 5 = 0 from rfl] at hx107_3); (try rw [Addr.add_zero'] at hx107_3); (try rw [show ((0 : Int)).toNat = 0 from rfl] at hx107_4); (try rw [show 0 * 5 = 0 from rfl] at hx107_4); (try rw [Addr.add_zero'] at hx107_4); replace p107 := eq_true p107; replace q107 := eq_true q107; have p108 : 0 ≤ (4 : Int) := (by omega); have q108 : 4 < (t101.length : Int) := of_decide_eq_true (by first | (with_reducible assumption) | assumption); obtain ⟨ad108, e108, hx108_0, hx108_1, hx108_2, hx108_3, hx108_4⟩ := at_T26 (Kd.R_reads' HO103.out).2.2 4 p108 q108; (try rw [← Nbq10.out] at hx108_3); (try rw [← Nbq10.out] at hx108_4); obtain rfl : ad107 = ad108 := (by injection e108); (try simp only [show (4 : Int).toNat = 4 from rfl, Nat.reduceMul, Nat.reduceEqDiff, Go.Addr.add, ↓reduceIte] at hx108_0); (try simp only [show (4 : Int).toNat = 4 from rfl, Nat.reduceMul, Nat.reduceEqDiff, Go.Addr.add, ↓reduceIte] at hx108_1); (try simp only [show (4 : Int).toNat = 4 from rfl, Nat.reduceMul, Nat.reduceEqDiff, Go.Addr.add, ↓reduceIte] at hx108_2); (try simp only [show (4 : Int).toNat = 4 from rfl, Nat.reduceMul, Nat.reduceEqDiff, Go.Addr.add, ↓reduceIte] at hx108_3); (try simp only [show (4 : Int).toNat = 4 from rfl, Nat.reduceMul, Nat.reduceEqDiff, Go.Addr.add, ↓reduceIte] at hx108_4); have qi108 : (4 < t101.length) = True := eq_true (by omega); (try rw [show ((4 : Int)).toNat = 4 from rfl] at hx108_0); (try rw [show 4 * 5 = 20 from rfl] at hx108_0); (try rw [show ((4 : Int)).toNat = 4 from rfl] at hx108_1); (try rw [show 4 * 5 = 20 from rfl] at hx108_1); (try rw [show ((4 : Int)).toNat = 4 from rfl] at hx108_2); (try rw [show 4 * 5 = 20 from rfl] at hx108_2); (try rw [show ((4 : Int)).toNat = 4 from rfl] at hx108_3); (try rw [show 4 * 5 = 20 from rfl] at hx108_3); (try rw [show ((4 : Int)).toNat = 4 from rfl] at hx108_4); (try rw [show 4 * 5 = 20 from rfl] at hx108_4); replace p108 := eq_true p108; replace q108 := eq_true q108; have p109 : 0 ≤ (4 : Int) := (by omega); have q109 : 4 < (t101.length : Int) := of_decide_eq_true (by first | (with_reducible assumption) | assumption); obtain ⟨ad109, e109, hx109_0, hx109_1, hx109_2, hx109_3, hx109_4⟩ := at_T26 (Kd.R_reads' HO103.out).2.2 4 p109 q109; (try rw [← Nbq10.out] at hx109_3); (try rw [← Nbq10.out] at hx109_4); obtain rfl : ad107 = ad109 := (by injection e109); (try simp only [show (4 : Int).toNat = 4 from rfl, Nat.reduceMul, Nat.reduceEqDiff, Go.Addr.add, ↓reduceIte] at hx109_0); (try simp only [show (4 : Int).toNat = 4 from rfl, Nat.reduceMul, Nat.reduceEqDiff, Go.Addr.add, ↓reduceIte] at hx109_1); (try simp only [show (4 : Int).toNat = 4 from rfl, Nat.reduceMul, Nat.reduceEqDiff, Go.Addr.add, ↓reduceIte] at hx109_2); (try simp only [show (4 : Int).toNat = 4 from rfl, Nat.reduceMul, Nat.reduceEqDiff, Go.Addr.add, ↓reduceIte] at hx109_3); (try simp only [show (4 : Int).toNat = 4 from rfl, Nat.reduceMul, Nat.reduceEqDiff, Go.Addr.add, ↓reduceIte] at hx109_4); have qi109 : (4 < t101.length) = True := eq_true (by omega); (try rw [show ((4 : Int)).toNat = 4 from rfl] at hx109_0); (try rw [show 4 * 5 = 20 from rfl] at hx109_0); (try rw [show ((4 : Int)).toNat = 4 from rfl] at hx109_1); (try rw [show 4 * 5 = 20 from rfl] at hx109_1); (try rw [show ((4 : Int)).toNat = 4 from rfl] at hx109_2); (try rw [show 4 * 5 = 20 from rfl] at hx109_2); (try rw [show ((4 : Int)).toNat = 4 from rfl] at hx109_3); (try rw [show 4 * 5 = 20 from rfl] at hx109_3); (try rw [show ((4 : Int)).toNat = 4 from rfl] at hx109_4); (try rw [show 4 * 5 = 20 from rfl] at hx109_4); replace p109 := eq_true p109; replace q109 := eq_true q109; have p110 : 0 ≤ (4 : Int) := (by omega); have q110 : 4 < (t101.length : Int) := of_decide_eq_true (by first | (with_reducible assumption) | assumption); obtain ⟨ad110, e110, hx110_0, hx110_1, hx110_2, hx110_3, hx110_4⟩ := at_T26 (Kd.R_reads' HO103.out).2.2 4 p110 q110; (try rw [← Nbq10.out] at hx110_3); (try rw [← Nbq10.out] at hx110_4); obtain rfl : ad107 = ad110 := (by injection e110); (try simp only [show (4 : Int).toNat = 4 from rfl, Nat.reduceMul, Nat.reduceEqDiff, Go.Addr.add, ↓reduceIte] at hx110_0); (try simp only [show (4 : Int).toNat = 4 from rfl, Nat.reduceMul, Nat.reduceEqDiff, Go.Addr.add, ↓reduceIte] at hx110_1); (try simp only [show (4 : Int).toNat = 4 from rfl, Nat.reduceMul, Nat.reduceEqDiff, Go.Addr.add, ↓reduceIte] at hx110_2); (try simp only [show (4 : Int).toNat = 4 from rfl, Nat.reduceMul, Nat.reduceEqDiff, Go.Addr.add, ↓reduceIte] at hx110_3); (try simp only [show (4 : Int).toNat = 4 from rfl, Nat.reduceMul, Nat.reduceEqDiff, Go.Addr.add, ↓reduceIte] at hx110_4); have qi110 : (4 < t101.length) = True := eq_true (by omega); (try rw [show ((4 : Int)).toNat = 4 from rfl] at hx110_0); (try rw [show 4 * 5 = 20 from rfl] at hx110_0); (try rw [show ((4 : Int)).toNat = 4 from rfl] at hx110_1); (try rw [show 4 * 5 = 20 from rfl] at hx110_1); (try rw [show ((4 : Int)).toNat = 4 from rfl] at hx110_2); (try rw [show 4 * 5 = 20 from rfl] at hx110_2); (try rw [show ((4 : Int)).toNat = 4 from rfl] at hx110_3); (try rw [show 4 * 5 = 20 from rfl] at hx110_3); (try rw [show ((4 : Int)).toNat = 4 from rfl] at hx110_4); (try rw [show 4 * 5 = 20 from rfl] at hx110_4); replace p110 := eq_true p110; replace q110 := eq_true q110; have p111 : 0 ≤ (4 : Int) := (by omega); have q111 : 4 < (t101.length : Int) := of_decide_eq_true (by first | (with_reducible assumption) | assumption); obtain ⟨ad111, e111, hx111_0, hx111_1, hx111_2, hx111_3, hx111_4⟩ := at_T26 (Kd.R_reads' HO103.out).2.2 4 p111 q111; (try rw [← Nbq10.out] at hx111_3); (try rw [← Nbq10.out] at hx111_4); obtain rfl : ad107 = ad111 := (by injection e111); (try simp only [show (4 : Int).toNat = 4 from rfl, Nat.reduceMul, Nat.reduceEqDiff, Go.Addr.add, ↓reduceIte] at hx111_0); (try simp only [show (4 : Int).toNat = 4 from rfl, Nat.reduceMul, Nat.reduceEqDiff, Go.Addr.add, ↓reduceIte] at hx111_1); (try simp only [show (4 : Int).toNat = 4 from rfl, Nat.reduceMul, Nat.reduceEqDiff, Go.Addr.add, ↓reduceIte] at hx111_2); (try simp only [show (4 : Int).toNat = 4 from rfl, Nat.reduceMul, Nat.reduceEqDiff, Go.Addr.add, ↓reduceIte] at hx111_3); (try simp only [show (4 : Int).toNat = 4 from rfl, Nat.reduceMul, Nat.reduceEqDiff, Go.Addr.add, ↓reduceIte] at hx111_4); have qi111 : (4 < t101.length) = True := eq_true (by omega); (try rw [show ((4 : Int)).toNat = 4 from rfl] at hx111_0); (try rw [show 4 * 5 = 20 from rfl] at hx111_0); (try rw [show ((4 : Int)).toNat = 4 from rfl] at hx111_1); (try rw [show 4 * 5 = 20 from rfl] at hx111_1); (try rw [show ((4 : Int)).toNat = 4 from rfl] at hx111_2); (try rw [show 4 * 5 = 20 from rfl] at hx111_2); (try rw [show ((4 : Int)).toNat = 4 from rfl] at hx111_3); (try rw [show 4 * 5 = 20 from rfl] at hx111_3); (try rw [show ((4 : Int)).toNat = 4 from rfl] at hx111_4); (try rw [show 4 * 5 = 20 from rfl] at hx111_4); replace p111 := eq_true p111; replace q111 := eq_true q111; obtain ⟨Ao24, co24, eo24⟩ := Kd.R_slice HO106.out; subst eo24; have p112 : 0 ≤ (0 : Int) := (by omega); have q112 : 0 < (t104.length : Int) := of_decide_eq_true (by first | (with_reducible assumption) | assumption); obtain ⟨ad112, e112, hx112_0, hx112_1, hx112_2, hx112_3, hx112_4⟩ := at_T26 (Kd.R_reads' HO106.out).2.2 0 p112 q112; (try rw [← Nbq10.out] at hx112_3); (try rw [← Nbq10.out] at hx112_4); cases e112; have qi112 : (0 < t104.length) = True := eq_true (by omega); (try rw [show ((0 : Int)).toNat = 0 from rfl] at hx112_0); (try rw [show 0 * 5 = 0 from rfl] at hx112_0); (try rw [Addr.add_zero'] at hx112_0); (try rw [show ((0 : Int)).toNat = 0 from rfl] at hx112_1); (try rw [show 0 * 5 = 0 from rfl] at hx112_1); (try rw [Addr.add_zero'] at hx112_1); (try rw [show ((0 : Int)).toNat = 0 from rfl] at hx112_2); (try rw [show 0 * 5 = 0 from rfl] at hx112_2); (try rw [Addr.add_zero'] at hx112_2); (try rw [show ((0 : Int)).toNat = 0 from rfl] at hx112_3); (try rw [show 0 * 5 = 0 from rfl] at hx112_3); (try rw [Addr.add_zero'] at hx112_3); (try rw [show ((0 : Int)).toNat = 0 from rfl] at hx112_4); (try rw [show 0 * 5 = 0 from rfl] at hx112_4); (try rw [Addr.add_zero'] at hx112_4); replace p112 := eq_true p112; replace q112 := eq_true q112; have p113 : 0 ≤ (1 : Int) := (by omega); have q113 : 1 < (t104.length : Int) := of_decide_eq_true (by first | (with_reducible assumption) | assumption); obtain ⟨ad113, e113, hx113_0, hx113_1, hx113_2, hx113_3, hx113_4⟩ := at_T26 (Kd.R_reads' HO106.out).2.2 1 p113 q113; (try rw [← Nbq10.out] at hx113_3); (try rw [← Nbq10.out] at hx113_4); obtain rfl : ad112 = ad113 := (by injection e113); (try simp only [show (1 : Int).toNat = 1 from rfl, Nat.reduceMul, Nat.reduceEqDiff, Go.Addr.add, ↓reduceIte] at hx113_0); (try simp only [show (1 : Int).toNat = 1 from rfl, Nat.reduceMul, Nat.reduceEqDiff, Go.Addr.add, ↓reduceIte] at hx113_1); (try simp only [show (1 : Int).toNat = 1 from rfl, Nat.reduceMul, Nat.reduceEqDiff, Go.Addr.add, ↓reduceIte] at hx113_2); (try simp only [show (1 : Int).toNat = 1 from rfl, Nat.reduceMul, Nat.reduceEqDiff, Go.Addr.add, ↓reduceIte] at hx113_3); (try simp only [show (1 : Int).toNat = 1 from rfl, Nat.reduceMul, Nat.reduceEqDiff, Go.Addr.add, ↓reduceIte] at hx113_4); have qi113 : (1 < t104.length) = True := eq_true (by omega); (try rw [show ((1 : Int)).toNat = 1 from rfl] at hx113_0); (try rw [show 1 * 5 = 5 from rfl] at hx113_0); (try rw [show ((1 : Int)).toNat = 1 from rfl] at hx113_1); (try rw [show 1 * 5 = 5 from rfl] at hx113_1); (try rw [show ((1 : Int)).toNat = 1 from rfl] at hx113_2); (try rw [show 1 * 5 = 5 from rfl] at hx113_2); (try rw [show ((1 : Int)).toNat = 1 from rfl] at hx113_3); (try rw [show 1 * 5 = 5 from rfl] at hx113_3); (try rw [show ((1 : Int)).toNat = 1 from rfl] at hx113_4); (try rw [show 1 * 5 = 5 from rfl] at hx113_4); replace p113 := eq_true p113; replace q113 := eq_true q113) | (go_at_call 14; (with_reducible refine (token_Escape.calls (⟨#[49]⟩ : ByteArray) t114 _ A20.out (HT.out.below (by repeat (first | (with_reducible first | exact HB.out | apply below_alloc | apply pw_below_drewN | apply below_drew1) | exact HB.out)))).mono ?_); rintro e w25 ⟨rfl, hb⟩; have n0_ := Aside0.mk (Kd.R_below (by (with_reducible repeat (first | apply Kd.R_alloc | apply Kd.R_drewN | apply Kd.R_drew)); exact HO103.out) hb); have n1_ := Aside0.mk (Kd.R_below (by (with_reducible repeat (first | apply Kd.R_alloc | apply Kd.R_drewN | apply Kd.R_drew)); exact HO106.out) hb); have n2_ := Aside0.mk (below_step (by repeat (first | (with_reducible first | exact HB.out | apply below_alloc | apply pw_below_drewN | apply below_drew1) | exact HB.out)) hb); clear HO103; clear HO106; clear HB; have HO103 := n0_; have HO106 := n1_; have HB := n2_; clear n0_ n1_ n2_; (try clear hb); (try clear hb2); (try clear hk); (try clear hi)))
                            go_ret
                            exact ⟨by first | rfl | (simp [errW_none, errW_some] <;> rfl) | (simp [*, errW_none, errW_some] <;> rfl), by repeat (first | (with_reducible first | exact HB.out | apply below_alloc | apply pw_below_drewN | apply below_drew1) | exact HB.out)⟩
                          · rw [if_neg c19] at H
                            have c19b0 : (((rd_T26 t104 1).f0) == 13) = false := beq_eq_false_iff_ne.mpr c19
                            have c19b1 : (((rd_T26 t104 1).f0) != 13) = true := bne_iff_ne.mpr c19
                            obtain rfl := Option.some.inj H
                            go_enter Tryd.func9, Tryd.ntmps9
                            go_wp2_with (first | ((with_reducible refine gate_callee (f := 10) rfl ?_); refine goesL_ (some 3) rfl rfl Tryd.func10 (by kernel_rfl) rfl #[.string (⟨#[97, 123, 98, 58, 49, 46, 53, 101, 109, 125]⟩ : ByteArray)] rfl (by (try simp only [List.map_toArray, List.map_cons, List.map_nil]); first | done | rfl | (simp only [List.length_drop, List.length_take]; rfl)) ?_; (with_reducible refine (gouachelaw02_cut.calls (⟨#[97, 123, 98, 58, 49, 46, 53, 101, 109, 125]⟩ : ByteArray) t101 _ A1.out).mono ?_); rintro e w26 ⟨v102, rfl, ho0, hb⟩; refine ⟨_, rfl, ?_⟩; have n0_ := Aside0.mk (Kd.R_lower ho0 (below_size (by repeat (first | (with_reducible first | exact HB.out | apply below_alloc | apply pw_below_drewN | apply below_drew1) | exact HB.out)))); have n1_ := Aside0.mk (below_step (by repeat (first | (with_reducible first | exact HB.out | apply below_alloc | apply pw_below_drewN | apply below_drew1) | exact HB.out)) hb); clear HB; have HO103 := n0_; have HB := n1_; clear n0_ n1_; (try clear hb); (try clear hb2); (try clear hk); (try clear hi); (try clear ho0)) | ((with_reducible refine gate_callee (f := 10) rfl ?_); refine goesL_ (some 4) rfl rfl Tryd.func10 (by kernel_rfl) rfl #[.string (⟨#[34, 97, 10]⟩ : ByteArray)] rfl (by (try simp only [List.map_toArray, List.map_cons, List.map_nil]); first | done | rfl | (simp only [List.length_drop, List.length_take]; rfl)) ?_; (with_reducible refine (gouachelaw02_cut.calls (⟨#[34, 97, 10]⟩ : ByteArray) t104 _ A2.out).mono ?_); rintro e w27 ⟨v105, rfl, ho0, hb⟩; refine ⟨_, rfl, ?_⟩; have n0_ := Aside0.mk (Kd.R_elder' (by (with_reducible repeat (first | apply Kd.R_alloc | apply Kd.R_drewN | apply Kd.R_drew)); exact HO103.out) (Kd.R_base ho0) hb); have n1_ := Aside0.mk (Kd.R_lower (Kd.R_new' ho0 (Kd.R_lt (by (with_reducible repeat (first | apply Kd.R_alloc | apply Kd.R_drewN | apply Kd.R_drew)); exact HO103.out))) (below_size (by repeat (first | (with_reducible first | exact HB.out | apply below_alloc | apply pw_below_drewN | apply below_drew1) | exact HB.out)))); have n2_ := Aside0.mk (below_step (by repeat (first | (with_reducible first | exact HB.out | apply below_alloc | apply pw_below_drewN | apply below_drew1) | exact HB.out)) hb); clear HO103; clear HB; have HO103 := n0_; have HO106 := n1_; have HB := n2_; clear n0_ n1_ n2_; (try clear hb); (try clear hb2); (try clear hk); (try clear hi); (try clear ho0); obtain ⟨Ao28, co28, eo28⟩ := Kd.R_slice HO103.out; subst eo28; have p107 : 0 ≤ (0 : Int) := (by omega); have q107 : 0 < (t101.length : Int) := of_decide_eq_true (by first | (with_reducible assumption) | assumption); obtain ⟨ad107, e107, hx107_0, hx107_1, hx107_2, hx107_3, hx107_4⟩ := at_T26 (Kd.R_reads' HO103.out).2.2 0 p107 q107; (try rw [← Nbq10.out] at hx107_3); (try rw [← Nbq10.out] at hx107_4); cases e107; have qi107 : (0 < t101.length) = True := eq_true (by omega); (try rw [show ((0 : Int)).toNat = 0 from rfl] at hx107_0); (try rw [show 0 * 5 = 0 from rfl] at hx107_0); (try rw [Addr.add_zero'] at hx107_0); (try rw [show ((0 : Int)).toNat = 0 from rfl] at hx107_1); (try rw [show 0 * 5 = 0 from rfl] at hx107_1); (try rw [Addr.add_zero'] at hx107_1); (try rw [show ((0 : Int)).toNat = 0 from rfl] at hx107_2); (try rw [show 0 * 5 = 0 from rfl] at hx107_2); (try rw [Addr.add_zero'] at hx107_2); (try rw [show ((0 : Int)).toNat = 0 from rfl] at hx107_3); (try rw [show 0 * 5 = 0 from rfl] at hx107_3); (try rw [Addr.add_zero'] at hx107_3); (try rw [show ((0 : Int)).toNat = 0 from rfl] at hx107_4); (try rw [show 0 * 5 = 0 from rfl] at hx107_4); (try rw [Addr.add_zero'] at hx107_4); replace p107 := eq_true p107; replace q107 := eq_true q107; have p108 : 0 ≤ (4 : Int) := (by omega); have q108 : 4 < (t101.length : Int) := of_decide_eq_true (by first | (with_reducible assumption) | assumption); obtain ⟨ad108, e108, hx108_0, hx108_1, hx108_2, hx108_3, hx108_4⟩ := at_T26 (Kd.R_reads' HO103.out).2.2 4 p108 q108; (try rw [← Nbq10.out] at hx108_3); (try rw [← Nbq10.out] at hx108_4); obtain rfl : ad107 = ad108 := (by injection e108); (try simp only [show (4 : Int).toNat = 4 from rfl, Nat.reduceMul, Nat.reduceEqDiff, Go.Addr.add, ↓reduceIte] at hx108_0); (try simp only [show (4 : Int).toNat = 4 from rfl, Nat.reduceMul, Nat.reduceEqDiff, Go.Addr.add, ↓reduceIte] at hx108_1); (try simp only [show (4 : Int).toNat = 4 from rfl, Nat.reduceMul, Nat.reduceEqDiff, Go.Addr.add, ↓reduceIte] at hx108_2); (try simp only [show (4 : Int).toNat = 4 from rfl, Nat.reduceMul, Nat.reduceEqDiff, Go.Addr.add, ↓reduceIte] at hx108_3); (try simp only [show (4 : Int).toNat = 4 from rfl, Nat.reduceMul, Nat.reduceEqDiff, Go.Addr.add, ↓reduceIte] at hx108_4); have qi108 : (4 < t101.length) = True := eq_true (by omega); (try rw [show ((4 : Int)).toNat = 4 from rfl] at hx108_0); (try rw [show 4 * 5 = 20 from rfl] at hx108_0); (try rw [show ((4 : Int)).toNat = 4 from rfl] at hx108_1); (try rw [show 4 * 5 = 20 from rfl] at hx108_1); (try rw [show ((4 : Int)).toNat = 4 from rfl] at hx108_2); (try rw [show 4 * 5 = 20 from rfl] at hx108_2); (try rw [show ((4 : Int)).toNat = 4 from rfl] at hx108_3); (try rw [show 4 * 5 = 20 from rfl] at hx108_3); (try rw [show ((4 : Int)).toNat = 4 from rfl] at hx108_4); (try rw [show 4 * 5 = 20 from rfl] at hx108_4); replace p108 := eq_true p108; replace q108 := eq_true q108; have p109 : 0 ≤ (4 : Int) := (by omega); have q109 : 4 < (t101.length : Int) := of_decide_eq_true (by first | (with_reducible assumption) | assumption); obtain ⟨ad109, e109, hx109_0, hx109_1, hx109_2, hx109_3, hx109_4⟩ := at_T26 (Kd.R_reads' HO103.out).2.2 4 p109 q109; (try rw [← Nbq10.out] at hx109_3); (try rw [← Nbq10.out] at hx109_4); obtain rfl : ad107 = ad109 := (by injection e109); (try simp only [show (4 : Int).toNat = 4 from rfl, Nat.reduceMul, Nat.reduceEqDiff, Go.Addr.add, ↓reduceIte] at hx109_0); (try simp only [show (4 : Int).toNat = 4 from rfl, Nat.reduceMul, Nat.reduceEqDiff, Go.Addr.add, ↓reduceIte] at hx109_1); (try simp only [show (4 : Int).toNat = 4 from rfl, Nat.reduceMul, Nat.reduceEqDiff, Go.Addr.add, ↓reduceIte] at hx109_2); (try simp only [show (4 : Int).toNat = 4 from rfl, Nat.reduceMul, Nat.reduceEqDiff, Go.Addr.add, ↓reduceIte] at hx109_3); (try simp only [show (4 : Int).toNat = 4 from rfl, Nat.reduceMul, Nat.reduceEqDiff, Go.Addr.add, ↓reduceIte] at hx109_4); have qi109 : (4 < t101.length) = True := eq_true (by omega); (try rw [show ((4 : Int)).toNat = 4 from rfl] at hx109_0); (try rw [show 4 * 5 = 20 from rfl] at hx109_0); (try rw [show ((4 : Int)).toNat = 4 from rfl] at hx109_1); (try rw [show 4 * 5 = 20 from rfl] at hx109_1); (try rw [show ((4 : Int)).toNat = 4 from rfl] at hx109_2); (try rw [show 4 * 5 = 20 from rfl] at hx109_2); (try rw [show ((4 : Int)).toNat = 4 from rfl] at hx109_3); (try rw [show 4 * 5 = 20 from rfl] at hx109_3); (try rw [show ((4 : Int)).toNat = 4 from rfl] at hx109_4); (try rw [show 4 * 5 = 20 from rfl] at hx109_4); replace p109 := eq_true p109; replace q109 := eq_true q109; have p110 : 0 ≤ (4 : Int) := (by omega); have q110 : 4 < (t101.length : Int) := of_decide_eq_true (by first | (with_reducible assumption) | assumption); obtain ⟨ad110, e110, hx110_0, hx110_1, hx110_2, hx110_3, hx110_4⟩ := at_T26 (Kd.R_reads' HO103.out).2.2 4 p110 q110; (try rw [← Nbq10.out] at hx110_3); (try rw [← Nbq10.out] at hx110_4); obtain rfl : ad107 = ad110 := (by injection e110); (try simp only [show (4 : Int).toNat = 4 from rfl, Nat.reduceMul, Nat.reduceEqDiff, Go.Addr.add, ↓reduceIte] at hx110_0); (try simp only [show (4 : Int).toNat = 4 from rfl, Nat.reduceMul, Nat.reduceEqDiff, Go.Addr.add, ↓reduceIte] at hx110_1); (try simp only [show (4 : Int).toNat = 4 from rfl, Nat.reduceMul, Nat.reduceEqDiff, Go.Addr.add, ↓reduceIte] at hx110_2); (try simp only [show (4 : Int).toNat = 4 from rfl, Nat.reduceMul, Nat.reduceEqDiff, Go.Addr.add, ↓reduceIte] at hx110_3); (try simp only [show (4 : Int).toNat = 4 from rfl, Nat.reduceMul, Nat.reduceEqDiff, Go.Addr.add, ↓reduceIte] at hx110_4); have qi110 : (4 < t101.length) = True := eq_true (by omega); (try rw [show ((4 : Int)).toNat = 4 from rfl] at hx110_0); (try rw [show 4 * 5 = 20 from rfl] at hx110_0); (try rw [show ((4 : Int)).toNat = 4 from rfl] at hx110_1); (try rw [show 4 * 5 = 20 from rfl] at hx110_1); (try rw [show ((4 : Int)).toNat = 4 from rfl] at hx110_2); (try rw [show 4 * 5 = 20 from rfl] at hx110_2); (try rw [show ((4 : Int)).toNat = 4 from rfl] at hx110_3); (try rw [show 4 * 5 = 20 from rfl] at hx110_3); (try rw [show ((4 : Int)).toNat = 4 from rfl] at hx110_4); (try rw [show 4 * 5 = 20 from rfl] at hx110_4); replace p110 := eq_true p110; replace q110 := eq_true q110; have p111 : 0 ≤ (4 : Int) := (by omega); have q111 : 4 < (t101.length : Int) := of_decide_eq_true (by first | (with_reducible assumption) | assumption); obtain ⟨ad111, e111, hx111_0, hx111_1, hx111_2, hx111_3, hx111_4⟩ := at_T26 (Kd.R_reads' HO103.out).2.2 4 p111 q111; (try rw [← Nbq10.out] at hx111_3); (try rw [← Nbq10.out] at hx111_4); obtain rfl : ad107 = ad111 := (by injection e111); (try simp only [show (4 : Int).toNat = 4 from rfl, Nat.reduceMul, Nat.reduceEqDiff, Go.Addr.add, ↓reduceIte] at hx111_0); (try simp only [show (4 : Int).toNat = 4 from rfl, Nat.reduceMul, Nat.reduceEqDiff, Go.Addr.add, ↓reduceIte] at hx111_1); (try simp only [show (4 : Int).toNat = 4 from rfl, Nat.reduceMul, Nat.reduceEqDiff, Go.Addr.add, ↓reduceIte] at hx111_2); (try simp only [show (4 : Int).toNat = 4 from rfl, Nat.reduceMul, Nat.reduceEqDiff, Go.Addr.add, ↓reduceIte] at hx111_3); (try simp only [show (4 : Int).toNat = 4 from rfl, Nat.reduceMul, Nat.reduceEqDiff, Go.Addr.add, ↓reduceIte] at hx111_4); have qi111 : (4 < t101.length) = True := eq_true (by omega); (try rw [show ((4 : Int)).toNat = 4 from rfl] at hx111_0); (try rw [show 4 * 5 = 20 from rfl] at hx111_0); (try rw [show ((4 : Int)).toNat = 4 from rfl] at hx111_1); (try rw [show 4 * 5 = 20 from rfl] at hx111_1); (try rw [show ((4 : Int)).toNat = 4 from rfl] at hx111_2); (try rw [show 4 * 5 = 20 from rfl] at hx111_2); (try rw [show ((4 : Int)).toNat = 4 from rfl] at hx111_3); (try rw [show 4 * 5 = 20 from rfl] at hx111_3); (try rw [show ((4 : Int)).toNat = 4 from rfl] at hx111_4); (try rw [show 4 * 5 = 20 from rfl] at hx111_4); replace p111 := eq_true p111; replace q111 := eq_true q111; obtain ⟨Ao29, co29, eo29⟩ := Kd.R_slice HO106.out; subst eo29; have p112 : 0 ≤ (0 : Int) := (by omega); have q112 : 0 < (t104.length : Int) := of_decide_eq_true (by first | (with_reducible assumption) | assumption); obtain ⟨ad112, e112, hx112_0, hx112_1, hx112_2, hx112_3, hx112_4⟩ := at_T26 (Kd.R_reads' HO106.out).2.2 0 p112 q112; (try rw [← Nbq10.out] at hx112_3); (try rw [← Nbq10.out] at hx112_4); cases e112; have qi112 : (0 < t104.length) = True := eq_true (by omega); (try rw [show ((0 : Int)).toNat = 0 from rfl] at hx112_0); (try rw [show 0 * 5 = 0 from rfl] at hx112_0); (try rw [Addr.add_zero'] at hx112_0); (try rw [show ((0 : Int)).toNat = 0 from rfl] at hx112_1); (try rw [show 0 * 5 = 0 from rfl] at hx112_1); (try rw [Addr.add_zero'] at hx112_1); (try rw [show ((0 : Int)).toNat = 0 from rfl] at hx112_2); (try rw [show 0 * 5 = 0 from rfl] at hx112_2); (try rw [Addr.add_zero'] at hx112_2); (try rw [show ((0 : Int)).toNat = 0 from rfl] at hx112_3); (try rw [show 0 * 5 = 0 from rfl] at hx112_3); (try rw [Addr.add_zero'] at hx112_3); (try rw [show ((0 : Int)).toNat = 0 from rfl] at hx112_4); (try rw [show 0 * 5 = 0 from rfl] at hx112_4); (try rw [Addr.add_zero'] at hx112_4); replace p112 := eq_true p112; replace q112 := eq_true q112; have p113 : 0 ≤ (1 : Int) := (by omega); have q113 : 1 < (t104.length : Int) := of_decide_eq_true (by first | (with_reducible assumption) | assumption); obtain ⟨ad113, e113, hx113_0, hx113_1, hx113_2, hx113_3, hx113_4⟩ := at_T26 (Kd.R_reads' HO106.out).2.2 1 p113 q113; (try rw [← Nbq10.out] at hx113_3); (try rw [← Nbq10.out] at hx113_4); obtain rfl : ad112 = ad113 := (by injection e113); (try simp only [show (1 : Int).toNat = 1 from rfl, Nat.reduceMul, Nat.reduceEqDiff, Go.Addr.add, ↓reduceIte] at hx113_0); (try simp only [show (1 : Int).toNat = 1 from rfl, Nat.reduceMul, Nat.reduceEqDiff, Go.Addr.add, ↓reduceIte] at hx113_1); (try simp only [show (1 : Int).toNat = 1 from rfl, Nat.reduceMul, Nat.reduceEqDiff, Go.Addr.add, ↓reduceIte] at hx113_2); (try simp only [show (1 : Int).toNat = 1 from rfl, Nat.reduceMul, Nat.reduceEqDiff, Go.Addr.add, ↓reduceIte] at hx113_3); (try simp only [show (1 : Int).toNat = 1 from rfl, Nat.reduceMul, Nat.reduceEqDiff, Go.Addr.add, ↓reduceIte] at hx113_4); have qi113 : (1 < t104.length) = True := eq_true (by omega); (try rw [show ((1 : Int)).toNat = 1 from rfl] at hx113_0); (try rw [show 1 * 5 = 5 from rfl] at hx113_0); (try rw [show ((1 : Int)).toNat = 1 from rfl] at hx113_1); (try rw [show 1 * 5 = 5 from rfl] at hx113_1); (try rw [show ((1 : Int)).toNat = 1 from rfl] at hx113_2); (try rw [show 1 * 5 = 5 from rfl] at hx113_2); (try rw [show ((1 : Int)).toNat = 1 from rfl] at hx113_3); (try rw [show 1 * 5 = 5 from rfl] at hx113_3); (try rw [show ((1 : Int)).toNat = 1 from rfl] at hx113_4); (try rw [show 1 * 5 = 5 from rfl] at hx113_4); replace p113 := eq_true p113; replace q113 := eq_true q113))
                            go_ret
                            exact ⟨by first | rfl | (simp [errW_none, errW_some] <;> rfl) | (simp [*, errW_none, errW_some] <;> rfl), by repeat (first | (with_reducible first | exact HB.out | apply below_alloc | apply pw_below_drewN | apply below_drew1) | exact HB.out)⟩
                        · rw [if_neg c18] at H
                          exact absurd H (by simp)
                      · rw [if_neg c17] at H
                        have c17b0 : (((rd_T26 t104 0).f0) == 6) = false := beq_eq_false_iff_ne.mpr c17
                        have c17b1 : (((rd_T26 t104 0).f0) != 6) = true := bne_iff_ne.mpr c17
                        obtain rfl := Option.some.inj H
                        go_enter Tryd.func9, Tryd.ntmps9
                        go_wp2_with (first | ((with_reducible refine gate_callee (f := 10) rfl ?_); refine goesL_ (some 3) rfl rfl Tryd.func10 (by kernel_rfl) rfl #[.string (⟨#[97, 123, 98, 58, 49, 46, 53, 101, 109, 125]⟩ : ByteArray)] rfl (by (try simp only [List.map_toArray, List.map_cons, List.map_nil]); first | done | rfl | (simp only [List.length_drop, List.length_take]; rfl)) ?_; (with_reducible refine (gouachelaw02_cut.calls (⟨#[97, 123, 98, 58, 49, 46, 53, 101, 109, 125]⟩ : ByteArray) t101 _ A1.out).mono ?_); rintro e w30 ⟨v102, rfl, ho0, hb⟩; refine ⟨_, rfl, ?_⟩; have n0_ := Aside0.mk (Kd.R_lower ho0 (below_size (by repeat (first | (with_reducible first | exact HB.out | apply below_alloc | apply pw_below_drewN | apply below_drew1) | exact HB.out)))); have n1_ := Aside0.mk (below_step (by repeat (first | (with_reducible first | exact HB.out | apply below_alloc | apply pw_below_drewN | apply below_drew1) | exact HB.out)) hb); clear HB; have HO103 := n0_; have HB := n1_; clear n0_ n1_; (try clear hb); (try clear hb2); (try clear hk); (try clear hi); (try clear ho0)) | ((with_reducible refine gate_callee (f := 10) rfl ?_); refine goesL_ (some 4) rfl rfl Tryd.func10 (by kernel_rfl) rfl #[.string (⟨#[34, 97, 10]⟩ : ByteArray)] rfl (by (try simp only [List.map_toArray, List.map_cons, List.map_nil]); first | done | rfl | (simp only [List.length_drop, List.length_take]; rfl)) ?_; (with_reducible refine (gouachelaw02_cut.calls (⟨#[34, 97, 10]⟩ : ByteArray) t104 _ A2.out).mono ?_); rintro e w31 ⟨v105, rfl, ho0, hb⟩; refine ⟨_, rfl, ?_⟩; have n0_ := Aside0.mk (Kd.R_elder' (by (with_reducible repeat (first | apply Kd.R_alloc | apply Kd.R_drewN | apply Kd.R_drew)); exact HO103.out) (Kd.R_base ho0) hb); have n1_ := Aside0.mk (Kd.R_lower (Kd.R_new' ho0 (Kd.R_lt (by (with_reducible repeat (first | apply Kd.R_alloc | apply Kd.R_drewN | apply Kd.R_drew)); exact HO103.out))) (below_size (by repeat (first | (with_reducible first | exact HB.out | apply below_alloc | apply pw_below_drewN | apply below_drew1) | exact HB.out)))); have n2_ := Aside0.mk (below_step (by repeat (first | (with_reducible first | exact HB.out | apply below_alloc | apply pw_below_drewN | apply below_drew1) | exact HB.out)) hb); clear HO103; clear HB; have HO103 := n0_; have HO106 := n1_; have HB := n2_; clear n0_ n1_ n2_; (try clear hb); (try clear hb2); (try clear hk); (try clear hi); (try clear ho0); obtain ⟨Ao32, co32, eo32⟩ := Kd.R_slice HO103.out; subst eo32; have p107 : 0 ≤ (0 : Int) := (by omega); have q107 : 0 < (t101.length : Int) := of_decide_eq_true (by first | (with_reducible assumption) | assumption); obtain ⟨ad107, e107, hx107_0, hx107_1, hx107_2, hx107_3, hx107_4⟩ := at_T26 (Kd.R_reads' HO103.out).2.2 0 p107 q107; (try rw [← Nbq10.out] at hx107_3); (try rw [← Nbq10.out] at hx107_4); cases e107; have qi107 : (0 < t101.length) = True := eq_true (by omega); (try rw [show ((0 : Int)).toNat = 0 from rfl] at hx107_0); (try rw [show 0 * 5 = 0 from rfl] at hx107_0); (try rw [Addr.add_zero'] at hx107_0); (try rw [show ((0 : Int)).toNat = 0 from rfl] at hx107_1); (try rw [show 0 * 5 = 0 from rfl] at hx107_1); (try rw [Addr.add_zero'] at hx107_1); (try rw [show ((0 : Int)).toNat = 0 from rfl] at hx107_2); (try rw [show 0 * 5 = 0 from rfl] at hx107_2); (try rw [Addr.add_zero'] at hx107_2); (try rw [show ((0 : Int)).toNat = 0 from rfl] at hx107_3); (try rw [show 0 * 5 = 0 from rfl] at hx107_3); (try rw [Addr.add_zero'] at hx107_3); (try rw [show ((0 : Int)).toNat = 0 from rfl] at hx107_4); (try rw [show 0 * 5 = 0 from rfl] at hx107_4); (try rw [Addr.add_zero'] at hx107_4); replace p107 := eq_true p107; replace q107 := eq_true q107; have p108 : 0 ≤ (4 : Int) := (by omega); have q108 : 4 < (t101.length : Int) := of_decide_eq_true (by first | (with_reducible assumption) | assumption); obtain ⟨ad108, e108, hx108_0, hx108_1, hx108_2, hx108_3, hx108_4⟩ := at_T26 (Kd.R_reads' HO103.out).2.2 4 p108 q108; (try rw [← Nbq10.out] at hx108_3); (try rw [← Nbq10.out] at hx108_4); obtain rfl : ad107 = ad108 := (by injection e108); (try simp only [show (4 : Int).toNat = 4 from rfl, Nat.reduceMul, Nat.reduceEqDiff, Go.Addr.add, ↓reduceIte] at hx108_0); (try simp only [show (4 : Int).toNat = 4 from rfl, Nat.reduceMul, Nat.reduceEqDiff, Go.Addr.add, ↓reduceIte] at hx108_1); (try simp only [show (4 : Int).toNat = 4 from rfl, Nat.reduceMul, Nat.reduceEqDiff, Go.Addr.add, ↓reduceIte] at hx108_2); (try simp only [show (4 : Int).toNat = 4 from rfl, Nat.reduceMul, Nat.reduceEqDiff, Go.Addr.add, ↓reduceIte] at hx108_3); (try simp only [show (4 : Int).toNat = 4 from rfl, Nat.reduceMul, Nat.reduceEqDiff, Go.Addr.add, ↓reduceIte] at hx108_4); have qi108 : (4 < t101.length) = True := eq_true (by omega); (try rw [show ((4 : Int)).toNat = 4 from rfl] at hx108_0); (try rw [show 4 * 5 = 20 from rfl] at hx108_0); (try rw [show ((4 : Int)).toNat = 4 from rfl] at hx108_1); (try rw [show 4 * 5 = 20 from rfl] at hx108_1); (try rw [show ((4 : Int)).toNat = 4 from rfl] at hx108_2); (try rw [show 4 * 5 = 20 from rfl] at hx108_2); (try rw [show ((4 : Int)).toNat = 4 from rfl] at hx108_3); (try rw [show 4 * 5 = 20 from rfl] at hx108_3); (try rw [show ((4 : Int)).toNat = 4 from rfl] at hx108_4); (try rw [show 4 * 5 = 20 from rfl] at hx108_4); replace p108 := eq_true p108; replace q108 := eq_true q108; have p109 : 0 ≤ (4 : Int) := (by omega); have q109 : 4 < (t101.length : Int) := of_decide_eq_true (by first | (with_reducible assumption) | assumption); obtain ⟨ad109, e109, hx109_0, hx109_1, hx109_2, hx109_3, hx109_4⟩ := at_T26 (Kd.R_reads' HO103.out).2.2 4 p109 q109; (try rw [← Nbq10.out] at hx109_3); (try rw [← Nbq10.out] at hx109_4); obtain rfl : ad107 = ad109 := (by injection e109); (try simp only [show (4 : Int).toNat = 4 from rfl, Nat.reduceMul, Nat.reduceEqDiff, Go.Addr.add, ↓reduceIte] at hx109_0); (try simp only [show (4 : Int).toNat = 4 from rfl, Nat.reduceMul, Nat.reduceEqDiff, Go.Addr.add, ↓reduceIte] at hx109_1); (try simp only [show (4 : Int).toNat = 4 from rfl, Nat.reduceMul, Nat.reduceEqDiff, Go.Addr.add, ↓reduceIte] at hx109_2); (try simp only [show (4 : Int).toNat = 4 from rfl, Nat.reduceMul, Nat.reduceEqDiff, Go.Addr.add, ↓reduceIte] at hx109_3); (try simp only [show (4 : Int).toNat = 4 from rfl, Nat.reduceMul, Nat.reduceEqDiff, Go.Addr.add, ↓reduceIte] at hx109_4); have qi109 : (4 < t101.length) = True := eq_true (by omega); (try rw [show ((4 : Int)).toNat = 4 from rfl] at hx109_0); (try rw [show 4 * 5 = 20 from rfl] at hx109_0); (try rw [show ((4 : Int)).toNat = 4 from rfl] at hx109_1); (try rw [show 4 * 5 = 20 from rfl] at hx109_1); (try rw [show ((4 : Int)).toNat = 4 from rfl] at hx109_2); (try rw [show 4 * 5 = 20 from rfl] at hx109_2); (try rw [show ((4 : Int)).toNat = 4 from rfl] at hx109_3); (try rw [show 4 * 5 = 20 from rfl] at hx109_3); (try rw [show ((4 : Int)).toNat = 4 from rfl] at hx109_4); (try rw [show 4 * 5 = 20 from rfl] at hx109_4); replace p109 := eq_true p109; replace q109 := eq_true q109; have p110 : 0 ≤ (4 : Int) := (by omega); have q110 : 4 < (t101.length : Int) := of_decide_eq_true (by first | (with_reducible assumption) | assumption); obtain ⟨ad110, e110, hx110_0, hx110_1, hx110_2, hx110_3, hx110_4⟩ := at_T26 (Kd.R_reads' HO103.out).2.2 4 p110 q110; (try rw [← Nbq10.out] at hx110_3); (try rw [← Nbq10.out] at hx110_4); obtain rfl : ad107 = ad110 := (by injection e110); (try simp only [show (4 : Int).toNat = 4 from rfl, Nat.reduceMul, Nat.reduceEqDiff, Go.Addr.add, ↓reduceIte] at hx110_0); (try simp only [show (4 : Int).toNat = 4 from rfl, Nat.reduceMul, Nat.reduceEqDiff, Go.Addr.add, ↓reduceIte] at hx110_1); (try simp only [show (4 : Int).toNat = 4 from rfl, Nat.reduceMul, Nat.reduceEqDiff, Go.Addr.add, ↓reduceIte] at hx110_2); (try simp only [show (4 : Int).toNat = 4 from rfl, Nat.reduceMul, Nat.reduceEqDiff, Go.Addr.add, ↓reduceIte] at hx110_3); (try simp only [show (4 : Int).toNat = 4 from rfl, Nat.reduceMul, Nat.reduceEqDiff, Go.Addr.add, ↓reduceIte] at hx110_4); have qi110 : (4 < t101.length) = True := eq_true (by omega); (try rw [show ((4 : Int)).toNat = 4 from rfl] at hx110_0); (try rw [show 4 * 5 = 20 from rfl] at hx110_0); (try rw [show ((4 : Int)).toNat = 4 from rfl] at hx110_1); (try rw [show 4 * 5 = 20 from rfl] at hx110_1); (try rw [show ((4 : Int)).toNat = 4 from rfl] at hx110_2); (try rw [show 4 * 5 = 20 from rfl] at hx110_2); (try rw [show ((4 : Int)).toNat = 4 from rfl] at hx110_3); (try rw [show 4 * 5 = 20 from rfl] at hx110_3); (try rw [show ((4 : Int)).toNat = 4 from rfl] at hx110_4); (try rw [show 4 * 5 = 20 from rfl] at hx110_4); replace p110 := eq_true p110; replace q110 := eq_true q110; have p111 : 0 ≤ (4 : Int) := (by omega); have q111 : 4 < (t101.length : Int) := of_decide_eq_true (by first | (with_reducible assumption) | assumption); obtain ⟨ad111, e111, hx111_0, hx111_1, hx111_2, hx111_3, hx111_4⟩ := at_T26 (Kd.R_reads' HO103.out).2.2 4 p111 q111; (try rw [← Nbq10.out] at hx111_3); (try rw [← Nbq10.out] at hx111_4); obtain rfl : ad107 = ad111 := (by injection e111); (try simp only [show (4 : Int).toNat = 4 from rfl, Nat.reduceMul, Nat.reduceEqDiff, Go.Addr.add, ↓reduceIte] at hx111_0); (try simp only [show (4 : Int).toNat = 4 from rfl, Nat.reduceMul, Nat.reduceEqDiff, Go.Addr.add, ↓reduceIte] at hx111_1); (try simp only [show (4 : Int).toNat = 4 from rfl, Nat.reduceMul, Nat.reduceEqDiff, Go.Addr.add, ↓reduceIte] at hx111_2); (try simp only [show (4 : Int).toNat = 4 from rfl, Nat.reduceMul, Nat.reduceEqDiff, Go.Addr.add, ↓reduceIte] at hx111_3); (try simp only [show (4 : Int).toNat = 4 from rfl, Nat.reduceMul, Nat.reduceEqDiff, Go.Addr.add, ↓reduceIte] at hx111_4); have qi111 : (4 < t101.length) = True := eq_true (by omega); (try rw [show ((4 : Int)).toNat = 4 from rfl] at hx111_0); (try rw [show 4 * 5 = 20 from rfl] at hx111_0); (try rw [show ((4 : Int)).toNat = 4 from rfl] at hx111_1); (try rw [show 4 * 5 = 20 from rfl] at hx111_1); (try rw [show ((4 : Int)).toNat = 4 from rfl] at hx111_2); (try rw [show 4 * 5 = 20 from rfl] at hx111_2); (try rw [show ((4 : Int)).toNat = 4 from rfl] at hx111_3); (try rw [show 4 * 5 = 20 from rfl] at hx111_3); (try rw [show ((4 : Int)).toNat = 4 from rfl] at hx111_4); (try rw [show 4 * 5 = 20 from rfl] at hx111_4); replace p111 := eq_true p111; replace q111 := eq_true q111; obtain ⟨Ao33, co33, eo33⟩ := Kd.R_slice HO106.out; subst eo33; have p112 : 0 ≤ (0 : Int) := (by omega); have q112 : 0 < (t104.length : Int) := of_decide_eq_true (by first | (with_reducible assumption) | assumption); obtain ⟨ad112, e112, hx112_0, hx112_1, hx112_2, hx112_3, hx112_4⟩ := at_T26 (Kd.R_reads' HO106.out).2.2 0 p112 q112; (try rw [← Nbq10.out] at hx112_3); (try rw [← Nbq10.out] at hx112_4); cases e112; have qi112 : (0 < t104.length) = True := eq_true (by omega); (try rw [show ((0 : Int)).toNat = 0 from rfl] at hx112_0); (try rw [show 0 * 5 = 0 from rfl] at hx112_0); (try rw [Addr.add_zero'] at hx112_0); (try rw [show ((0 : Int)).toNat = 0 from rfl] at hx112_1); (try rw [show 0 * 5 = 0 from rfl] at hx112_1); (try rw [Addr.add_zero'] at hx112_1); (try rw [show ((0 : Int)).toNat = 0 from rfl] at hx112_2); (try rw [show 0 * 5 = 0 from rfl] at hx112_2); (try rw [Addr.add_zero'] at hx112_2); (try rw [show ((0 : Int)).toNat = 0 from rfl] at hx112_3); (try rw [show 0 * 5 = 0 from rfl] at hx112_3); (try rw [Addr.add_zero'] at hx112_3); (try rw [show ((0 : Int)).toNat = 0 from rfl] at hx112_4); (try rw [show 0 * 5 = 0 from rfl] at hx112_4); (try rw [Addr.add_zero'] at hx112_4); replace p112 := eq_true p112; replace q112 := eq_true q112))
                        go_ret
                        exact ⟨by first | rfl | (simp [errW_none, errW_some] <;> rfl) | (simp [*, errW_none, errW_some] <;> rfl), by repeat (first | (with_reducible first | exact HB.out | apply below_alloc | apply pw_below_drewN | apply below_drew1) | exact HB.out)⟩
                    · rw [if_neg c16] at H
                      exact absurd H (by simp)
                  · rw [if_neg c15] at H
                    have c15b0 : ((t104.length : Int) == 2) = false := beq_eq_false_iff_ne.mpr c15
                    have c15b1 : ((t104.length : Int) != 2) = true := bne_iff_ne.mpr c15
                    obtain rfl := Option.some.inj H
                    go_enter Tryd.func9, Tryd.ntmps9
                    go_wp2_with (first | ((with_reducible refine gate_callee (f := 10) rfl ?_); refine goesL_ (some 3) rfl rfl Tryd.func10 (by kernel_rfl) rfl #[.string (⟨#[97, 123, 98, 58, 49, 46, 53, 101, 109, 125]⟩ : ByteArray)] rfl (by (try simp only [List.map_toArray, List.map_cons, List.map_nil]); first | done | rfl | (simp only [List.length_drop, List.length_take]; rfl)) ?_; (with_reducible refine (gouachelaw02_cut.calls (⟨#[97, 123, 98, 58, 49, 46, 53, 101, 109, 125]⟩ : ByteArray) t101 _ A1.out).mono ?_); rintro e w34 ⟨v102, rfl, ho0, hb⟩; refine ⟨_, rfl, ?_⟩; have n0_ := Aside0.mk (Kd.R_lower ho0 (below_size (by repeat (first | (with_reducible first | exact HB.out | apply below_alloc | apply pw_below_drewN | apply below_drew1) | exact HB.out)))); have n1_ := Aside0.mk (below_step (by repeat (first | (with_reducible first | exact HB.out | apply below_alloc | apply pw_below_drewN | apply below_drew1) | exact HB.out)) hb); clear HB; have HO103 := n0_; have HB := n1_; clear n0_ n1_; (try clear hb); (try clear hb2); (try clear hk); (try clear hi); (try clear ho0)) | ((with_reducible refine gate_callee (f := 10) rfl ?_); refine goesL_ (some 4) rfl rfl Tryd.func10 (by kernel_rfl) rfl #[.string (⟨#[34, 97, 10]⟩ : ByteArray)] rfl (by (try simp only [List.map_toArray, List.map_cons, List.map_nil]); first | done | rfl | (simp only [List.length_drop, List.length_take]; rfl)) ?_; (with_reducible refine (gouachelaw02_cut.calls (⟨#[34, 97, 10]⟩ : ByteArray) t104 _ A2.out).mono ?_); rintro e w35 ⟨v105, rfl, ho0, hb⟩; refine ⟨_, rfl, ?_⟩; have n0_ := Aside0.mk (Kd.R_elder' (by (with_reducible repeat (first | apply Kd.R_alloc | apply Kd.R_drewN | apply Kd.R_drew)); exact HO103.out) (Kd.R_base ho0) hb); have n1_ := Aside0.mk (Kd.R_lower (Kd.R_new' ho0 (Kd.R_lt (by (with_reducible repeat (first | apply Kd.R_alloc | apply Kd.R_drewN | apply Kd.R_drew)); exact HO103.out))) (below_size (by repeat (first | (with_reducible first | exact HB.out | apply below_alloc | apply pw_below_drewN | apply below_drew1) | exact HB.out)))); have n2_ := Aside0.mk (below_step (by repeat (first | (with_reducible first | exact HB.out | apply below_alloc | apply pw_below_drewN | apply below_drew1) | exact HB.out)) hb); clear HO103; clear HB; have HO103 := n0_; have HO106 := n1_; have HB := n2_; clear n0_ n1_ n2_; (try clear hb); (try clear hb2); (try clear hk); (try clear hi); (try clear ho0); obtain ⟨Ao36, co36, eo36⟩ := Kd.R_slice HO103.out; subst eo36; have p107 : 0 ≤ (0 : Int) := (by omega); have q107 : 0 < (t101.length : Int) := of_decide_eq_true (by first | (with_reducible assumption) | assumption); obtain ⟨ad107, e107, hx107_0, hx107_1, hx107_2, hx107_3, hx107_4⟩ := at_T26 (Kd.R_reads' HO103.out).2.2 0 p107 q107; (try rw [← Nbq10.out] at hx107_3); (try rw [← Nbq10.out] at hx107_4); cases e107; have qi107 : (0 < t101.length) = True := eq_true (by omega); (try rw [show ((0 : Int)).toNat = 0 from rfl] at hx107_0); (try rw [show 0 * 5 = 0 from rfl] at hx107_0); (try rw [Addr.add_zero'] at hx107_0); (try rw [show ((0 : Int)).toNat = 0 from rfl] at hx107_1); (try rw [show 0 * 5 = 0 from rfl] at hx107_1); (try rw [Addr.add_zero'] at hx107_1); (try rw [show ((0 : Int)).toNat = 0 from rfl] at hx107_2); (try rw [show 0 * 5 = 0 from rfl] at hx107_2); (try rw [Addr.add_zero'] at hx107_2); (try rw [show ((0 : Int)).toNat = 0 from rfl] at hx107_3); (try rw [show 0 * 5 = 0 from rfl] at hx107_3); (try rw [Addr.add_zero'] at hx107_3); (try rw [show ((0 : Int)).toNat = 0 from rfl] at hx107_4); (try rw [show 0 * 5 = 0 from rfl] at hx107_4); (try rw [Addr.add_zero'] at hx107_4); replace p107 := eq_true p107; replace q107 := eq_true q107; have p108 : 0 ≤ (4 : Int) := (by omega); have q108 : 4 < (t101.length : Int) := of_decide_eq_true (by first | (with_reducible assumption) | assumption); obtain ⟨ad108, e108, hx108_0, hx108_1, hx108_2, hx108_3, hx108_4⟩ := at_T26 (Kd.R_reads' HO103.out).2.2 4 p108 q108; (try rw [← Nbq10.out] at hx108_3); (try rw [← Nbq10.out] at hx108_4); obtain rfl : ad107 = ad108 := (by injection e108); (try simp only [show (4 : Int).toNat = 4 from rfl, Nat.reduceMul, Nat.reduceEqDiff, Go.Addr.add, ↓reduceIte] at hx108_0); (try simp only [show (4 : Int).toNat = 4 from rfl, Nat.reduceMul, Nat.reduceEqDiff, Go.Addr.add, ↓reduceIte] at hx108_1); (try simp only [show (4 : Int).toNat = 4 from rfl, Nat.reduceMul, Nat.reduceEqDiff, Go.Addr.add, ↓reduceIte] at hx108_2); (try simp only [show (4 : Int).toNat = 4 from rfl, Nat.reduceMul, Nat.reduceEqDiff, Go.Addr.add, ↓reduceIte] at hx108_3); (try simp only [show (4 : Int).toNat = 4 from rfl, Nat.reduceMul, Nat.reduceEqDiff, Go.Addr.add, ↓reduceIte] at hx108_4); have qi108 : (4 < t101.length) = True := eq_true (by omega); (try rw [show ((4 : Int)).toNat = 4 from rfl] at hx108_0); (try rw [show 4 * 5 = 20 from rfl] at hx108_0); (try rw [show ((4 : Int)).toNat = 4 from rfl] at hx108_1); (try rw [show 4 * 5 = 20 from rfl] at hx108_1); (try rw [show ((4 : Int)).toNat = 4 from rfl] at hx108_2); (try rw [show 4 * 5 = 20 from rfl] at hx108_2); (try rw [show ((4 : Int)).toNat = 4 from rfl] at hx108_3); (try rw [show 4 * 5 = 20 from rfl] at hx108_3); (try rw [show ((4 : Int)).toNat = 4 from rfl] at hx108_4); (try rw [show 4 * 5 = 20 from rfl] at hx108_4); replace p108 := eq_true p108; replace q108 := eq_true q108; have p109 : 0 ≤ (4 : Int) := (by omega); have q109 : 4 < (t101.length : Int) := of_decide_eq_true (by first | (with_reducible assumption) | assumption); obtain ⟨ad109, e109, hx109_0, hx109_1, hx109_2, hx109_3, hx109_4⟩ := at_T26 (Kd.R_reads' HO103.out).2.2 4 p109 q109; (try rw [← Nbq10.out] at hx109_3); (try rw [← Nbq10.out] at hx109_4); obtain rfl : ad107 = ad109 := (by injection e109); (try simp only [show (4 : Int).toNat = 4 from rfl, Nat.reduceMul, Nat.reduceEqDiff, Go.Addr.add, ↓reduceIte] at hx109_0); (try simp only [show (4 : Int).toNat = 4 from rfl, Nat.reduceMul, Nat.reduceEqDiff, Go.Addr.add, ↓reduceIte] at hx109_1); (try simp only [show (4 : Int).toNat = 4 from rfl, Nat.reduceMul, Nat.reduceEqDiff, Go.Addr.add, ↓reduceIte] at hx109_2); (try simp only [show (4 : Int).toNat = 4 from rfl, Nat.reduceMul, Nat.reduceEqDiff, Go.Addr.add, ↓reduceIte] at hx109_3); (try simp only [show (4 : Int).toNat = 4 from rfl, Nat.reduceMul, Nat.reduceEqDiff, Go.Addr.add, ↓reduceIte] at hx109_4); have qi109 : (4 < t101.length) = True := eq_true (by omega); (try rw [show ((4 : Int)).toNat = 4 from rfl] at hx109_0); (try rw [show 4 * 5 = 20 from rfl] at hx109_0); (try rw [show ((4 : Int)).toNat = 4 from rfl] at hx109_1); (try rw [show 4 * 5 = 20 from rfl] at hx109_1); (try rw [show ((4 : Int)).toNat = 4 from rfl] at hx109_2); (try rw [show 4 * 5 = 20 from rfl] at hx109_2); (try rw [show ((4 : Int)).toNat = 4 from rfl] at hx109_3); (try rw [show 4 * 5 = 20 from rfl] at hx109_3); (try rw [show ((4 : Int)).toNat = 4 from rfl] at hx109_4); (try rw [show 4 * 5 = 20 from rfl] at hx109_4); replace p109 := eq_true p109; replace q109 := eq_true q109; have p110 : 0 ≤ (4 : Int) := (by omega); have q110 : 4 < (t101.length : Int) := of_decide_eq_true (by first | (with_reducible assumption) | assumption); obtain ⟨ad110, e110, hx110_0, hx110_1, hx110_2, hx110_3, hx110_4⟩ := at_T26 (Kd.R_reads' HO103.out).2.2 4 p110 q110; (try rw [← Nbq10.out] at hx110_3); (try rw [← Nbq10.out] at hx110_4); obtain rfl : ad107 = ad110 := (by injection e110); (try simp only [show (4 : Int).toNat = 4 from rfl, Nat.reduceMul, Nat.reduceEqDiff, Go.Addr.add, ↓reduceIte] at hx110_0); (try simp only [show (4 : Int).toNat = 4 from rfl, Nat.reduceMul, Nat.reduceEqDiff, Go.Addr.add, ↓reduceIte] at hx110_1); (try simp only [show (4 : Int).toNat = 4 from rfl, Nat.reduceMul, Nat.reduceEqDiff, Go.Addr.add, ↓reduceIte] at hx110_2); (try simp only [show (4 : Int).toNat = 4 from rfl, Nat.reduceMul, Nat.reduceEqDiff, Go.Addr.add, ↓reduceIte] at hx110_3); (try simp only [show (4 : Int).toNat = 4 from rfl, Nat.reduceMul, Nat.reduceEqDiff, Go.Addr.add, ↓reduceIte] at hx110_4); have qi110 : (4 < t101.length) = True := eq_true (by omega); (try rw [show ((4 : Int)).toNat = 4 from rfl] at hx110_0); (try rw [show 4 * 5 = 20 from rfl] at hx110_0); (try rw [show ((4 : Int)).toNat = 4 from rfl] at hx110_1); (try rw [show 4 * 5 = 20 from rfl] at hx110_1); (try rw [show ((4 : Int)).toNat = 4 from rfl] at hx110_2); (try rw [show 4 * 5 = 20 from rfl] at hx110_2); (try rw [show ((4 : Int)).toNat = 4 from rfl] at hx110_3); (try rw [show 4 * 5 = 20 from rfl] at hx110_3); (try rw [show ((4 : Int)).toNat = 4 from rfl] at hx110_4); (try rw [show 4 * 5 = 20 from rfl] at hx110_4); replace p110 := eq_true p110; replace q110 := eq_true q110; have p111 : 0 ≤ (4 : Int) := (by omega); have q111 : 4 < (t101.length : Int) := of_decide_eq_true (by first | (with_reducible assumption) | assumption); obtain ⟨ad111, e111, hx111_0, hx111_1, hx111_2, hx111_3, hx111_4⟩ := at_T26 (Kd.R_reads' HO103.out).2.2 4 p111 q111; (try rw [← Nbq10.out] at hx111_3); (try rw [← Nbq10.out] at hx111_4); obtain rfl : ad107 = ad111 := (by injection e111); (try simp only [show (4 : Int).toNat = 4 from rfl, Nat.reduceMul, Nat.reduceEqDiff, Go.Addr.add, ↓reduceIte] at hx111_0); (try simp only [show (4 : Int).toNat = 4 from rfl, Nat.reduceMul, Nat.reduceEqDiff, Go.Addr.add, ↓reduceIte] at hx111_1); (try simp only [show (4 : Int).toNat = 4 from rfl, Nat.reduceMul, Nat.reduceEqDiff, Go.Addr.add, ↓reduceIte] at hx111_2); (try simp only [show (4 : Int).toNat = 4 from rfl, Nat.reduceMul, Nat.reduceEqDiff, Go.Addr.add, ↓reduceIte] at hx111_3); (try simp only [show (4 : Int).toNat = 4 from rfl, Nat.reduceMul, Nat.reduceEqDiff, Go.Addr.add, ↓reduceIte] at hx111_4); have qi111 : (4 < t101.length) = True := eq_true (by omega); (try rw [show ((4 : Int)).toNat = 4 from rfl] at hx111_0); (try rw [show 4 * 5 = 20 from rfl] at hx111_0); (try rw [show ((4 : Int)).toNat = 4 from rfl] at hx111_1); (try rw [show 4 * 5 = 20 from rfl] at hx111_1); (try rw [show ((4 : Int)).toNat = 4 from rfl] at hx111_2); (try rw [show 4 * 5 = 20 from rfl] at hx111_2); (try rw [show ((4 : Int)).toNat = 4 from rfl] at hx111_3); (try rw [show 4 * 5 = 20 from rfl] at hx111_3); (try rw [show ((4 : Int)).toNat = 4 from rfl] at hx111_4); (try rw [show 4 * 5 = 20 from rfl] at hx111_4); replace p111 := eq_true p111; replace q111 := eq_true q111; obtain ⟨Ao37, co37, eo37⟩ := Kd.R_slice HO106.out; subst eo37))
                    go_ret
                    exact ⟨by first | rfl | (simp [errW_none, errW_some] <;> rfl) | (simp [*, errW_none, errW_some] <;> rfl), by repeat (first | (with_reducible first | exact HB.out | apply below_alloc | apply pw_below_drewN | apply below_drew1) | exact HB.out)⟩
              · rw [if_neg c9] at H
                have c9b0 : (((rd_T26 t101 4).f2).toList == ([101, 109] : List UInt8)) = false := beq_eq_false_iff_ne.mpr c9
                have c9b1 : (((rd_T26 t101 4).f2).toList != ([101, 109] : List UInt8)) = true := bne_iff_ne.mpr c9
                obtain rfl := Option.some.inj H
                go_enter Tryd.func9, Tryd.ntmps9
                go_wp2_with (first | ((with_reducible refine gate_callee (f := 10) rfl ?_); refine goesL_ (some 3) rfl rfl Tryd.func10 (by kernel_rfl) rfl #[.string (⟨#[97, 123, 98, 58, 49, 46, 53, 101, 109, 125]⟩ : ByteArray)] rfl (by (try simp only [List.map_toArray, List.map_cons, List.map_nil]); first | done | rfl | (simp only [List.length_drop, List.length_take]; rfl)) ?_; (with_reducible refine (gouachelaw02_cut.calls (⟨#[97, 123, 98, 58, 49, 46, 53, 101, 109, 125]⟩ : ByteArray) t101 _ A1.out).mono ?_); rintro e w38 ⟨v102, rfl, ho0, hb⟩; refine ⟨_, rfl, ?_⟩; have n0_ := Aside0.mk (Kd.R_lower ho0 (below_size (by repeat (first | (with_reducible first | exact HB.out | apply below_alloc | apply pw_below_drewN | apply below_drew1) | exact HB.out)))); have n1_ := Aside0.mk (below_step (by repeat (first | (with_reducible first | exact HB.out | apply below_alloc | apply pw_below_drewN | apply below_drew1) | exact HB.out)) hb); clear HB; have HO103 := n0_; have HB := n1_; clear n0_ n1_; (try clear hb); (try clear hb2); (try clear hk); (try clear hi); (try clear ho0)) | ((with_reducible refine gate_callee (f := 10) rfl ?_); refine goesL_ (some 4) rfl rfl Tryd.func10 (by kernel_rfl) rfl #[.string (⟨#[34, 97, 10]⟩ : ByteArray)] rfl (by (try simp only [List.map_toArray, List.map_cons, List.map_nil]); first | done | rfl | (simp only [List.length_drop, List.length_take]; rfl)) ?_; (with_reducible refine (gouachelaw02_cut.calls (⟨#[34, 97, 10]⟩ : ByteArray) t104 _ A2.out).mono ?_); rintro e w39 ⟨v105, rfl, ho0, hb⟩; refine ⟨_, rfl, ?_⟩; have n0_ := Aside0.mk (Kd.R_elder' (by (with_reducible repeat (first | apply Kd.R_alloc | apply Kd.R_drewN | apply Kd.R_drew)); exact HO103.out) (Kd.R_base ho0) hb); have n1_ := Aside0.mk (Kd.R_lower (Kd.R_new' ho0 (Kd.R_lt (by (with_reducible repeat (first | apply Kd.R_alloc | apply Kd.R_drewN | apply Kd.R_drew)); exact HO103.out))) (below_size (by repeat (first | (with_reducible first | exact HB.out | apply below_alloc | apply pw_below_drewN | apply below_drew1) | exact HB.out)))); have n2_ := Aside0.mk (below_step (by repeat (first | (with_reducible first | exact HB.out | apply below_alloc | apply pw_below_drewN | apply below_drew1) | exact HB.out)) hb); clear HO103; clear HB; have HO103 := n0_; have HO106 := n1_; have HB := n2_; clear n0_ n1_ n2_; (try clear hb); (try clear hb2); (try clear hk); (try clear hi); (try clear ho0); obtain ⟨Ao40, co40, eo40⟩ := Kd.R_slice HO103.out; subst eo40; have p107 : 0 ≤ (0 : Int) := (by omega); have q107 : 0 < (t101.length : Int) := of_decide_eq_true (by first | (with_reducible assumption) | assumption); obtain ⟨ad107, e107, hx107_0, hx107_1, hx107_2, hx107_3, hx107_4⟩ := at_T26 (Kd.R_reads' HO103.out).2.2 0 p107 q107; cases e107; have qi107 : (0 < t101.length) = True := eq_true (by omega); (try rw [show ((0 : Int)).toNat = 0 from rfl] at hx107_0); (try rw [show 0 * 5 = 0 from rfl] at hx107_0); (try rw [Addr.add_zero'] at hx107_0); (try rw [show ((0 : Int)).toNat = 0 from rfl] at hx107_1); (try rw [show 0 * 5 = 0 from rfl] at hx107_1); (try rw [Addr.add_zero'] at hx107_1); (try rw [show ((0 : Int)).toNat = 0 from rfl] at hx107_2); (try rw [show 0 * 5 = 0 from rfl] at hx107_2); (try rw [Addr.add_zero'] at hx107_2); (try rw [show ((0 : Int)).toNat = 0 from rfl] at hx107_3); (try rw [show 0 * 5 = 0 from rfl] at hx107_3); (try rw [Addr.add_zero'] at hx107_3); (try rw [show ((0 : Int)).toNat = 0 from rfl] at hx107_4); (try rw [show 0 * 5 = 0 from rfl] at hx107_4); (try rw [Addr.add_zero'] at hx107_4); replace p107 := eq_true p107; replace q107 := eq_true q107; have p108 : 0 ≤ (4 : Int) := (by omega); have q108 : 4 < (t101.length : Int) := of_decide_eq_true (by first | (with_reducible assumption) | assumption); obtain ⟨ad108, e108, hx108_0, hx108_1, hx108_2, hx108_3, hx108_4⟩ := at_T26 (Kd.R_reads' HO103.out).2.2 4 p108 q108; obtain rfl : ad107 = ad108 := (by injection e108); (try simp only [show (4 : Int).toNat = 4 from rfl, Nat.reduceMul, Nat.reduceEqDiff, Go.Addr.add, ↓reduceIte] at hx108_0); (try simp only [show (4 : Int).toNat = 4 from rfl, Nat.reduceMul, Nat.reduceEqDiff, Go.Addr.add, ↓reduceIte] at hx108_1); (try simp only [show (4 : Int).toNat = 4 from rfl, Nat.reduceMul, Nat.reduceEqDiff, Go.Addr.add, ↓reduceIte] at hx108_2); (try simp only [show (4 : Int).toNat = 4 from rfl, Nat.reduceMul, Nat.reduceEqDiff, Go.Addr.add, ↓reduceIte] at hx108_3); (try simp only [show (4 : Int).toNat = 4 from rfl, Nat.reduceMul, Nat.reduceEqDiff, Go.Addr.add, ↓reduceIte] at hx108_4); have qi108 : (4 < t101.length) = True := eq_true (by omega); (try rw [show ((4 : Int)).toNat = 4 from rfl] at hx108_0); (try rw [show 4 * 5 = 20 from rfl] at hx108_0); (try rw [show ((4 : Int)).toNat = 4 from rfl] at hx108_1); (try rw [show 4 * 5 = 20 from rfl] at hx108_1); (try rw [show ((4 : Int)).toNat = 4 from rfl] at hx108_2); (try rw [show 4 * 5 = 20 from rfl] at hx108_2); (try rw [show ((4 : Int)).toNat = 4 from rfl] at hx108_3); (try rw [show 4 * 5 = 20 from rfl] at hx108_3); (try rw [show ((4 : Int)).toNat = 4 from rfl] at hx108_4); (try rw [show 4 * 5 = 20 from rfl] at hx108_4); replace p108 := eq_true p108; replace q108 := eq_true q108; have p109 : 0 ≤ (4 : Int) := (by omega); have q109 : 4 < (t101.length : Int) := of_decide_eq_true (by first | (with_reducible assumption) | assumption); obtain ⟨ad109, e109, hx109_0, hx109_1, hx109_2, hx109_3, hx109_4⟩ := at_T26 (Kd.R_reads' HO103.out).2.2 4 p109 q109; obtain rfl : ad107 = ad109 := (by injection e109); (try simp only [show (4 : Int).toNat = 4 from rfl, Nat.reduceMul, Nat.reduceEqDiff, Go.Addr.add, ↓reduceIte] at hx109_0); (try simp only [show (4 : Int).toNat = 4 from rfl, Nat.reduceMul, Nat.reduceEqDiff, Go.Addr.add, ↓reduceIte] at hx109_1); (try simp only [show (4 : Int).toNat = 4 from rfl, Nat.reduceMul, Nat.reduceEqDiff, Go.Addr.add, ↓reduceIte] at hx109_2); (try simp only [show (4 : Int).toNat = 4 from rfl, Nat.reduceMul, Nat.reduceEqDiff, Go.Addr.add, ↓reduceIte] at hx109_3); (try simp only [show (4 : Int).toNat = 4 from rfl, Nat.reduceMul, Nat.reduceEqDiff, Go.Addr.add, ↓reduceIte] at hx109_4); have qi109 : (4 < t101.length) = True := eq_true (by omega); (try rw [show ((4 : Int)).toNat = 4 from rfl] at hx109_0); (try rw [show 4 * 5 = 20 from rfl] at hx109_0); (try rw [show ((4 : Int)).toNat = 4 from rfl] at hx109_1); (try rw [show 4 * 5 = 20 from rfl] at hx109_1); (try rw [show ((4 : Int)).toNat = 4 from rfl] at hx109_2); (try rw [show 4 * 5 = 20 from rfl] at hx109_2); (try rw [show ((4 : Int)).toNat = 4 from rfl] at hx109_3); (try rw [show 4 * 5 = 20 from rfl] at hx109_3); (try rw [show ((4 : Int)).toNat = 4 from rfl] at hx109_4); (try rw [show 4 * 5 = 20 from rfl] at hx109_4); replace p109 := eq_true p109; replace q109 := eq_true q109; have p110 : 0 ≤ (4 : Int) := (by omega); have q110 : 4 < (t101.length : Int) := of_decide_eq_true (by first | (with_reducible assumption) | assumption); obtain ⟨ad110, e110, hx110_0, hx110_1, hx110_2, hx110_3, hx110_4⟩ := at_T26 (Kd.R_reads' HO103.out).2.2 4 p110 q110; obtain rfl : ad107 = ad110 := (by injection e110); (try simp only [show (4 : Int).toNat = 4 from rfl, Nat.reduceMul, Nat.reduceEqDiff, Go.Addr.add, ↓reduceIte] at hx110_0); (try simp only [show (4 : Int).toNat = 4 from rfl, Nat.reduceMul, Nat.reduceEqDiff, Go.Addr.add, ↓reduceIte] at hx110_1); (try simp only [show (4 : Int).toNat = 4 from rfl, Nat.reduceMul, Nat.reduceEqDiff, Go.Addr.add, ↓reduceIte] at hx110_2); (try simp only [show (4 : Int).toNat = 4 from rfl, Nat.reduceMul, Nat.reduceEqDiff, Go.Addr.add, ↓reduceIte] at hx110_3); (try simp only [show (4 : Int).toNat = 4 from rfl, Nat.reduceMul, Nat.reduceEqDiff, Go.Addr.add, ↓reduceIte] at hx110_4); have qi110 : (4 < t101.length) = True := eq_true (by omega); (try rw [show ((4 : Int)).toNat = 4 from rfl] at hx110_0); (try rw [show 4 * 5 = 20 from rfl] at hx110_0); (try rw [show ((4 : Int)).toNat = 4 from rfl] at hx110_1); (try rw [show 4 * 5 = 20 from rfl] at hx110_1); (try rw [show ((4 : Int)).toNat = 4 from rfl] at hx110_2); (try rw [show 4 * 5 = 20 from rfl] at hx110_2); (try rw [show ((4 : Int)).toNat = 4 from rfl] at hx110_3); (try rw [show 4 * 5 = 20 from rfl] at hx110_3); (try rw [show ((4 : Int)).toNat = 4 from rfl] at hx110_4); (try rw [show 4 * 5 = 20 from rfl] at hx110_4); replace p110 := eq_true p110; replace q110 := eq_true q110))
                go_ret
                exact ⟨by first | rfl | (simp [errW_none, errW_some] <;> rfl) | (simp [*, errW_none, errW_some] <;> rfl), by repeat (first | (with_reducible first | exact HB.out | apply below_alloc | apply pw_below_drewN | apply below_drew1) | exact HB.out)⟩
            · rw [if_neg c8] at H
              have c8b0 : (((rd_T26 t101 4).f1).toList == ([49, 46, 53] : List UInt8)) = false := beq_eq_false_iff_ne.mpr c8
              have c8b1 : (((rd_T26 t101 4).f1).toList != ([49, 46, 53] : List UInt8)) = true := bne_iff_ne.mpr c8
              obtain rfl := Option.some.inj H
              go_enter Tryd.func9, Tryd.ntmps9
              go_wp2_with (first | ((with_reducible refine gate_callee (f := 10) rfl ?_); refine goesL_ (some 3) rfl rfl Tryd.func10 (by kernel_rfl) rfl #[.string (⟨#[97, 123, 98, 58, 49, 46, 53, 101, 109, 125]⟩ : ByteArray)] rfl (by (try simp only [List.map_toArray, List.map_cons, List.map_nil]); first | done | rfl | (simp only [List.length_drop, List.length_take]; rfl)) ?_; (with_reducible refine (gouachelaw02_cut.calls (⟨#[97, 123, 98, 58, 49, 46, 53, 101, 109, 125]⟩ : ByteArray) t101 _ A1.out).mono ?_); rintro e w41 ⟨v102, rfl, ho0, hb⟩; refine ⟨_, rfl, ?_⟩; have n0_ := Aside0.mk (Kd.R_lower ho0 (below_size (by repeat (first | (with_reducible first | exact HB.out | apply below_alloc | apply pw_below_drewN | apply below_drew1) | exact HB.out)))); have n1_ := Aside0.mk (below_step (by repeat (first | (with_reducible first | exact HB.out | apply below_alloc | apply pw_below_drewN | apply below_drew1) | exact HB.out)) hb); clear HB; have HO103 := n0_; have HB := n1_; clear n0_ n1_; (try clear hb); (try clear hb2); (try clear hk); (try clear hi); (try clear ho0)) | ((with_reducible refine gate_callee (f := 10) rfl ?_); refine goesL_ (some 4) rfl rfl Tryd.func10 (by kernel_rfl) rfl #[.string (⟨#[34, 97, 10]⟩ : ByteArray)] rfl (by (try simp only [List.map_toArray, List.map_cons, List.map_nil]); first | done | rfl | (simp only [List.length_drop, List.length_take]; rfl)) ?_; (with_reducible refine (gouachelaw02_cut.calls (⟨#[34, 97, 10]⟩ : ByteArray) t104 _ A2.out).mono ?_); rintro e w42 ⟨v105, rfl, ho0, hb⟩; refine ⟨_, rfl, ?_⟩; have n0_ := Aside0.mk (Kd.R_elder' (by (with_reducible repeat (first | apply Kd.R_alloc | apply Kd.R_drewN | apply Kd.R_drew)); exact HO103.out) (Kd.R_base ho0) hb); have n1_ := Aside0.mk (Kd.R_lower (Kd.R_new' ho0 (Kd.R_lt (by (with_reducible repeat (first | apply Kd.R_alloc | apply Kd.R_drewN | apply Kd.R_drew)); exact HO103.out))) (below_size (by repeat (first | (with_reducible first | exact HB.out | apply below_alloc | apply pw_below_drewN | apply below_drew1) | exact HB.out)))); have n2_ := Aside0.mk (below_step (by repeat (first | (with_reducible first | exact HB.out | apply below_alloc | apply pw_below_drewN | apply below_drew1) | exact HB.out)) hb); clear HO103; clear HB; have HO103 := n0_; have HO106 := n1_; have HB := n2_; clear n0_ n1_ n2_; (try clear hb); (try clear hb2); (try clear hk); (try clear hi); (try clear ho0); obtain ⟨Ao43, co43, eo43⟩ := Kd.R_slice HO103.out; subst eo43; have p107 : 0 ≤ (0 : Int) := (by omega); have q107 : 0 < (t101.length : Int) := of_decide_eq_true (by first | (with_reducible assumption) | assumption); obtain ⟨ad107, e107, hx107_0, hx107_1, hx107_2, hx107_3, hx107_4⟩ := at_T26 (Kd.R_reads' HO103.out).2.2 0 p107 q107; cases e107; have qi107 : (0 < t101.length) = True := eq_true (by omega); (try rw [show ((0 : Int)).toNat = 0 from rfl] at hx107_0); (try rw [show 0 * 5 = 0 from rfl] at hx107_0); (try rw [Addr.add_zero'] at hx107_0); (try rw [show ((0 : Int)).toNat = 0 from rfl] at hx107_1); (try rw [show 0 * 5 = 0 from rfl] at hx107_1); (try rw [Addr.add_zero'] at hx107_1); (try rw [show ((0 : Int)).toNat = 0 from rfl] at hx107_2); (try rw [show 0 * 5 = 0 from rfl] at hx107_2); (try rw [Addr.add_zero'] at hx107_2); (try rw [show ((0 : Int)).toNat = 0 from rfl] at hx107_3); (try rw [show 0 * 5 = 0 from rfl] at hx107_3); (try rw [Addr.add_zero'] at hx107_3); (try rw [show ((0 : Int)).toNat = 0 from rfl] at hx107_4); (try rw [show 0 * 5 = 0 from rfl] at hx107_4); (try rw [Addr.add_zero'] at hx107_4); replace p107 := eq_true p107; replace q107 := eq_true q107; have p108 : 0 ≤ (4 : Int) := (by omega); have q108 : 4 < (t101.length : Int) := of_decide_eq_true (by first | (with_reducible assumption) | assumption); obtain ⟨ad108, e108, hx108_0, hx108_1, hx108_2, hx108_3, hx108_4⟩ := at_T26 (Kd.R_reads' HO103.out).2.2 4 p108 q108; obtain rfl : ad107 = ad108 := (by injection e108); (try simp only [show (4 : Int).toNat = 4 from rfl, Nat.reduceMul, Nat.reduceEqDiff, Go.Addr.add, ↓reduceIte] at hx108_0); (try simp only [show (4 : Int).toNat = 4 from rfl, Nat.reduceMul, Nat.reduceEqDiff, Go.Addr.add, ↓reduceIte] at hx108_1); (try simp only [show (4 : Int).toNat = 4 from rfl, Nat.reduceMul, Nat.reduceEqDiff, Go.Addr.add, ↓reduceIte] at hx108_2); (try simp only [show (4 : Int).toNat = 4 from rfl, Nat.reduceMul, Nat.reduceEqDiff, Go.Addr.add, ↓reduceIte] at hx108_3); (try simp only [show (4 : Int).toNat = 4 from rfl, Nat.reduceMul, Nat.reduceEqDiff, Go.Addr.add, ↓reduceIte] at hx108_4); have qi108 : (4 < t101.length) = True := eq_true (by omega); (try rw [show ((4 : Int)).toNat = 4 from rfl] at hx108_0); (try rw [show 4 * 5 = 20 from rfl] at hx108_0); (try rw [show ((4 : Int)).toNat = 4 from rfl] at hx108_1); (try rw [show 4 * 5 = 20 from rfl] at hx108_1); (try rw [show ((4 : Int)).toNat = 4 from rfl] at hx108_2); (try rw [show 4 * 5 = 20 from rfl] at hx108_2); (try rw [show ((4 : Int)).toNat = 4 from rfl] at hx108_3); (try rw [show 4 * 5 = 20 from rfl] at hx108_3); (try rw [show ((4 : Int)).toNat = 4 from rfl] at hx108_4); (try rw [show 4 * 5 = 20 from rfl] at hx108_4); replace p108 := eq_true p108; replace q108 := eq_true q108; have p109 : 0 ≤ (4 : Int) := (by omega); have q109 : 4 < (t101.length : Int) := of_decide_eq_true (by first | (with_reducible assumption) | assumption); obtain ⟨ad109, e109, hx109_0, hx109_1, hx109_2, hx109_3, hx109_4⟩ := at_T26 (Kd.R_reads' HO103.out).2.2 4 p109 q109; obtain rfl : ad107 = ad109 := (by injection e109); (try simp only [show (4 : Int).toNat = 4 from rfl, Nat.reduceMul, Nat.reduceEqDiff, Go.Addr.add, ↓reduceIte] at hx109_0); (try simp only [show (4 : Int).toNat = 4 from rfl, Nat.reduceMul, Nat.reduceEqDiff, Go.Addr.add, ↓reduceIte] at hx109_1); (try simp only [show (4 : Int).toNat = 4 from rfl, Nat.reduceMul, Nat.reduceEqDiff, Go.Addr.add, ↓reduceIte] at hx109_2); (try simp only [show (4 : Int).toNat = 4 from rfl, Nat.reduceMul, Nat.reduceEqDiff, Go.Addr.add, ↓reduceIte] at hx109_3); (try simp only [show (4 : Int).toNat = 4 from rfl, Nat.reduceMul, Nat.reduceEqDiff, Go.Addr.add, ↓reduceIte] at hx109_4); have qi109 : (4 < t101.length) = True := eq_true (by omega); (try rw [show ((4 : Int)).toNat = 4 from rfl] at hx109_0); (try rw [show 4 * 5 = 20 from rfl] at hx109_0); (try rw [show ((4 : Int)).toNat = 4 from rfl] at hx109_1); (try rw [show 4 * 5 = 20 from rfl] at hx109_1); (try rw [show ((4 : Int)).toNat = 4 from rfl] at hx109_2); (try rw [show 4 * 5 = 20 from rfl] at hx109_2); (try rw [show ((4 : Int)).toNat = 4 from rfl] at hx109_3); (try rw [show 4 * 5 = 20 from rfl] at hx109_3); (try rw [show ((4 : Int)).toNat = 4 from rfl] at hx109_4); (try rw [show 4 * 5 = 20 from rfl] at hx109_4); replace p109 := eq_true p109; replace q109 := eq_true q109))
              go_ret
              exact ⟨by first | rfl | (simp [errW_none, errW_some] <;> rfl) | (simp [*, errW_none, errW_some] <;> rfl), by repeat (first | (with_reducible first | exact HB.out | apply below_alloc | apply pw_below_drewN | apply below_drew1) | exact HB.out)⟩
          · rw [if_neg c7] at H
            have c7b0 : (((rd_T26 t101 4).f0) == 12) = false := beq_eq_false_iff_ne.mpr c7
            have c7b1 : (((rd_T26 t101 4).f0) != 12) = true := bne_iff_ne.mpr c7
            obtain rfl := Option.some.inj H
            go_enter Tryd.func9, Tryd.ntmps9
            go_wp2_with (first | ((with_reducible refine gate_callee (f := 10) rfl ?_); refine goesL_ (some 3) rfl rfl Tryd.func10 (by kernel_rfl) rfl #[.string (⟨#[97, 123, 98, 58, 49, 46, 53, 101, 109, 125]⟩ : ByteArray)] rfl (by (try simp only [List.map_toArray, List.map_cons, List.map_nil]); first | done | rfl | (simp only [List.length_drop, List.length_take]; rfl)) ?_; (with_reducible refine (gouachelaw02_cut.calls (⟨#[97, 123, 98, 58, 49, 46, 53, 101, 109, 125]⟩ : ByteArray) t101 _ A1.out).mono ?_); rintro e w44 ⟨v102, rfl, ho0, hb⟩; refine ⟨_, rfl, ?_⟩; have n0_ := Aside0.mk (Kd.R_lower ho0 (below_size (by repeat (first | (with_reducible first | exact HB.out | apply below_alloc | apply pw_below_drewN | apply below_drew1) | exact HB.out)))); have n1_ := Aside0.mk (below_step (by repeat (first | (with_reducible first | exact HB.out | apply below_alloc | apply pw_below_drewN | apply below_drew1) | exact HB.out)) hb); clear HB; have HO103 := n0_; have HB := n1_; clear n0_ n1_; (try clear hb); (try clear hb2); (try clear hk); (try clear hi); (try clear ho0)) | ((with_reducible refine gate_callee (f := 10) rfl ?_); refine goesL_ (some 4) rfl rfl Tryd.func10 (by kernel_rfl) rfl #[.string (⟨#[34, 97, 10]⟩ : ByteArray)] rfl (by (try simp only [List.map_toArray, List.map_cons, List.map_nil]); first | done | rfl | (simp only [List.length_drop, List.length_take]; rfl)) ?_; (with_reducible refine (gouachelaw02_cut.calls (⟨#[34, 97, 10]⟩ : ByteArray) t104 _ A2.out).mono ?_); rintro e w45 ⟨v105, rfl, ho0, hb⟩; refine ⟨_, rfl, ?_⟩; have n0_ := Aside0.mk (Kd.R_elder' (by (with_reducible repeat (first | apply Kd.R_alloc | apply Kd.R_drewN | apply Kd.R_drew)); exact HO103.out) (Kd.R_base ho0) hb); have n1_ := Aside0.mk (Kd.R_lower (Kd.R_new' ho0 (Kd.R_lt (by (with_reducible repeat (first | apply Kd.R_alloc | apply Kd.R_drewN | apply Kd.R_drew)); exact HO103.out))) (below_size (by repeat (first | (with_reducible first | exact HB.out | apply below_alloc | apply pw_below_drewN | apply below_drew1) | exact HB.out)))); have n2_ := Aside0.mk (below_step (by repeat (first | (with_reducible first | exact HB.out | apply below_alloc | apply pw_below_drewN | apply below_drew1) | exact HB.out)) hb); clear HO103; clear HB; have HO103 := n0_; have HO106 := n1_; have HB := n2_; clear n0_ n1_ n2_; (try clear hb); (try clear hb2); (try clear hk); (try clear hi); (try clear ho0); obtain ⟨Ao46, co46, eo46⟩ := Kd.R_slice HO103.out; subst eo46; have p107 : 0 ≤ (0 : Int) := (by omega); have q107 : 0 < (t101.length : Int) := of_decide_eq_true (by first | (with_reducible assumption) | assumption); obtain ⟨ad107, e107, hx107_0, hx107_1, hx107_2, hx107_3, hx107_4⟩ := at_T26 (Kd.R_reads' HO103.out).2.2 0 p107 q107; cases e107; have qi107 : (0 < t101.length) = True := eq_true (by omega); (try rw [show ((0 : Int)).toNat = 0 from rfl] at hx107_0); (try rw [show 0 * 5 = 0 from rfl] at hx107_0); (try rw [Addr.add_zero'] at hx107_0); (try rw [show ((0 : Int)).toNat = 0 from rfl] at hx107_1); (try rw [show 0 * 5 = 0 from rfl] at hx107_1); (try rw [Addr.add_zero'] at hx107_1); (try rw [show ((0 : Int)).toNat = 0 from rfl] at hx107_2); (try rw [show 0 * 5 = 0 from rfl] at hx107_2); (try rw [Addr.add_zero'] at hx107_2); (try rw [show ((0 : Int)).toNat = 0 from rfl] at hx107_3); (try rw [show 0 * 5 = 0 from rfl] at hx107_3); (try rw [Addr.add_zero'] at hx107_3); (try rw [show ((0 : Int)).toNat = 0 from rfl] at hx107_4); (try rw [show 0 * 5 = 0 from rfl] at hx107_4); (try rw [Addr.add_zero'] at hx107_4); replace p107 := eq_true p107; replace q107 := eq_true q107; have p108 : 0 ≤ (4 : Int) := (by omega); have q108 : 4 < (t101.length : Int) := of_decide_eq_true (by first | (with_reducible assumption) | assumption); obtain ⟨ad108, e108, hx108_0, hx108_1, hx108_2, hx108_3, hx108_4⟩ := at_T26 (Kd.R_reads' HO103.out).2.2 4 p108 q108; obtain rfl : ad107 = ad108 := (by injection e108); (try simp only [show (4 : Int).toNat = 4 from rfl, Nat.reduceMul, Nat.reduceEqDiff, Go.Addr.add, ↓reduceIte] at hx108_0); (try simp only [show (4 : Int).toNat = 4 from rfl, Nat.reduceMul, Nat.reduceEqDiff, Go.Addr.add, ↓reduceIte] at hx108_1); (try simp only [show (4 : Int).toNat = 4 from rfl, Nat.reduceMul, Nat.reduceEqDiff, Go.Addr.add, ↓reduceIte] at hx108_2); (try simp only [show (4 : Int).toNat = 4 from rfl, Nat.reduceMul, Nat.reduceEqDiff, Go.Addr.add, ↓reduceIte] at hx108_3); (try simp only [show (4 : Int).toNat = 4 from rfl, Nat.reduceMul, Nat.reduceEqDiff, Go.Addr.add, ↓reduceIte] at hx108_4); have qi108 : (4 < t101.length) = True := eq_true (by omega); (try rw [show ((4 : Int)).toNat = 4 from rfl] at hx108_0); (try rw [show 4 * 5 = 20 from rfl] at hx108_0); (try rw [show ((4 : Int)).toNat = 4 from rfl] at hx108_1); (try rw [show 4 * 5 = 20 from rfl] at hx108_1); (try rw [show ((4 : Int)).toNat = 4 from rfl] at hx108_2); (try rw [show 4 * 5 = 20 from rfl] at hx108_2); (try rw [show ((4 : Int)).toNat = 4 from rfl] at hx108_3); (try rw [show 4 * 5 = 20 from rfl] at hx108_3); (try rw [show ((4 : Int)).toNat = 4 from rfl] at hx108_4); (try rw [show 4 * 5 = 20 from rfl] at hx108_4); replace p108 := eq_true p108; replace q108 := eq_true q108))
            go_ret
            exact ⟨by first | rfl | (simp [errW_none, errW_some] <;> rfl) | (simp [*, errW_none, errW_some] <;> rfl), by repeat (first | (with_reducible first | exact HB.out | apply below_alloc | apply pw_below_drewN | apply below_drew1) | exact HB.out)⟩
        · rw [if_neg c6] at H
          exact absurd H (by simp)
      · rw [if_neg c5] at H
        have c5b0 : (((rd_T26 t101 0).f0) == 1) = false := beq_eq_false_iff_ne.mpr c5
        have c5b1 : (((rd_T26 t101 0).f0) != 1) = true := bne_iff_ne.mpr c5
        obtain rfl := Option.some.inj H
        go_enter Tryd.func9, Tryd.ntmps9
        go_wp2_with (first | ((with_reducible refine gate_callee (f := 10) rfl ?_); refine goesL_ (some 3) rfl rfl Tryd.func10 (by kernel_rfl) rfl #[.string (⟨#[97, 123, 98, 58, 49, 46, 53, 101, 109, 125]⟩ : ByteArray)] rfl (by (try simp only [List.map_toArray, List.map_cons, List.map_nil]); first | done | rfl | (simp only [List.length_drop, List.length_take]; rfl)) ?_; (with_reducible refine (gouachelaw02_cut.calls (⟨#[97, 123, 98, 58, 49, 46, 53, 101, 109, 125]⟩ : ByteArray) t101 _ A1.out).mono ?_); rintro e w47 ⟨v102, rfl, ho0, hb⟩; refine ⟨_, rfl, ?_⟩; have n0_ := Aside0.mk (Kd.R_lower ho0 (below_size (by repeat (first | (with_reducible first | exact HB.out | apply below_alloc | apply pw_below_drewN | apply below_drew1) | exact HB.out)))); have n1_ := Aside0.mk (below_step (by repeat (first | (with_reducible first | exact HB.out | apply below_alloc | apply pw_below_drewN | apply below_drew1) | exact HB.out)) hb); clear HB; have HO103 := n0_; have HB := n1_; clear n0_ n1_; (try clear hb); (try clear hb2); (try clear hk); (try clear hi); (try clear ho0)) | ((with_reducible refine gate_callee (f := 10) rfl ?_); refine goesL_ (some 4) rfl rfl Tryd.func10 (by kernel_rfl) rfl #[.string (⟨#[34, 97, 10]⟩ : ByteArray)] rfl (by (try simp only [List.map_toArray, List.map_cons, List.map_nil]); first | done | rfl | (simp only [List.length_drop, List.length_take]; rfl)) ?_; (with_reducible refine (gouachelaw02_cut.calls (⟨#[34, 97, 10]⟩ : ByteArray) t104 _ A2.out).mono ?_); rintro e w48 ⟨v105, rfl, ho0, hb⟩; refine ⟨_, rfl, ?_⟩; have n0_ := Aside0.mk (Kd.R_elder' (by (with_reducible repeat (first | apply Kd.R_alloc | apply Kd.R_drewN | apply Kd.R_drew)); exact HO103.out) (Kd.R_base ho0) hb); have n1_ := Aside0.mk (Kd.R_lower (Kd.R_new' ho0 (Kd.R_lt (by (with_reducible repeat (first | apply Kd.R_alloc | apply Kd.R_drewN | apply Kd.R_drew)); exact HO103.out))) (below_size (by repeat (first | (with_reducible first | exact HB.out | apply below_alloc | apply pw_below_drewN | apply below_drew1) | exact HB.out)))); have n2_ := Aside0.mk (below_step (by repeat (first | (with_reducible first | exact HB.out | apply below_alloc | apply pw_below_drewN | apply below_drew1) | exact HB.out)) hb); clear HO103; clear HB; have HO103 := n0_; have HO106 := n1_; have HB := n2_; clear n0_ n1_ n2_; (try clear hb); (try clear hb2); (try clear hk); (try clear hi); (try clear ho0); obtain ⟨Ao49, co49, eo49⟩ := Kd.R_slice HO103.out; subst eo49; have p107 : 0 ≤ (0 : Int) := (by omega); have q107 : 0 < (t101.length : Int) := of_decide_eq_true (by first | (with_reducible assumption) | assumption); obtain ⟨ad107, e107, hx107_0, hx107_1, hx107_2, hx107_3, hx107_4⟩ := at_T26 (Kd.R_reads' HO103.out).2.2 0 p107 q107; cases e107; have qi107 : (0 < t101.length) = True := eq_true (by omega); (try rw [show ((0 : Int)).toNat = 0 from rfl] at hx107_0); (try rw [show 0 * 5 = 0 from rfl] at hx107_0); (try rw [Addr.add_zero'] at hx107_0); (try rw [show ((0 : Int)).toNat = 0 from rfl] at hx107_1); (try rw [show 0 * 5 = 0 from rfl] at hx107_1); (try rw [Addr.add_zero'] at hx107_1); (try rw [show ((0 : Int)).toNat = 0 from rfl] at hx107_2); (try rw [show 0 * 5 = 0 from rfl] at hx107_2); (try rw [Addr.add_zero'] at hx107_2); (try rw [show ((0 : Int)).toNat = 0 from rfl] at hx107_3); (try rw [show 0 * 5 = 0 from rfl] at hx107_3); (try rw [Addr.add_zero'] at hx107_3); (try rw [show ((0 : Int)).toNat = 0 from rfl] at hx107_4); (try rw [show 0 * 5 = 0 from rfl] at hx107_4); (try rw [Addr.add_zero'] at hx107_4); replace p107 := eq_true p107; replace q107 := eq_true q107))
        go_ret
        exact ⟨by first | rfl | (simp [errW_none, errW_some] <;> rfl) | (simp [*, errW_none, errW_some] <;> rfl), by repeat (first | (with_reducible first | exact HB.out | apply below_alloc | apply pw_below_drewN | apply below_drew1) | exact HB.out)⟩
    · rw [if_neg c4] at H
      exact absurd H (by simp)
  · rw [if_neg c3] at H
    have c3b0 : ((t101.length : Int) == 6) = false := beq_eq_false_iff_ne.mpr c3
    have c3b1 : ((t101.length : Int) != 6) = true := bne_iff_ne.mpr c3
    obtain rfl := Option.some.inj H
    go_enter Tryd.func9, Tryd.ntmps9
    go_wp2_with (first | ((with_reducible refine gate_callee (f := 10) rfl ?_); refine goesL_ (some 3) rfl rfl Tryd.func10 (by kernel_rfl) rfl #[.string (⟨#[97, 123, 98, 58, 49, 46, 53, 101, 109, 125]⟩ : ByteArray)] rfl (by (try simp only [List.map_toArray, List.map_cons, List.map_nil]); first | done | rfl | (simp only [List.length_drop, List.length_take]; rfl)) ?_; (with_reducible refine (gouachelaw02_cut.calls (⟨#[97, 123, 98, 58, 49, 46, 53, 101, 109, 125]⟩ : ByteArray) t101 _ A1.out).mono ?_); rintro e w50 ⟨v102, rfl, ho0, hb⟩; refine ⟨_, rfl, ?_⟩; have n0_ := Aside0.mk (Kd.R_lower ho0 (below_size (by repeat (first | (with_reducible first | exact HB.out | apply below_alloc | apply pw_below_drewN | apply below_drew1) | exact HB.out)))); have n1_ := Aside0.mk (below_step (by repeat (first | (with_reducible first | exact HB.out | apply below_alloc | apply pw_below_drewN | apply below_drew1) | exact HB.out)) hb); clear HB; have HO103 := n0_; have HB := n1_; clear n0_ n1_; (try clear hb); (try clear hb2); (try clear hk); (try clear hi); (try clear ho0)) | ((with_reducible refine gate_callee (f := 10) rfl ?_); refine goesL_ (some 4) rfl rfl Tryd.func10 (by kernel_rfl) rfl #[.string (⟨#[34, 97, 10]⟩ : ByteArray)] rfl (by (try simp only [List.map_toArray, List.map_cons, List.map_nil]); first | done | rfl | (simp only [List.length_drop, List.length_take]; rfl)) ?_; (with_reducible refine (gouachelaw02_cut.calls (⟨#[34, 97, 10]⟩ : ByteArray) t104 _ A2.out).mono ?_); rintro e w51 ⟨v105, rfl, ho0, hb⟩; refine ⟨_, rfl, ?_⟩; have n0_ := Aside0.mk (Kd.R_elder' (by (with_reducible repeat (first | apply Kd.R_alloc | apply Kd.R_drewN | apply Kd.R_drew)); exact HO103.out) (Kd.R_base ho0) hb); have n1_ := Aside0.mk (Kd.R_lower (Kd.R_new' ho0 (Kd.R_lt (by (with_reducible repeat (first | apply Kd.R_alloc | apply Kd.R_drewN | apply Kd.R_drew)); exact HO103.out))) (below_size (by repeat (first | (with_reducible first | exact HB.out | apply below_alloc | apply pw_below_drewN | apply below_drew1) | exact HB.out)))); have n2_ := Aside0.mk (below_step (by repeat (first | (with_reducible first | exact HB.out | apply below_alloc | apply pw_below_drewN | apply below_drew1) | exact HB.out)) hb); clear HO103; clear HB; have HO103 := n0_; have HO106 := n1_; have HB := n2_; clear n0_ n1_ n2_; (try clear hb); (try clear hb2); (try clear hk); (try clear hi); (try clear ho0); obtain ⟨Ao52, co52, eo52⟩ := Kd.R_slice HO103.out; subst eo52))
    go_ret
    exact ⟨by first | rfl | (simp [errW_none, errW_some] <;> rfl) | (simp [*, errW_none, errW_some] <;> rfl), by repeat (first | (with_reducible first | exact HB.out | apply below_alloc | apply pw_below_drewN | apply below_drew1) | exact HB.out)⟩
end Go.Proofs.YtpnlbmeeihbjaabDoor.P
end
section
set_option linter.unusedVariables false
set_option linter.unusedSimpArgs false
namespace Go.Proofs.YtpnlbmeeihbjaabDoor.P
open Go.RowKit Go.Proofs.YtpnlbmeeihbjaabDoorW.PrintWords Go.Proofs.YtpnlbmeeihbjaabDoorW.PrintLast Go.Proofs.YtpnlbmeeihbjaabDoorW.PrintMore
attribute [local go_sem] max2_int min2_int max_two min_two max_three min_three max_four min_four
set_option linter.unusedVariables false
set_option linter.unusedSimpArgs false
mutual
def gouachelaw02_TokenJoins.l0 : Nat → ByteArray → ByteArray → List (S26) → List (S26) → Int → Option (Bool)
  | 0, _, _, _, _, _ => none
  | k + 1, x0, x1, x5, x6, x7 => if x7 < (x0.size : Int) then (if 0 ≤ x7 then (if (bt x0 x7) = 34 then ((gouachelaw02_lives.f).bind fun t108 => (some t108)) else (if (bt x0 x7) = 39 then ((gouachelaw02_lives.f).bind fun t109 => (some t109)) else (if (bt x0 x7) = 40 then ((gouachelaw02_lives.f).bind fun t110 => (some t110)) else (if (bt x0 x7) = 47 then ((gouachelaw02_lives.f).bind fun t111 => (some t111)) else (if (bt x0 x7) = 92 then ((gouachelaw02_lives.f).bind fun t112 => (some t112)) else (if (bt x0 x7) = 13 then ((gouachelaw02_lives.f).bind fun t113 => (some t113)) else (gouachelaw02_TokenJoins.l0 k x0 x1 x5 x6 (wrap64 (x7 + 1))))))))) else (none)) else (if (x5.length : Int) > 0 then (if 0 ≤ (wrap64 ((x5.length : Int) - 1)) then (if (wrap64 ((x5.length : Int) - 1)) < (x5.length : Int) then (if ((rd_T26 x5 (wrap64 ((x5.length : Int) - 1))).f0) = 13 then (gouachelaw02_TokenJoins.j1 k x0 x1 x5 x6 true) else (if (x6.length : Int) > 0 then (if 0 < (x6.length : Int) then (gouachelaw02_TokenJoins.j1 k x0 x1 x5 x6 (((rd_T26 x6 0).f0) == 13)) else (none)) else (gouachelaw02_TokenJoins.j1 k x0 x1 x5 x6 false))) else (none)) else (none)) else (if (x6.length : Int) > 0 then (if 0 < (x6.length : Int) then (gouachelaw02_TokenJoins.j1 k x0 x1 x5 x6 (((rd_T26 x6 0).f0) == 13)) else (none)) else (gouachelaw02_TokenJoins.j1 k x0 x1 x5 x6 false)))
def gouachelaw02_TokenJoins.j1 : Nat → ByteArray → ByteArray → List (S26) → List (S26) → Bool → Option (Bool)
  | 0, _, _, _, _, _ => none
  | k + 1, x0, x1, x5, x6, x85 => if x85 = true then ((gouachelaw02_lives.f).bind fun t117 => (some t117)) else (if x0.size + 1 ≤ 9223372036854775807 then (if (x0 ++ (⟨#[10]⟩ : ByteArray)).size + x1.size ≤ 9223372036854775807 then ((gouachelaw02_cut.f ((x0 ++ (⟨#[10]⟩ : ByteArray)) ++ x1)).bind fun t118 => (if (t118.length : Int) = (wrap64 ((wrap64 ((x5.length : Int) + 1)) + (x6.length : Int))) then (if 0 ≤ (x5.length : Int) then (if (x5.length : Int) < (t118.length : Int) then (gouachelaw02_TokenJoins.j2 k x5 x6 t118 (((rd_T26 t118 (x5.length : Int)).f0) != 13)) else (none)) else (none)) else (gouachelaw02_TokenJoins.j2 k x5 x6 t118 true))) else (none)) else (none))
def gouachelaw02_TokenJoins.j2 : Nat → List (S26) → List (S26) → List (S26) → Bool → Option (Bool)
  | 0, _, _, _, _ => none
  | k + 1, x5, x6, x8, x109 => if x109 = true then (some false) else (if 0 ≤ (x5.length : Int) then (if (x5.length : Int) ≤ (x8.length : Int) then ((gouacheref02_Same.f k (x8.take ((x5.length : Int) : Int).toNat) x5).bind fun t126 => (if t126 = true then (if 0 ≤ (wrap64 ((x5.length : Int) + 1)) then (if (wrap64 ((x5.length : Int) + 1)) ≤ (x8.length : Int) then ((gouacheref02_Same.f k (x8.drop ((wrap64 ((x5.length : Int) + 1)) : Int).toNat) x6).bind fun t131 => (if t131 = true then ((gouachelaw02_lives.f).bind fun t132 => (some t132)) else (some false))) else (none)) else (none)) else (some false))) else (none)) else (none))
end
def gouachelaw02_TokenJoins.f (k : Nat) (a0 : ByteArray) (a1 : ByteArray) : Option (Bool) := if (wrap64 ((a0.size : Int) + (a1.size : Int))) > 2000 then ((gouachelaw02_lives.f).bind fun t101 => (some t101)) else ((gouachelaw02_cut.f a0).bind fun t102 => ((gouachelaw02_cut.f a1).bind fun t105 => (gouachelaw02_TokenJoins.l0 k a0 a1 t102 t105 0)))
set_option maxHeartbeats 8000000 in
set_option maxRecDepth 100000 in
theorem gouachelaw02_TokenJoins.calls (k : Nat) (a0 : ByteArray) (a1 : ByteArray) (r : Bool) (w : World) (h : gouachelaw02_TokenJoins.f k a0 a1 = some r) (hT : WT w) :
    Calls Tryd.prog 3 #[.string a0, .string a1] w fun e w' => e = .returned (.bool r) ∧ Below w.heap.size w w' := by
  have HT := Aside0.mk hT
  clear hT
  have HB := Aside0.mk (Below.refl w.heap.size w)
  have H : (if (wrap64 ((a0.size : Int) + (a1.size : Int))) > 2000 then ((gouachelaw02_lives.f).bind fun t101 => (some t101)) else ((gouachelaw02_cut.f a0).bind fun t102 => ((gouachelaw02_cut.f a1).bind fun t105 => (gouachelaw02_TokenJoins.l0 k a0 a1 t102 t105 0)))) = some r := h
  clear h
  by_cases c3 : (wrap64 ((a0.size : Int) + (a1.size : Int))) > 2000
  · rw [if_pos c3] at H
    have c3b0 : decide (2000 < (wrap64 ((a0.size : Int) + (a1.size : Int)))) = true := decide_eq_true c3
    clear c3
    replace H := Option.bind_eq_some_iff.mp H
    obtain ⟨t101, A40, H⟩ := H
    replace H : (some t101) = some r := H
    have A4 := Aside0.mk A40
    clear A40
    obtain rfl := Option.some.inj H
    go_enter Tryd.func3, Tryd.ntmps3
    go_wp2_with (first | ((with_reducible refine gate_callee (f := 9) rfl ?_); refine goesL_ (some 15) rfl rfl Tryd.func9 (by kernel_rfl) rfl #[] rfl (by (try simp only [List.map_toArray, List.map_cons, List.map_nil]); first | done | rfl | (simp only [List.length_drop, List.length_take]; rfl)) ?_; (with_reducible refine (gouachelaw02_lives.calls  t101 _ A4.out (HT.out.below (by repeat (first | (with_reducible first | exact HB.out | apply below_alloc | apply pw_below_drewN | apply below_drew1) | exact HB.out)))).mono ?_); rintro e w5 ⟨rfl, hb⟩; refine ⟨_, rfl, ?_⟩; have n0_ := Aside0.mk (below_step (by repeat (first | (with_reducible first | exact HB.out | apply below_alloc | apply pw_below_drewN | apply below_drew1) | exact HB.out)) hb); clear HB; have HB := n0_; clear n0_; (try clear hb); (try clear hb2); (try clear hk); (try clear hi)))
    go_ret
    exact ⟨by first | rfl | (simp [errW_none, errW_some] <;> rfl) | (simp [*, errW_none, errW_some] <;> rfl), by repeat (first | (with_reducible first | exact HB.out | apply below_alloc | apply pw_below_drewN | apply below_drew1) | exact HB.out)⟩
  · rw [if_neg c3] at H
    have c3b0 : decide (2000 < (wrap64 ((a0.size : Int) + (a1.size : Int)))) = false := decide_eq_false c3
    clear c3
    replace H := Option.bind_eq_some_iff.mp H
    obtain ⟨t102, A60, H⟩ := H
    replace H : ((gouachelaw02_cut.f a1).bind fun t105 => (gouachelaw02_TokenJoins.l0 k a0 a1 t102 t105 0)) = some r := H
    have A6 := Aside0.mk A60
    clear A60
    replace H := Option.bind_eq_some_iff.mp H
    obtain ⟨t105, A70, H⟩ := H
    replace H : (gouachelaw02_TokenJoins.l0 k a0 a1 t102 t105 0) = some r := H
    have A7 := Aside0.mk A70
    clear A70
    have H' := Aside0.mk H
    clear H
    go_enter Tryd.func3, Tryd.ntmps3
    go_wp2_with (first | ((with_reducible refine gate_callee (f := 10) rfl ?_); refine goesL_ (some 17) rfl rfl Tryd.func10 (by kernel_rfl) rfl #[.string a0] rfl (by (try simp only [List.map_toArray, List.map_cons, List.map_nil]); first | done | rfl | (simp only [List.length_drop, List.length_take]; rfl)) ?_; (with_reducible refine (gouachelaw02_cut.calls a0 t102 _ A6.out).mono ?_); rintro e w8 ⟨v103, rfl, ho0, hb⟩; refine ⟨_, rfl, ?_⟩; have n0_ := Aside0.mk (Kd.R_lower ho0 (below_size (by repeat (first | (with_reducible first | exact HB.out | apply below_alloc | apply pw_below_drewN | apply below_drew1) | exact HB.out)))); have n1_ := Aside0.mk (below_step (by repeat (first | (with_reducible first | exact HB.out | apply below_alloc | apply pw_below_drewN | apply below_drew1) | exact HB.out)) hb); clear HB; have HO104 := n0_; have HB := n1_; clear n0_ n1_; (try clear hb); (try clear hb2); (try clear hk); (try clear hi); (try clear ho0)) | ((with_reducible refine gate_callee (f := 10) rfl ?_); refine goesL_ (some 19) rfl rfl Tryd.func10 (by kernel_rfl) rfl #[.string a1] rfl (by (try simp only [List.map_toArray, List.map_cons, List.map_nil]); first | done | rfl | (simp only [List.length_drop, List.length_take]; rfl)) ?_; (with_reducible refine (gouachelaw02_cut.calls a1 t105 _ A7.out).mono ?_); rintro e w9 ⟨v106, rfl, ho0, hb⟩; refine ⟨_, rfl, ?_⟩; have n0_ := Aside0.mk (Kd.R_elder' (by (with_reducible repeat (first | apply Kd.R_alloc | apply Kd.R_drewN | apply Kd.R_drew)); exact HO104.out) (Kd.R_base ho0) hb); have n1_ := Aside0.mk (Kd.R_lower (Kd.R_new' ho0 (Kd.R_lt (by (with_reducible repeat (first | apply Kd.R_alloc | apply Kd.R_drewN | apply Kd.R_drew)); exact HO104.out))) (below_size (by repeat (first | (with_reducible first | exact HB.out | apply below_alloc | apply pw_below_drewN | apply below_drew1) | exact HB.out)))); have n2_ := Aside0.mk (below_step (by repeat (first | (with_reducible first | exact HB.out | apply below_alloc | apply pw_below_drewN | apply below_drew1) | exact HB.out)) hb); clear HO104; clear HB; have HO104 := n0_; have HO107 := n1_; have HB := n2_; clear n0_ n1_ n2_; (try clear hb); (try clear hb2); (try clear hk); (try clear hi); (try clear ho0)))
    go_loopg [7] k (fun kq v7 w' => ∃ (x7_1 : Int), v7 = .int .i64 x7_1 ∧ Aside0 (gouachelaw02_TokenJoins.l0 kq a0 a1 t102 t105 x7_1 = some r) ∧ Aside0 (kq ≤ k) ∧ Aside0 (Kd.R k26 26 w' w.heap.size (fun k_ => some k_ ≠ (v106 : Value).ownBlock) v103 t102) ∧ Aside0 (Kd.R k26 26 w' w.heap.size (fun k_ => some k_ ≠ (v103 : Value).ownBlock) v106 t105) ∧ Aside0 (Below w.heap.size w w'))
    case atStart => exact ⟨(0), (by first | rfl | (simp; done) | (simp [*]; done)), H', ⟨Nat.le_refl _⟩, ⟨by (with_reducible repeat (first | apply Kd.R_alloc | apply Kd.R_drewN | apply Kd.R_drew)); exact Kd.R_mono HO104.out (fun _ hk => hk.2)⟩, ⟨by (with_reducible repeat (first | apply Kd.R_alloc | apply Kd.R_drewN | apply Kd.R_drew)); exact Kd.R_mono HO107.out (fun _ hk => hk.2)⟩, ⟨by repeat (first | (with_reducible first | exact HB.out | apply below_alloc | apply pw_below_drewN | apply below_drew1) | exact HB.out)⟩⟩
    case round =>
      clear H'
      try clear c1
      try clear p2
      try clear c3
      try clear c3b0
      try clear p6
      try clear c9
      obtain ⟨x7_1, rfl, HA, HK1, HO_5, HO_6, HB⟩ := hrel
      cases gk with
      | zero => exact absurd HA.out (by simp [gouachelaw02_TokenJoins.l0])
      | succ k1 =>
        have H := HA.out
        clear HA
        simp only [gouachelaw02_TokenJoins.l0] at H
        by_cases c10 : x7_1 < (a0.size : Int)
        · rw [if_pos c10] at H
          have c10b0 : decide (x7_1 < (a0.size : Int)) = true := decide_eq_true c10
          clear c10
          by_cases c11 : 0 ≤ x7_1
          · rw [if_pos c11] at H
            have c11b0 : decide (0 ≤ x7_1) = true := decide_eq_true c11
            clear c11
            by_cases c13 : (bt a0 x7_1) = 34
            · rw [if_pos c13] at H
              have c13b0 : ((bt a0 x7_1) == 34) = true := beq_iff_eq.mpr c13
              have c13b1 : ((bt a0 x7_1) != 34) = false := bne_eq_false_iff_eq.mpr c13
              clear c13
              replace H := Option.bind_eq_some_iff.mp H
              obtain ⟨t108, A140, H⟩ := H
              replace H : (some t108) = some r := H
              have A14 := Aside0.mk A140
              clear A140
              obtain rfl := Option.some.inj H
              have p12 : 0 ≤ (x7_1 : Int) := of_decide_eq_true (by first | (with_reducible assumption) | assumption)
              have q12 : x7_1 < (a0.size : Int) := of_decide_eq_true (by first | (with_reducible assumption) | assumption)
              have hx12 := bt_at a0 x7_1
              replace p12 := eq_true p12
              replace q12 := eq_true q12
              go_wp2_with (first | ((with_reducible refine gate_callee (f := 9) rfl ?_); refine goesL_ (some 60) rfl rfl Tryd.func9 (by kernel_rfl) rfl #[] rfl (by (try simp only [List.map_toArray, List.map_cons, List.map_nil]); first | done | rfl | (simp only [List.length_drop, List.length_take]; rfl)) ?_; (with_reducible refine (gouachelaw02_lives.calls  t108 _ A14.out (HT.out.below (by repeat (first | (with_reducible first | exact HB.out | apply below_alloc | apply pw_below_drewN | apply below_drew1) | exact HB.out)))).mono ?_); rintro e w15 ⟨rfl, hb⟩; refine ⟨_, rfl, ?_⟩; have n0_ := Aside0.mk (Kd.R_below (by (with_reducible repeat (first | apply Kd.R_alloc | apply Kd.R_drewN | apply Kd.R_drew)); exact HO_5.out) hb); have n1_ := Aside0.mk (Kd.R_below (by (with_reducible repeat (first | apply Kd.R_alloc | apply Kd.R_drewN | apply Kd.R_drew)); exact HO_6.out) hb); have n2_ := Aside0.mk (below_step (by repeat (first | (with_reducible first | exact HB.out | apply below_alloc | apply pw_below_drewN | apply below_drew1) | exact HB.out)) hb); clear HO_5; clear HO_6; clear HB; have HO_5 := n0_; have HO_6 := n1_; have HB := n2_; clear n0_ n1_ n2_; (try clear hb); (try clear hb2); (try clear hk); (try clear hi)))
              go_ret
              exact ⟨by first | rfl | (simp [errW_none, errW_some] <;> rfl) | (simp [*, errW_none, errW_some] <;> rfl), by repeat (first | (with_reducible first | exact HB.out | apply below_alloc | apply pw_below_drewN | apply below_drew1) | exact HB.out)⟩
            · rw [if_neg c13] at H
              have c13b0 : ((bt a0 x7_1) == 34) = false := beq_eq_false_iff_ne.mpr c13
              have c13b1 : ((bt a0 x7_1) != 34) = true := bne_iff_ne.mpr c13
              by_cases c17 : (bt a0 x7_1) = 39
              · rw [if_pos c17] at H
                have c17b0 : ((bt a0 x7_1) == 39) = true := beq_iff_eq.mpr c17
                have c17b1 : ((bt a0 x7_1) != 39) = false := bne_eq_false_iff_eq.mpr c17
                clear c17
                replace H := Option.bind_eq_some_iff.mp H
                obtain ⟨t109, A180, H⟩ := H
                replace H : (some t109) = some r := H
                have A18 := Aside0.mk A180
                clear A180
                obtain rfl := Option.some.inj H
                have p12 : 0 ≤ (x7_1 : Int) := of_decide_eq_true (by first | (with_reducible assumption) | assumption)
                have q12 : x7_1 < (a0.size : Int) := of_decide_eq_true (by first | (with_reducible assumption) | assumption)
                have hx12 := bt_at a0 x7_1
                replace p12 := eq_true p12
                replace q12 := eq_true q12
                have p16 : 0 ≤ (x7_1 : Int) := of_decide_eq_true (by first | (with_reducible assumption) | assumption)
                have q16 : x7_1 < (a0.size : Int) := of_decide_eq_true (by first | (with_reducible assumption) | assumption)
                have hx16 := bt_at a0 x7_1
                replace p16 := eq_true p16
                replace q16 := eq_true q16
                go_wp2_with (first | ((with_reducible refine gate_callee (f := 9) rfl ?_); refine goesL_ (some 60) rfl rfl Tryd.func9 (by kernel_rfl) rfl #[] rfl (by (try simp only [List.map_toArray, List.map_cons, List.map_nil]); first | done | rfl | (simp only [List.length_drop, List.length_take]; rfl)) ?_; (with_reducible refine (gouachelaw02_lives.calls  t109 _ A18.out (HT.out.below (by repeat (first | (with_reducible first | exact HB.out | apply below_alloc | apply pw_below_drewN | apply below_drew1) | exact HB.out)))).mono ?_); rintro e w19 ⟨rfl, hb⟩; refine ⟨_, rfl, ?_⟩; have n0_ := Aside0.mk (Kd.R_below (by (with_reducible repeat (first | apply Kd.R_alloc | apply Kd.R_drewN | apply Kd.R_drew)); exact HO_5.out) hb); have n1_ := Aside0.mk (Kd.R_below (by (with_reducible repeat (first | apply Kd.R_alloc | apply Kd.R_drewN | apply Kd.R_drew)); exact HO_6.out) hb); have n2_ := Aside0.mk (below_step (by repeat (first | (with_reducible first | exact HB.out | apply below_alloc | apply pw_below_drewN | apply below_drew1) | exact HB.out)) hb); clear HO_5; clear HO_6; clear HB; have HO_5 := n0_; have HO_6 := n1_; have HB := n2_; clear n0_ n1_ n2_; (try clear hb); (try clear hb2); (try clear hk); (try clear hi)))
                go_ret
                exact ⟨by first | rfl | (simp [errW_none, errW_some] <;> rfl) | (simp [*, errW_none, errW_some] <;> rfl), by repeat (first | (with_reducible first | exact HB.out | apply below_alloc | apply pw_below_drewN | apply below_drew1) | exact HB.out)⟩
              · rw [if_neg c17] at H
                have c17b0 : ((bt a0 x7_1) == 39) = false := beq_eq_false_iff_ne.mpr c17
                have c17b1 : ((bt a0 x7_1) != 39) = true := bne_iff_ne.mpr c17
                by_cases c21 : (bt a0 x7_1) = 40
                · rw [if_pos c21] at H
                  have c21b0 : ((bt a0 x7_1) == 40) = true := beq_iff_eq.mpr c21
                  have c21b1 : ((bt a0 x7_1) != 40) = false := bne_eq_false_iff_eq.mpr c21
                  clear c21
                  replace H := Option.bind_eq_some_iff.mp H
                  obtain ⟨t110, A220, H⟩ := H
                  replace H : (some t110) = some r := H
                  have A22 := Aside0.mk A220
                  clear A220
                  obtain rfl := Option.some.inj H
                  have p12 : 0 ≤ (x7_1 : Int) := of_decide_eq_true (by first | (with_reducible assumption) | assumption)
                  have q12 : x7_1 < (a0.size : Int) := of_decide_eq_true (by first | (with_reducible assumption) | assumption)
                  have hx12 := bt_at a0 x7_1
                  replace p12 := eq_true p12
                  replace q12 := eq_true q12
                  have p16 : 0 ≤ (x7_1 : Int) := of_decide_eq_true (by first | (with_reducible assumption) | assumption)
                  have q16 : x7_1 < (a0.size : Int) := of_decide_eq_true (by first | (with_reducible assumption) | assumption)
                  have hx16 := bt_at a0 x7_1
                  replace p16 := eq_true p16
                  replace q16 := eq_true q16
                  have p20 : 0 ≤ (x7_1 : Int) := of_decide_eq_true (by first | (with_reducible assumption) | assumption)
                  have q20 : x7_1 < (a0.size : Int) := of_decide_eq_true (by first | (with_reducible assumption) | assumption)
                  have hx20 := bt_at a0 x7_1
                  replace p20 := eq_true p20
                  replace q20 := eq_true q20
                  go_wp2_with (first | ((with_reducible refine gate_callee (f := 9) rfl ?_); refine goesL_ (some 60) rfl rfl Tryd.func9 (by kernel_rfl) rfl #[] rfl (by (try simp only [List.map_toArray, List.map_cons, List.map_nil]); first | done | rfl | (simp only [List.length_drop, List.length_take]; rfl)) ?_; (with_reducible refine (gouachelaw02_lives.calls  t110 _ A22.out (HT.out.below (by repeat (first | (with_reducible first | exact HB.out | apply below_alloc | apply pw_below_drewN | apply below_drew1) | exact HB.out)))).mono ?_); rintro e w23 ⟨rfl, hb⟩; refine ⟨_, rfl, ?_⟩; have n0_ := Aside0.mk (Kd.R_below (by (with_reducible repeat (first | apply Kd.R_alloc | apply Kd.R_drewN | apply Kd.R_drew)); exact HO_5.out) hb); have n1_ := Aside0.mk (Kd.R_below (by (with_reducible repeat (first | apply Kd.R_alloc | apply Kd.R_drewN | apply Kd.R_drew)); exact HO_6.out) hb); have n2_ := Aside0.mk (below_step (by repeat (first | (with_reducible first | exact HB.out | apply below_alloc | apply pw_below_drewN | apply below_drew1) | exact HB.out)) hb); clear HO_5; clear HO_6; clear HB; have HO_5 := n0_; have HO_6 := n1_; have HB := n2_; clear n0_ n1_ n2_; (try clear hb); (try clear hb2); (try clear hk); (try clear hi)))
                  go_ret
                  exact ⟨by first | rfl | (simp [errW_none, errW_some] <;> rfl) | (simp [*, errW_none, errW_some] <;> rfl), by repeat (first | (with_reducible first | exact HB.out | apply below_alloc | apply pw_below_drewN | apply below_drew1) | exact HB.out)⟩
                · rw [if_neg c21] at H
                  have c21b0 : ((bt a0 x7_1) == 40) = false := beq_eq_false_iff_ne.mpr c21
                  have c21b1 : ((bt a0 x7_1) != 40) = true := bne_iff_ne.mpr c21
                  by_cases c25 : (bt a0 x7_1) = 47
                  · rw [if_pos c25] at H
                    have c25b0 : ((bt a0 x7_1) == 47) = true := beq_iff_eq.mpr c25
                    have c25b1 : ((bt a0 x7_1) != 47) = false := bne_eq_false_iff_eq.mpr c25
                    clear c25
                    replace H := Option.bind_eq_some_iff.mp H
                    obtain ⟨t111, A260, H⟩ := H
                    replace H : (some t111) = some r := H
                    have A26 := Aside0.mk A260
                    clear A260
                    obtain rfl := Option.some.inj H
                    have p12 : 0 ≤ (x7_1 : Int) := of_decide_eq_true (by first | (with_reducible assumption) | assumption)
                    have q12 : x7_1 < (a0.size : Int) := of_decide_eq_true (by first | (with_reducible assumption) | assumption)
                    have hx12 := bt_at a0 x7_1
                    replace p12 := eq_true p12
                    replace q12 := eq_true q12
                    have p16 : 0 ≤ (x7_1 : Int) := of_decide_eq_true (by first | (with_reducible assumption) | assumption)
                    have q16 : x7_1 < (a0.size : Int) := of_decide_eq_true (by first | (with_reducible assumption) | assumption)
                    have hx16 := bt_at a0 x7_1
                    replace p16 := eq_true p16
                    replace q16 := eq_true q16
                    have p20 : 0 ≤ (x7_1 : Int) := of_decide_eq_true (by first | (with_reducible assumption) | assumption)
                    have q20 : x7_1 < (a0.size : Int) := of_decide_eq_true (by first | (with_reducible assumption) | assumption)
                    have hx20 := bt_at a0 x7_1
                    replace p20 := eq_true p20
                    replace q20 := eq_true q20
                    have p24 : 0 ≤ (x7_1 : Int) := of_decide_eq_true (by first | (with_reducible assumption) | assumption)
                    have q24 : x7_1 < (a0.size : Int) := of_decide_eq_true (by first | (with_reducible assumption) | assumption)
                    have hx24 := bt_at a0 x7_1
                    replace p24 := eq_true p24
                    replace q24 := eq_true q24
                    go_wp2_with (first | ((with_reducible refine gate_callee (f := 9) rfl ?_); refine goesL_ (some 60) rfl rfl Tryd.func9 (by kernel_rfl) rfl #[] rfl (by (try simp only [List.map_toArray, List.map_cons, List.map_nil]); first | done | rfl | (simp only [List.length_drop, List.length_take]; rfl)) ?_; (with_reducible refine (gouachelaw02_lives.calls  t111 _ A26.out (HT.out.below (by repeat (first | (with_reducible first | exact HB.out | apply below_alloc | apply pw_below_drewN | apply below_drew1) | exact HB.out)))).mono ?_); rintro e w27 ⟨rfl, hb⟩; refine ⟨_, rfl, ?_⟩; have n0_ := Aside0.mk (Kd.R_below (by (with_reducible repeat (first | apply Kd.R_alloc | apply Kd.R_drewN | apply Kd.R_drew)); exact HO_5.out) hb); have n1_ := Aside0.mk (Kd.R_below (by (with_reducible repeat (first | apply Kd.R_alloc | apply Kd.R_drewN | apply Kd.R_drew)); exact HO_6.out) hb); have n2_ := Aside0.mk (below_step (by repeat (first | (with_reducible first | exact HB.out | apply below_alloc | apply pw_below_drewN | apply below_drew1) | exact HB.out)) hb); clear HO_5; clear HO_6; clear HB; have HO_5 := n0_; have HO_6 := n1_; have HB := n2_; clear n0_ n1_ n2_; (try clear hb); (try clear hb2); (try clear hk); (try clear hi)))
                    go_ret
                    exact ⟨by first | rfl | (simp [errW_none, errW_some] <;> rfl) | (simp [*, errW_none, errW_some] <;> rfl), by repeat (first | (with_reducible first | exact HB.out | apply below_alloc | apply pw_below_drewN | apply below_drew1) | exact HB.out)⟩
                  · rw [if_neg c25] at H
                    have c25b0 : ((bt a0 x7_1) == 47) = false := beq_eq_false_iff_ne.mpr c25
                    have c25b1 : ((bt a0 x7_1) != 47) = true := bne_iff_ne.mpr c25
                    by_cases c29 : (bt a0 x7_1) = 92
                    · rw [if_pos c29] at H
                      have c29b0 : ((bt a0 x7_1) == 92) = true := beq_iff_eq.mpr c29
                      have c29b1 : ((bt a0 x7_1) != 92) = false := bne_eq_false_iff_eq.mpr c29
                      clear c29
                      replace H := Option.bind_eq_some_iff.mp H
                      obtain ⟨t112, A300, H⟩ := H
                      replace H : (some t112) = some r := H
                      have A30 := Aside0.mk A300
                      clear A300
                      obtain rfl := Option.some.inj H
                      have p12 : 0 ≤ (x7_1 : Int) := of_decide_eq_true (by first | (with_reducible assumption) | assumption)
                      have q12 : x7_1 < (a0.size : Int) := of_decide_eq_true (by first | (with_reducible assumption) | assumption)
                      have hx12 := bt_at a0 x7_1
                      replace p12 := eq_true p12
                      replace q12 := eq_true q12
                      have p16 : 0 ≤ (x7_1 : Int) := of_decide_eq_true (by first | (with_reducible assumption) | assumption)
                      have q16 : x7_1 < (a0.size : Int) := of_decide_eq_true (by first | (with_reducible assumption) | assumption)
                      have hx16 := bt_at a0 x7_1
                      replace p16 := eq_true p16
                      replace q16 := eq_true q16
                      have p20 : 0 ≤ (x7_1 : Int) := of_decide_eq_true (by first | (with_reducible assumption) | assumption)
                      have q20 : x7_1 < (a0.size : Int) := of_decide_eq_true (by first | (with_reducible assumption) | assumption)
                      have hx20 := bt_at a0 x7_1
                      replace p20 := eq_true p20
                      replace q20 := eq_true q20
                      have p24 : 0 ≤ (x7_1 : Int) := of_decide_eq_true (by first | (with_reducible assumption) | assumption)
                      have q24 : x7_1 < (a0.size : Int) := of_decide_eq_true (by first | (with_reducible assumption) | assumption)
                      have hx24 := bt_at a0 x7_1
                      replace p24 := eq_true p24
                      replace q24 := eq_true q24
                      have p28 : 0 ≤ (x7_1 : Int) := of_decide_eq_true (by first | (with_reducible assumption) | assumption)
                      have q28 : x7_1 < (a0.size : Int) := of_decide_eq_true (by first | (with_reducible assumption) | assumption)
                      have hx28 := bt_at a0 x7_1
                      replace p28 := eq_true p28
                      replace q28 := eq_true q28
                      go_wp2_with (first | ((with_reducible refine gate_callee (f := 9) rfl ?_); refine goesL_ (some 60) rfl rfl Tryd.func9 (by kernel_rfl) rfl #[] rfl (by (try simp only [List.map_toArray, List.map_cons, List.map_nil]); first | done | rfl | (simp only [List.length_drop, List.length_take]; rfl)) ?_; (with_reducible refine (gouachelaw02_lives.calls  t112 _ A30.out (HT.out.below (by repeat (first | (with_reducible first | exact HB.out | apply below_alloc | apply pw_below_drewN | apply below_drew1) | exact HB.out)))).mono ?_); rintro e w31 ⟨rfl, hb⟩; refine ⟨_, rfl, ?_⟩; have n0_ := Aside0.mk (Kd.R_below (by (with_reducible repeat (first | apply Kd.R_alloc | apply Kd.R_drewN | apply Kd.R_drew)); exact HO_5.out) hb); have n1_ := Aside0.mk (Kd.R_below (by (with_reducible repeat (first | apply Kd.R_alloc | apply Kd.R_drewN | apply Kd.R_drew)); exact HO_6.out) hb); have n2_ := Aside0.mk (below_step (by repeat (first | (with_reducible first | exact HB.out | apply below_alloc | apply pw_below_drewN | apply below_drew1) | exact HB.out)) hb); clear HO_5; clear HO_6; clear HB; have HO_5 := n0_; have HO_6 := n1_; have HB := n2_; clear n0_ n1_ n2_; (try clear hb); (try clear hb2); (try clear hk); (try clear hi)))
                      go_ret
                      exact ⟨by first | rfl | (simp [errW_none, errW_some] <;> rfl) | (simp [*, errW_none, errW_some] <;> rfl), by repeat (first | (with_reducible first | exact HB.out | apply below_alloc | apply pw_below_drewN | apply below_drew1) | exact HB.out)⟩
                    · rw [if_neg c29] at H
                      have c29b0 : ((bt a0 x7_1) == 92) = false := beq_eq_false_iff_ne.mpr c29
                      have c29b1 : ((bt a0 x7_1) != 92) = true := bne_iff_ne.mpr c29
                      by_cases c33 : (bt a0 x7_1) = 13
                      · rw [if_pos c33] at H
                        have c33b0 : ((bt a0 x7_1) == 13) = true := beq_iff_eq.mpr c33
                        have c33b1 : ((bt a0 x7_1) != 13) = false := bne_eq_false_iff_eq.mpr c33
                        clear c33
                        replace H := Option.bind_eq_some_iff.mp H
                        obtain ⟨t113, A340, H⟩ := H
                        replace H : (some t113) = some r := H
                        have A34 := Aside0.mk A340
                        clear A340
                        obtain rfl := Option.some.inj H
                        have p12 : 0 ≤ (x7_1 : Int) := of_decide_eq_true (by first | (with_reducible assumption) | assumption)
                        have q12 : x7_1 < (a0.size : Int) := of_decide_eq_true (by first | (with_reducible assumption) | assumption)
                        have hx12 := bt_at a0 x7_1
                        replace p12 := eq_true p12
                        replace q12 := eq_true q12
                        have p16 : 0 ≤ (x7_1 : Int) := of_decide_eq_true (by first | (with_reducible assumption) | assumption)
                        have q16 : x7_1 < (a0.size : Int) := of_decide_eq_true (by first | (with_reducible assumption) | assumption)
                        have hx16 := bt_at a0 x7_1
                        replace p16 := eq_true p16
                        replace q16 := eq_true q16
                        have p20 : 0 ≤ (x7_1 : Int) := of_decide_eq_true (by first | (with_reducible assumption) | assumption)
                        have q20 : x7_1 < (a0.size : Int) := of_decide_eq_true (by first | (with_reducible assumption) | assumption)
                        have hx20 := bt_at a0 x7_1
                        replace p20 := eq_true p20
                        replace q20 := eq_true q20
                        have p24 : 0 ≤ (x7_1 : Int) := of_decide_eq_true (by first | (with_reducible assumption) | assumption)
                        have q24 : x7_1 < (a0.size : Int) := of_decide_eq_true (by first | (with_reducible assumption) | assumption)
                        have hx24 := bt_at a0 x7_1
                        replace p24 := eq_true p24
                        replace q24 := eq_true q24
                        have p28 : 0 ≤ (x7_1 : Int) := of_decide_eq_true (by first | (with_reducible assumption) | assumption)
                        have q28 : x7_1 < (a0.size : Int) := of_decide_eq_true (by first | (with_reducible assumption) | assumption)
                        have hx28 := bt_at a0 x7_1
                        replace p28 := eq_true p28
                        replace q28 := eq_true q28
                        have p32 : 0 ≤ (x7_1 : Int) := of_decide_eq_true (by first | (with_reducible assumption) | assumption)
                        have q32 : x7_1 < (a0.size : Int) := of_decide_eq_true (by first | (with_reducible assumption) | assumption)
                        have hx32 := bt_at a0 x7_1
                        replace p32 := eq_true p32
                        replace q32 := eq_true q32
                        go_wp2_with (first | ((with_reducible refine gate_callee (f := 9) rfl ?_); refine goesL_ (some 60) rfl rfl Tryd.func9 (by kernel_rfl) rfl #[] rfl (by (try simp only [List.map_toArray, List.map_cons, List.map_nil]); first | done | rfl | (simp only [List.length_drop, List.length_take]; rfl)) ?_; (with_reducible refine (gouachelaw02_lives.calls  t113 _ A34.out (HT.out.below (by repeat (first | (with_reducible first | exact HB.out | apply below_alloc | apply pw_below_drewN | apply below_drew1) | exact HB.out)))).mono ?_); rintro e w35 ⟨rfl, hb⟩; refine ⟨_, rfl, ?_⟩; have n0_ := Aside0.mk (Kd.R_below (by (with_reducible repeat (first | apply Kd.R_alloc | apply Kd.R_drewN | apply Kd.R_drew)); exact HO_5.out) hb); have n1_ := Aside0.mk (Kd.R_below (by (with_reducible repeat (first | apply Kd.R_alloc | apply Kd.R_drewN | apply Kd.R_drew)); exact HO_6.out) hb); have n2_ := Aside0.mk (below_step (by repeat (first | (with_reducible first | exact HB.out | apply below_alloc | apply pw_below_drewN | apply below_drew1) | exact HB.out)) hb); clear HO_5; clear HO_6; clear HB; have HO_5 := n0_; have HO_6 := n1_; have HB := n2_; clear n0_ n1_ n2_; (try clear hb); (try clear hb2); (try clear hk); (try clear hi)))
                        go_ret
                        exact ⟨by first | rfl | (simp [errW_none, errW_some] <;> rfl) | (simp [*, errW_none, errW_some] <;> rfl), by repeat (first | (with_reducible first | exact HB.out | apply below_alloc | apply pw_below_drewN | apply below_drew1) | exact HB.out)⟩
                      · rw [if_neg c33] at H
                        have c33b0 : ((bt a0 x7_1) == 13) = false := beq_eq_false_iff_ne.mpr c33
                        have c33b1 : ((bt a0 x7_1) != 13) = true := bne_iff_ne.mpr c33
                        have H' := Aside0.mk H
                        clear H
                        have p12 : 0 ≤ (x7_1 : Int) := of_decide_eq_true (by first | (with_reducible assumption) | assumption)
                        have q12 : x7_1 < (a0.size : Int) := of_decide_eq_true (by first | (with_reducible assumption) | assumption)
                        have hx12 := bt_at a0 x7_1
                        replace p12 := eq_true p12
                        replace q12 := eq_true q12
                        have p16 : 0 ≤ (x7_1 : Int) := of_decide_eq_true (by first | (with_reducible assumption) | assumption)
                        have q16 : x7_1 < (a0.size : Int) := of_decide_eq_true (by first | (with_reducible assumption) | assumption)
                        have hx16 := bt_at a0 x7_1
                        replace p16 := eq_true p16
                        replace q16 := eq_true q16
                        have p20 : 0 ≤ (x7_1 : Int) := of_decide_eq_true (by first | (with_reducible assumption) | assumption)
                        have q20 : x7_1 < (a0.size : Int) := of_decide_eq_true (by first | (with_reducible assumption) | assumption)
                        have hx20 := bt_at a0 x7_1
                        replace p20 := eq_true p20
                        replace q20 := eq_true q20
                        have p24 : 0 ≤ (x7_1 : Int) := of_decide_eq_true (by first | (with_reducible assumption) | assumption)
                        have q24 : x7_1 < (a0.size : Int) := of_decide_eq_true (by first | (with_reducible assumption) | assumption)
                        have hx24 := bt_at a0 x7_1
                        replace p24 := eq_true p24
                        replace q24 := eq_true q24
                        have p28 : 0 ≤ (x7_1 : Int) := of_decide_eq_true (by first | (with_reducible assumption) | assumption)
                        have q28 : x7_1 < (a0.size : Int) := of_decide_eq_true (by first | (with_reducible assumption) | assumption)
                        have hx28 := bt_at a0 x7_1
                        replace p28 := eq_true p28
                        replace q28 := eq_true q28
                        have p32 : 0 ≤ (x7_1 : Int) := of_decide_eq_true (by first | (with_reducible assumption) | assumption)
                        have q32 : x7_1 < (a0.size : Int) := of_decide_eq_true (by first | (with_reducible assumption) | assumption)
                        have hx32 := bt_at a0 x7_1
                        replace p32 := eq_true p32
                        replace q32 := eq_true q32
                        go_wp2
                        go_roundg k1
                        case measure => have := HK1.out; omega
                        case rel => exact ⟨(wrap64 (x7_1 + 1)), (by first | rfl | (simp; done) | (simp [*]; done)), H', ⟨by have := HK1.out; omega⟩, ⟨by (with_reducible repeat (first | apply Kd.R_alloc | apply Kd.R_drewN | apply Kd.R_drew)); exact HO_5.out⟩, ⟨by (with_reducible repeat (first | apply Kd.R_alloc | apply Kd.R_drewN | apply Kd.R_drew)); exact HO_6.out⟩, ⟨by repeat (first | (with_reducible first | exact HB.out | apply below_alloc | apply pw_below_drewN | apply below_drew1) | exact HB.out)⟩⟩
          · rw [if_neg c11] at H
            exact absurd H (by simp)
        · rw [if_neg c10] at H
          have c10b0 : decide (x7_1 < (a0.size : Int)) = false := decide_eq_false c10
          clear c10
          have HC36 := Aside0.mk H
          clear H
          go_upto_region 9 with (fail)
          go_cut [85] (fun v85 wc => ∃ (kq : Nat) (x85_35 : Bool), v85 = .bool x85_35 ∧ Aside0 (gouachelaw02_TokenJoins.j1 kq a0 a1 t102 t105 x85_35 = some r) ∧ Aside0 (kq ≤ k1) ∧ Aside0 (Kd.R k26 26 wc w.heap.size (fun k_ => some k_ ≠ (v106 : Value).ownBlock) v103 t102) ∧ Aside0 (Kd.R k26 26 wc w.heap.size (fun k_ => some k_ ≠ (v103 : Value).ownBlock) v106 t105) ∧ Aside0 (Below w.heap.size w wc))
          case first =>
            have H := HC36.out
            clear HC36
            by_cases c37 : (t102.length : Int) > 0
            · rw [if_pos c37] at H
              have c37b0 : decide (0 < (t102.length : Int)) = true := decide_eq_true c37
              have c37b1 : decide (0 < t102.length) = true := decide_eq_true (by omega)
              clear c37
              (first | rw [c37b0] | (simp only [i64_w, i32_w]; rw [c37b0]) | skip)
              obtain ⟨ji38, hji38⟩ : ∃ j_ : Int, (wrap64 ((t102.length : Int) - 1)) = j_ := ⟨_, rfl⟩
              replace H : (if 0 ≤ (ji38) then (if (ji38) < (t102.length : Int) then (if ((rd_T26 t102 (ji38)).f0) = 13 then (gouachelaw02_TokenJoins.j1 k1 a0 a1 t102 t105 true) else (if (t105.length : Int) > 0 then (if 0 < (t105.length : Int) then (gouachelaw02_TokenJoins.j1 k1 a0 a1 t102 t105 (((rd_T26 t105 0).f0) == 13)) else (none)) else (gouachelaw02_TokenJoins.j1 k1 a0 a1 t102 t105 false))) else (none)) else (none)) = some r := by first | (rw [hji38] at H; exact H) | (simp only [hji38] at H ⊢; exact H)
              have hji38w : (IntKind.i64.wrap ((t102.length : Int) - 1)) = ji38 := (i64_w _).trans hji38
              by_cases c39 : 0 ≤ (ji38)
              · rw [if_pos c39] at H
                have c39b0 : decide (0 ≤ (ji38)) = true := decide_eq_true c39
                clear c39
                by_cases c40 : (ji38) < (t102.length : Int)
                · rw [if_pos c40] at H
                  have c40b0 : decide ((ji38) < (t102.length : Int)) = true := decide_eq_true c40
                  clear c40
                  by_cases c41 : ((rd_T26 t102 (ji38)).f0) = 13
                  · rw [if_pos c41] at H
                    have c41b0 : (((rd_T26 t102 (ji38)).f0) == 13) = true := beq_iff_eq.mpr c41
                    have c41b1 : (((rd_T26 t102 (ji38)).f0) != 13) = false := bne_eq_false_iff_eq.mpr c41
                    clear c41
                    have H' := Aside0.mk H
                    clear H
                    obtain ⟨Ao42, co42, eo42⟩ := Kd.R_slice HO_5.out
                    subst eo42
                    have p114 : 0 ≤ ((ji38) : Int) := of_decide_eq_true (by first | (with_reducible assumption) | assumption)
                    have q114 : (ji38) < (t102.length : Int) := of_decide_eq_true (by first | (with_reducible assumption) | assumption)
                    obtain ⟨ad114, e114, hx114_0, hx114_1, hx114_2, hx114_3, hx114_4⟩ := at_T26 (Kd.R_reads' HO_5.out).2.2 (ji38) p114 q114
                    cases e114
                    replace p114 := eq_true p114
                    replace q114 := eq_true q114
                    go_wp2
                    go_meet
                    case rel => exact ⟨_, (true), (by first | rfl | (simp; done) | (simp [*]; done)), H', ⟨by have := HK1.out; first | omega | exact Nat.le_refl _⟩, ⟨by (with_reducible repeat (first | apply Kd.R_alloc | apply Kd.R_drewN | apply Kd.R_drew)); exact HO_5.out⟩, ⟨by (with_reducible repeat (first | apply Kd.R_alloc | apply Kd.R_drewN | apply Kd.R_drew)); exact HO_6.out⟩, ⟨by repeat (first | (with_reducible first | exact HB.out | apply below_alloc | apply pw_below_drewN | apply below_drew1) | exact HB.out)⟩⟩
                  · rw [if_neg c41] at H
                    have c41b0 : (((rd_T26 t102 (ji38)).f0) == 13) = false := beq_eq_false_iff_ne.mpr c41
                    have c41b1 : (((rd_T26 t102 (ji38)).f0) != 13) = true := bne_iff_ne.mpr c41
                    by_cases c43 : (t105.length : Int) > 0
                    · rw [if_pos c43] at H
                      have c43b0 : decide (0 < (t105.length : Int)) = true := decide_eq_true c43
                      have c43b1 : decide (0 < t105.length) = true := decide_eq_true (by omega)
                      clear c43
                      by_cases c44 : 0 < (t105.length : Int)
                      · rw [if_pos c44] at H
                        have c44b0 : decide (0 < (t105.length : Int)) = true := decide_eq_true c44
                        have c44b1 : decide (0 < t105.length) = true := decide_eq_true (by omega)
                        clear c44
                        have H' := Aside0.mk H
                        clear H
                        obtain ⟨Ao45, co45, eo45⟩ := Kd.R_slice HO_5.out
                        subst eo45
                        have p114 : 0 ≤ ((ji38) : Int) := of_decide_eq_true (by first | (with_reducible assumption) | assumption)
                        have q114 : (ji38) < (t102.length : Int) := of_decide_eq_true (by first | (with_reducible assumption) | assumption)
                        obtain ⟨ad114, e114, hx114_0, hx114_1, hx114_2, hx114_3, hx114_4⟩ := at_T26 (Kd.R_reads' HO_5.out).2.2 (ji38) p114 q114
                        cases e114
                        replace p114 := eq_true p114
                        replace q114 := eq_true q114
                        obtain ⟨Ao46, co46, eo46⟩ := Kd.R_slice HO_6.out
                        subst eo46
                        have p115 : 0 ≤ (0 : Int) := (by omega)
                        have q115 : 0 < (t105.length : Int) := of_decide_eq_true (by first | (with_reducible assumption) | assumption)
                        obtain ⟨ad115, e115, hx115_0, hx115_1, hx115_2, hx115_3, hx115_4⟩ := at_T26 (Kd.R_reads' HO_6.out).2.2 0 p115 q115
                        cases e115
                        have qi115 : (0 < t105.length) = True := eq_true (by omega)
                        (try rw [show ((0 : Int)).toNat = 0 from rfl] at hx115_0)
                        (try rw [show 0 * 5 = 0 from rfl] at hx115_0)
                        (try rw [Addr.add_zero'] at hx115_0)
                        (try rw [show ((0 : Int)).toNat = 0 from rfl] at hx115_1)
                        (try rw [show 0 * 5 = 0 from rfl] at hx115_1)
                        (try rw [Addr.add_zero'] at hx115_1)
                        (try rw [show ((0 : Int)).toNat = 0 from rfl] at hx115_2)
                        (try rw [show 0 * 5 = 0 from rfl] at hx115_2)
                        (try rw [Addr.add_zero'] at hx115_2)
                        (try rw [show ((0 : Int)).toNat = 0 from rfl] at hx115_3)
                        (try rw [show 0 * 5 = 0 from rfl] at hx115_3)
                        (try rw [Addr.add_zero'] at hx115_3)
                        (try rw [show ((0 : Int)).toNat = 0 from rfl] at hx115_4)
                        (try rw [show 0 * 5 = 0 from rfl] at hx115_4)
                        (try rw [Addr.add_zero'] at hx115_4)
                        replace p115 := eq_true p115
                        replace q115 := eq_true q115
                        go_wp2
                        go_meet
                        case rel => exact ⟨_, ((((rd_T26 t105 0).f0) == 13)), (by first | rfl | (simp; done) | (simp [*]; done)), H', ⟨by have := HK1.out; first | omega | exact Nat.le_refl _⟩, ⟨by (with_reducible repeat (first | apply Kd.R_alloc | apply Kd.R_drewN | apply Kd.R_drew)); exact HO_5.out⟩, ⟨by (with_reducible repeat (first | apply Kd.R_alloc | apply Kd.R_drewN | apply Kd.R_drew)); exact HO_6.out⟩, ⟨by repeat (first | (with_reducible first | exact HB.out | apply below_alloc | apply pw_below_drewN | apply below_drew1) | exact HB.out)⟩⟩
                      · rw [if_neg c44] at H
                        exact absurd H (by simp)
                    · rw [if_neg c43] at H
                      have c43b0 : decide (0 < (t105.length : Int)) = false := decide_eq_false c43
                      have c43b1 : decide (0 < t105.length) = false := decide_eq_false (by omega)
                      clear c43
                      have H' := Aside0.mk H
                      clear H
                      obtain ⟨Ao47, co47, eo47⟩ := Kd.R_slice HO_5.out
                      subst eo47
                      have p114 : 0 ≤ ((ji38) : Int) := of_decide_eq_true (by first | (with_reducible assumption) | assumption)
                      have q114 : (ji38) < (t102.length : Int) := of_decide_eq_true (by first | (with_reducible assumption) | assumption)
                      obtain ⟨ad114, e114, hx114_0, hx114_1, hx114_2, hx114_3, hx114_4⟩ := at_T26 (Kd.R_reads' HO_5.out).2.2 (ji38) p114 q114
                      cases e114
                      replace p114 := eq_true p114
                      replace q114 := eq_true q114
                      obtain ⟨Ao48, co48, eo48⟩ := Kd.R_slice HO_6.out
                      subst eo48
                      go_wp2
                      go_meet
                      case rel => exact ⟨_, (false), (by first | rfl | (simp; done) | (simp [*]; done)), H', ⟨by have := HK1.out; first | omega | exact Nat.le_refl _⟩, ⟨by (with_reducible repeat (first | apply Kd.R_alloc | apply Kd.R_drewN | apply Kd.R_drew)); exact HO_5.out⟩, ⟨by (with_reducible repeat (first | apply Kd.R_alloc | apply Kd.R_drewN | apply Kd.R_drew)); exact HO_6.out⟩, ⟨by repeat (first | (with_reducible first | exact HB.out | apply below_alloc | apply pw_below_drewN | apply below_drew1) | exact HB.out)⟩⟩
                · rw [if_neg c40] at H
                  exact absurd H (by simp)
              · rw [if_neg c39] at H
                exact absurd H (by simp)
            · rw [if_neg c37] at H
              have c37b0 : decide (0 < (t102.length : Int)) = false := decide_eq_false c37
              have c37b1 : decide (0 < t102.length) = false := decide_eq_false (by omega)
              clear c37
              (first | rw [c37b0] | (simp only [i64_w, i32_w]; rw [c37b0]) | skip)
              by_cases c49 : (t105.length : Int) > 0
              · rw [if_pos c49] at H
                have c49b0 : decide (0 < (t105.length : Int)) = true := decide_eq_true c49
                have c49b1 : decide (0 < t105.length) = true := decide_eq_true (by omega)
                clear c49
                by_cases c50 : 0 < (t105.length : Int)
                · rw [if_pos c50] at H
                  have c50b0 : decide (0 < (t105.length : Int)) = true := decide_eq_true c50
                  have c50b1 : decide (0 < t105.length) = true := decide_eq_true (by omega)
                  clear c50
                  have H' := Aside0.mk H
                  clear H
                  obtain ⟨Ao51, co51, eo51⟩ := Kd.R_slice HO_5.out
                  subst eo51
                  obtain ⟨Ao52, co52, eo52⟩ := Kd.R_slice HO_6.out
                  subst eo52
                  have p116 : 0 ≤ (0 : Int) := (by omega)
                  have q116 : 0 < (t105.length : Int) := of_decide_eq_true (by first | (with_reducible assumption) | assumption)
                  obtain ⟨ad116, e116, hx116_0, hx116_1, hx116_2, hx116_3, hx116_4⟩ := at_T26 (Kd.R_reads' HO_6.out).2.2 0 p116 q116
                  cases e116
                  have qi116 : (0 < t105.length) = True := eq_true (by omega)
                  (try rw [show ((0 : Int)).toNat = 0 from rfl] at hx116_0)
                  (try rw [show 0 * 5 = 0 from rfl] at hx116_0)
                  (try rw [Addr.add_zero'] at hx116_0)
                  (try rw [show ((0 : Int)).toNat = 0 from rfl] at hx116_1)
                  (try rw [show 0 * 5 = 0 from rfl] at hx116_1)
                  (try rw [Addr.add_zero'] at hx116_1)
                  (try rw [show ((0 : Int)).toNat = 0 from rfl] at hx116_2)
                  (try rw [show 0 * 5 = 0 from rfl] at hx116_2)
                  (try rw [Addr.add_zero'] at hx116_2)
                  (try rw [show ((0 : Int)).toNat = 0 from rfl] at hx116_3)
                  (try rw [show 0 * 5 = 0 from rfl] at hx116_3)
                  (try rw [Addr.add_zero'] at hx116_3)
                  (try rw [show ((0 : Int)).toNat = 0 from rfl] at hx116_4)
                  (try rw [show 0 * 5 = 0 from rfl] at hx116_4)
                  (try rw [Addr.add_zero'] at hx116_4)
                  replace p116 := eq_true p116
                  replace q116 := eq_true q116
                  go_wp2
                  go_meet
                  case rel => exact ⟨_, ((((rd_T26 t105 0).f0) == 13)), (by first | rfl | (simp; done) | (simp [*]; done)), H', ⟨by have := HK1.out; first | omega | exact Nat.le_refl _⟩, ⟨by (with_reducible repeat (first | apply Kd.R_alloc | apply Kd.R_drewN | apply Kd.R_drew)); exact HO_5.out⟩, ⟨by (with_reducible repeat (first | apply Kd.R_alloc | apply Kd.R_drewN | apply Kd.R_drew)); exact HO_6.out⟩, ⟨by repeat (first | (with_reducible first | exact HB.out | apply below_alloc | apply pw_below_drewN | apply below_drew1) | exact HB.out)⟩⟩
                · rw [if_neg c50] at H
                  exact absurd H (by simp)
              · rw [if_neg c49] at H
                have c49b0 : decide (0 < (t105.length : Int)) = false := decide_eq_false c49
                have c49b1 : decide (0 < t105.length) = false := decide_eq_false (by omega)
                clear c49
                have H' := Aside0.mk H
                clear H
                obtain ⟨Ao53, co53, eo53⟩ := Kd.R_slice HO_5.out
                subst eo53
                obtain ⟨Ao54, co54, eo54⟩ := Kd.R_slice HO_6.out
                subst eo54
                go_wp2
                go_meet
                case rel => exact ⟨_, (false), (by first | rfl | (simp; done) | (simp [*]; done)), H', ⟨by have := HK1.out; first | omega | exact Nat.le_refl _⟩, ⟨by (with_reducible repeat (first | apply Kd.R_alloc | apply Kd.R_drewN | apply Kd.R_drew)); exact HO_5.out⟩, ⟨by (with_reducible repeat (first | apply Kd.R_alloc | apply Kd.R_drewN | apply Kd.R_drew)); exact HO_6.out⟩, ⟨by repeat (first | (with_reducible first | exact HB.out | apply below_alloc | apply pw_below_drewN | apply below_drew1) | exact HB.out)⟩⟩
          case rest =>
            clear HC36
            try clear c1
            try clear p1
            try clear q1
            try clear hx1
            try clear qi1
            try clear c2
            try clear p2
            try clear q2
            try clear hx2
            try clear c3
            try clear c3b0
            try clear p3
            try clear q3
            try clear hx3
            try clear c4
            try clear c5
            try clear p6
            try clear c9
            try clear c10
            try clear c10b0
            try clear c11
            try clear c11b0
            try clear p11
            try clear q11
            try clear hx11
            try clear qi11
            try clear p12
            try clear q12
            try clear hx12
            try clear c13
            try clear c13b0
            try clear c13b1
            try clear p16
            try clear q16
            try clear hx16
            try clear c17
            try clear c17b0
            try clear c17b1
            try clear p20
            try clear q20
            try clear hx20
            try clear c21
            try clear c21b0
            try clear c21b1
            try clear p24
            try clear q24
            try clear hx24
            try clear c25
            try clear c25b0
            try clear c25b1
            try clear p28
            try clear q28
            try clear hx28
            try clear c29
            try clear c29b0
            try clear c29b1
            try clear p32
            try clear q32
            try clear hx32
            try clear c33
            try clear c33b0
            try clear c33b1
            try clear c37
            try clear c37b0
            try clear c37b1
            try clear c39
            try clear c39b0
            try clear c40
            try clear c40b0
            try clear c41
            try clear c41b0
            try clear c41b1
            try clear c43
            try clear c43b0
            try clear c43b1
            try clear c44
            try clear c44b0
            try clear c44b1
            try clear c49
            try clear c49b0
            try clear c49b1
            try clear c50
            try clear c50b0
            try clear c50b1
            try clear hx114_0
            try clear hx114_1
            try clear hx114_2
            try clear hx114_3
            try clear hx114_4
            try clear hx115_0
            try clear hx115_1
            try clear hx115_2
            try clear hx115_3
            try clear hx115_4
            try clear hx116_0
            try clear hx116_1
            try clear hx116_2
            try clear hx116_3
            try clear hx116_4
            try clear p114
            try clear p115
            try clear p116
            try clear p12
            try clear p16
            try clear p2
            try clear p20
            try clear p24
            try clear p28
            try clear p32
            try clear p6
            try clear q114
            try clear q115
            try clear q116
            try clear q12
            try clear q16
            try clear q20
            try clear q24
            try clear q28
            try clear q32
            obtain ⟨kq, x85_35, rfl, HA, HJ35, HO_5, HO_6, HB⟩ := hcut
            cases kq with
            | zero => exact absurd HA.out (by simp [gouachelaw02_TokenJoins.j1])
            | succ kj35 =>
              have H := HA.out
              clear HA
              simp only [gouachelaw02_TokenJoins.j1] at H
              by_cases c55 : x85_35 = true
              · subst c55
                have H1 : ((gouachelaw02_lives.f).bind fun t117 => (some t117)) = some r := by rw [if_pos rfl] at H; exact H
                clear H
                have H := H1
                clear H1
                replace H := Option.bind_eq_some_iff.mp H
                obtain ⟨t117, A560, H⟩ := H
                replace H : (some t117) = some r := H
                have A56 := Aside0.mk A560
                clear A560
                obtain rfl := Option.some.inj H
                go_wp2_with (first | ((with_reducible refine gate_callee (f := 9) rfl ?_); refine goesL_ (some 86) rfl rfl Tryd.func9 (by kernel_rfl) rfl #[] rfl (by (try simp only [List.map_toArray, List.map_cons, List.map_nil]); first | done | rfl | (simp only [List.length_drop, List.length_take]; rfl)) ?_; (with_reducible refine (gouachelaw02_lives.calls  t117 _ A56.out (HT.out.below (by repeat (first | (with_reducible first | exact HB.out | apply below_alloc | apply pw_below_drewN | apply below_drew1) | exact HB.out)))).mono ?_); rintro e w57 ⟨rfl, hb⟩; refine ⟨_, rfl, ?_⟩; have n0_ := Aside0.mk (Kd.R_below (by (with_reducible repeat (first | apply Kd.R_alloc | apply Kd.R_drewN | apply Kd.R_drew)); exact HO_5.out) hb); have n1_ := Aside0.mk (Kd.R_below (by (with_reducible repeat (first | apply Kd.R_alloc | apply Kd.R_drewN | apply Kd.R_drew)); exact HO_6.out) hb); have n2_ := Aside0.mk (below_step (by repeat (first | (with_reducible first | exact HB.out | apply below_alloc | apply pw_below_drewN | apply below_drew1) | exact HB.out)) hb); clear HO_5; clear HO_6; clear HB; have HO_5 := n0_; have HO_6 := n1_; have HB := n2_; clear n0_ n1_ n2_; (try clear hb); (try clear hb2); (try clear hk); (try clear hi)))
                go_ret
                exact ⟨by first | rfl | (simp [errW_none, errW_some] <;> rfl) | (simp [*, errW_none, errW_some] <;> rfl), by repeat (first | (with_reducible first | exact HB.out | apply below_alloc | apply pw_below_drewN | apply below_drew1) | exact HB.out)⟩
              · replace c55 := Bool.eq_false_iff.mpr c55
                subst c55
                have H1 : (if a0.size + 1 ≤ 9223372036854775807 then (if (a0 ++ (⟨#[10]⟩ : ByteArray)).size + a1.size ≤ 9223372036854775807 then ((gouachelaw02_cut.f ((a0 ++ (⟨#[10]⟩ : ByteArray)) ++ a1)).bind fun t118 => (if (t118.length : Int) = (wrap64 ((wrap64 ((t102.length : Int) + 1)) + (t105.length : Int))) then (if 0 ≤ (t102.length : Int) then (if (t102.length : Int) < (t118.length : Int) then (gouachelaw02_TokenJoins.j2 kj35 t102 t105 t118 (((rd_T26 t118 (t102.length : Int)).f0) != 13)) else (none)) else (none)) else (gouachelaw02_TokenJoins.j2 kj35 t102 t105 t118 true))) else (none)) else (none)) = some r := by rw [if_neg (show ¬ (false = true) by decide)] at H; exact H
                clear H
                have H := H1
                clear H1
                by_cases c58 : a0.size + 1 ≤ 9223372036854775807
                · rw [if_pos c58] at H
                  have c58b0 := eq_true c58
                  have c58b1 : decide (a0.size + 1 ≤ 9223372036854775807) = true := decide_eq_true c58
                  try have c58b2 : (9223372036854775807 < a0.size + 1) = False := eq_false (Nat.not_lt.2 c58)
                  by_cases c59 : (a0 ++ (⟨#[10]⟩ : ByteArray)).size + a1.size ≤ 9223372036854775807
                  · rw [if_pos c59] at H
                    have c59b0 := eq_true c59
                    have c59b1 : decide ((a0 ++ (⟨#[10]⟩ : ByteArray)).size + a1.size ≤ 9223372036854775807) = true := decide_eq_true c59
                    try have c59b2 : (9223372036854775807 < (a0 ++ (⟨#[10]⟩ : ByteArray)).size + a1.size) = False := eq_false (Nat.not_lt.2 c59)
                    replace H := Option.bind_eq_some_iff.mp H
                    obtain ⟨t118, A600, H⟩ := H
                    replace H : (if (t118.length : Int) = (wrap64 ((wrap64 ((t102.length : Int) + 1)) + (t105.length : Int))) then (if 0 ≤ (t102.length : Int) then (if (t102.length : Int) < (t118.length : Int) then (gouachelaw02_TokenJoins.j2 kj35 t102 t105 t118 (((rd_T26 t118 (t102.length : Int)).f0) != 13)) else (none)) else (none)) else (gouachelaw02_TokenJoins.j2 kj35 t102 t105 t118 true)) = some r := H
                    have A60 := Aside0.mk A600
                    clear A600
                    have HC61 := Aside0.mk H
                    clear H
                    go_upto_region 12 with (first | ((with_reducible refine gate_callee (f := 10) rfl ?_); refine goesL_ (some 91) rfl rfl Tryd.func10 (by kernel_rfl) rfl #[.string ((a0 ++ (⟨#[10]⟩ : ByteArray)) ++ a1)] rfl (by (try simp only [List.map_toArray, List.map_cons, List.map_nil]); first | done | rfl | (simp only [List.length_drop, List.length_take]; rfl)) ?_; (with_reducible refine (gouachelaw02_cut.calls ((a0 ++ (⟨#[10]⟩ : ByteArray)) ++ a1) t118 _ A60.out).mono ?_); rintro e w62 ⟨v119, rfl, ho0, hb⟩; refine ⟨_, rfl, ?_⟩; have n0_ := Aside0.mk (Kd.R_elder' (by (with_reducible repeat (first | apply Kd.R_alloc | apply Kd.R_drewN | apply Kd.R_drew)); exact HO_5.out) (Kd.R_base ho0) hb); have n1_ := Aside0.mk (Kd.R_elder' (by (with_reducible repeat (first | apply Kd.R_alloc | apply Kd.R_drewN | apply Kd.R_drew)); exact HO_6.out) (Kd.R_base ho0) hb); have n2_ := Aside0.mk (Kd.R_lower (Kd.R_new' (Kd.R_new' ho0 (Kd.R_lt (by (with_reducible repeat (first | apply Kd.R_alloc | apply Kd.R_drewN | apply Kd.R_drew)); exact HO_5.out))) (Kd.R_lt (by (with_reducible repeat (first | apply Kd.R_alloc | apply Kd.R_drewN | apply Kd.R_drew)); exact HO_6.out))) (below_size (by repeat (first | (with_reducible first | exact HB.out | apply below_alloc | apply pw_below_drewN | apply below_drew1) | exact HB.out)))); have n3_ := Aside0.mk (below_step (by repeat (first | (with_reducible first | exact HB.out | apply below_alloc | apply pw_below_drewN | apply below_drew1) | exact HB.out)) hb); clear HO_5; clear HO_6; clear HB; have HO_5 := n0_; have HO_6 := n1_; have HO120 := n2_; have HB := n3_; clear n0_ n1_ n2_ n3_; (try clear hb); (try clear hb2); (try clear hk); (try clear hi); (try clear ho0)))
                    (try simp only [Act.put, List.setIfInBounds_toArray, List.set_cons_zero, List.set_cons_succ])
                    go_cut [109] (fun v109 wc => ∃ (kq : Nat) (x109_60 : Bool), v109 = .bool x109_60 ∧ Aside0 (gouachelaw02_TokenJoins.j2 kq t102 t105 t118 x109_60 = some r) ∧ Aside0 (kq ≤ kj35) ∧ Aside0 (Kd.R k26 26 wc w.heap.size (fun k_ => some k_ ≠ (v106 : Value).ownBlock ∧ some k_ ≠ (v119 : Value).ownBlock) v103 t102) ∧ Aside0 (Kd.R k26 26 wc w.heap.size (fun k_ => some k_ ≠ (v103 : Value).ownBlock ∧ some k_ ≠ (v119 : Value).ownBlock) v106 t105) ∧ Aside0 (Kd.R k26 26 wc w.heap.size (fun k_ => some k_ ≠ (v103 : Value).ownBlock ∧ some k_ ≠ (v106 : Value).ownBlock) v119 t118) ∧ Aside0 (Below w.heap.size w wc))
                    case first =>
                      have H := HC61.out
                      clear HC61
                      by_cases c63 : (t118.length : Int) = (wrap64 ((wrap64 ((t102.length : Int) + 1)) + (t105.length : Int)))
                      · rw [if_pos c63] at H
                        have c63b0 : ((t118.length : Int) == (wrap64 ((wrap64 ((t102.length : Int) + 1)) + (t105.length : Int)))) = true := beq_iff_eq.mpr c63
                        have c63b1 : ((t118.length : Int) != (wrap64 ((wrap64 ((t102.length : Int) + 1)) + (t105.length : Int)))) = false := bne_eq_false_iff_eq.mpr c63
                        clear c63
                        (first | rw [c63b0] | (simp only [i64_w, i32_w]; rw [c63b0]) | skip)
                        by_cases c64 : 0 ≤ (t102.length : Int)
                        · rw [if_pos c64] at H
                          have c64b0 : decide (0 ≤ (t102.length : Int)) = true := decide_eq_true c64
                          have c64b1 : decide (0 ≤ t102.length) = true := decide_eq_true (by omega)
                          clear c64
                          by_cases c65 : (t102.length : Int) < (t118.length : Int)
                          · rw [if_pos c65] at H
                            have c65b0 : decide ((t102.length : Int) < (t118.length : Int)) = true := decide_eq_true c65
                            have c65b1 : decide (t102.length < t118.length) = true := decide_eq_true (Int.ofNat_lt.mp c65)
                            clear c65
                            have H' := Aside0.mk H
                            clear H
                            obtain ⟨Ao66, co66, eo66⟩ := Kd.R_slice HO120.out
                            subst eo66
                            obtain ⟨Ao67, co67, eo67⟩ := Kd.R_slice HO_5.out
                            subst eo67
                            obtain ⟨Ao68, co68, eo68⟩ := Kd.R_slice HO_6.out
                            subst eo68
                            have p121 : 0 ≤ ((t102.length : Int) : Int) := of_decide_eq_true (by first | (with_reducible assumption) | assumption)
                            have q121 : (t102.length : Int) < (t118.length : Int) := of_decide_eq_true (by first | (with_reducible assumption) | assumption)
                            obtain ⟨ad121, e121, hx121_0, hx121_1, hx121_2, hx121_3, hx121_4⟩ := at_T26 (Kd.R_reads' HO120.out).2.2 (t102.length : Int) p121 q121
                            cases e121
                            (try simp only [Go.IntWalk.toNatUp] at hx121_0)
                            (try simp only [Go.IntWalk.toNatUp] at hx121_1)
                            (try simp only [Go.IntWalk.toNatUp] at hx121_2)
                            (try simp only [Go.IntWalk.toNatUp] at hx121_3)
                            (try simp only [Go.IntWalk.toNatUp] at hx121_4)
                            replace p121 := eq_true p121
                            replace q121 := eq_true q121
                            go_wp2
                            go_meet
                            case rel => exact ⟨_, ((((rd_T26 t118 (t102.length : Int)).f0) != 13)), (by first | rfl | (simp; done) | (simp [*]; done)), H', ⟨by have := HK1.out; have := HJ35.out; first | omega | exact Nat.le_refl _⟩, ⟨by (with_reducible repeat (first | apply Kd.R_alloc | apply Kd.R_drewN | apply Kd.R_drew)); exact HO_5.out⟩, ⟨by (with_reducible repeat (first | apply Kd.R_alloc | apply Kd.R_drewN | apply Kd.R_drew)); exact HO_6.out⟩, ⟨by (with_reducible repeat (first | apply Kd.R_alloc | apply Kd.R_drewN | apply Kd.R_drew)); exact Kd.R_mono HO120.out (fun _ hk => ⟨hk.1.2, hk.2⟩)⟩, ⟨by repeat (first | (with_reducible first | exact HB.out | apply below_alloc | apply pw_below_drewN | apply below_drew1) | exact HB.out)⟩⟩
                          · rw [if_neg c65] at H
                            exact absurd H (by simp)
                        · rw [if_neg c64] at H
                          exact absurd H (by simp)
                      · rw [if_neg c63] at H
                        have c63b0 : ((t118.length : Int) == (wrap64 ((wrap64 ((t102.length : Int) + 1)) + (t105.length : Int)))) = false := beq_eq_false_iff_ne.mpr c63
                        have c63b1 : ((t118.length : Int) != (wrap64 ((wrap64 ((t102.length : Int) + 1)) + (t105.length : Int)))) = true := bne_iff_ne.mpr c63
                        (first | rw [c63b0] | (simp only [i64_w, i32_w]; rw [c63b0]) | skip)
                        have H' := Aside0.mk H
                        clear H
                        obtain ⟨Ao69, co69, eo69⟩ := Kd.R_slice HO120.out
                        subst eo69
                        obtain ⟨Ao70, co70, eo70⟩ := Kd.R_slice HO_5.out
                        subst eo70
                        obtain ⟨Ao71, co71, eo71⟩ := Kd.R_slice HO_6.out
                        subst eo71
                        go_wp2
                        go_meet
                        case rel => exact ⟨_, (true), (by first | rfl | (simp; done) | (simp [*]; done)), H', ⟨by have := HK1.out; have := HJ35.out; first | omega | exact Nat.le_refl _⟩, ⟨by (with_reducible repeat (first | apply Kd.R_alloc | apply Kd.R_drewN | apply Kd.R_drew)); exact HO_5.out⟩, ⟨by (with_reducible repeat (first | apply Kd.R_alloc | apply Kd.R_drewN | apply Kd.R_drew)); exact HO_6.out⟩, ⟨by (with_reducible repeat (first | apply Kd.R_alloc | apply Kd.R_drewN | apply Kd.R_drew)); exact Kd.R_mono HO120.out (fun _ hk => ⟨hk.1.2, hk.2⟩)⟩, ⟨by repeat (first | (with_reducible first | exact HB.out | apply below_alloc | apply pw_below_drewN | apply below_drew1) | exact HB.out)⟩⟩
                    case rest =>
                      clear HC61
                      try clear c1
                      try clear p1
                      try clear q1
                      try clear hx1
                      try clear qi1
                      try clear c2
                      try clear p2
                      try clear q2
                      try clear hx2
                      try clear c3
                      try clear c3b0
                      try clear p3
                      try clear q3
                      try clear hx3
                      try clear c4
                      try clear c5
                      try clear c6
                      try clear p6
                      try clear c9
                      try clear c10
                      try clear c10b0
                      try clear c11
                      try clear c11b0
                      try clear p11
                      try clear q11
                      try clear hx11
                      try clear qi11
                      try clear p12
                      try clear q12
                      try clear hx12
                      try clear c13
                      try clear c13b0
                      try clear c13b1
                      try clear p16
                      try clear q16
                      try clear hx16
                      try clear c17
                      try clear c17b0
                      try clear c17b1
                      try clear p20
                      try clear q20
                      try clear hx20
                      try clear c21
                      try clear c21b0
                      try clear c21b1
                      try clear p24
                      try clear q24
                      try clear hx24
                      try clear c25
                      try clear c25b0
                      try clear c25b1
                      try clear p28
                      try clear q28
                      try clear hx28
                      try clear c29
                      try clear c29b0
                      try clear c29b1
                      try clear p32
                      try clear q32
                      try clear hx32
                      try clear c33
                      try clear c33b0
                      try clear c33b1
                      try clear c37
                      try clear c37b0
                      try clear c37b1
                      try clear c39
                      try clear c39b0
                      try clear c40
                      try clear c40b0
                      try clear c41
                      try clear c41b0
                      try clear c41b1
                      try clear c43
                      try clear c43b0
                      try clear c43b1
                      try clear c44
                      try clear c44b0
                      try clear c44b1
                      try clear c49
                      try clear c49b0
                      try clear c49b1
                      try clear c50
                      try clear c50b0
                      try clear c50b1
                      try clear c55
                      try clear c58
                      try clear c58b0
                      try clear c58b1
                      try clear c58b2
                      try clear c59
                      try clear c59b0
                      try clear c59b1
                      try clear c59b2
                      try clear c63
                      try clear c63b0
                      try clear c63b1
                      try clear c64
                      try clear c64b0
                      try clear c64b1
                      try clear p64
                      try clear c65
                      try clear c65b0
                      try clear c65b1
                      try clear hx114_0
                      try clear hx114_1
                      try clear hx114_2
                      try clear hx114_3
                      try clear hx114_4
                      try clear hx115_0
                      try clear hx115_1
                      try clear hx115_2
                      try clear hx115_3
                      try clear hx115_4
                      try clear hx116_0
                      try clear hx116_1
                      try clear hx116_2
                      try clear hx116_3
                      try clear hx116_4
                      try clear hx121_0
                      try clear hx121_1
                      try clear hx121_2
                      try clear hx121_3
                      try clear hx121_4
                      try clear p1
                      try clear p11
                      try clear p114
                      try clear p115
                      try clear p116
                      try clear p12
                      try clear p121
                      try clear p16
                      try clear p2
                      try clear p20
                      try clear p24
                      try clear p28
                      try clear p3
                      try clear p32
                      try clear p6
                      try clear q1
                      try clear q11
                      try clear q114
                      try clear q115
                      try clear q116
                      try clear q12
                      try clear q121
                      try clear q16
                      try clear q2
                      try clear q20
                      try clear q24
                      try clear q28
                      try clear q3
                      try clear q32
                      obtain ⟨kq, x109_60, rfl, HA, HJ60, HO_5, HO_6, HO_8, HB⟩ := hcut
                      cases kq with
                      | zero => exact absurd HA.out (by simp [gouachelaw02_TokenJoins.j2])
                      | succ kj60 =>
                        have H := HA.out
                        clear HA
                        simp only [gouachelaw02_TokenJoins.j2] at H
                        by_cases c72 : x109_60 = true
                        · subst c72
                          have H1 : (some false) = some r := by rw [if_pos rfl] at H; exact H
                          clear H
                          have H := H1
                          clear H1
                          obtain rfl := Option.some.inj H
                          go_wp2
                          go_ret
                          exact ⟨by first | rfl | (simp [errW_none, errW_some] <;> rfl) | (simp [*, errW_none, errW_some] <;> rfl), by repeat (first | (with_reducible first | exact HB.out | apply below_alloc | apply pw_below_drewN | apply below_drew1) | exact HB.out)⟩
                        · replace c72 := Bool.eq_false_iff.mpr c72
                          subst c72
                          have H1 : (if 0 ≤ (t102.length : Int) then (if (t102.length : Int) ≤ (t118.length : Int) then ((gouacheref02_Same.f kj60 (t118.take ((t102.length : Int) : Int).toNat) t102).bind fun t126 => (if t126 = true then (if 0 ≤ (wrap64 ((t102.length : Int) + 1)) then (if (wrap64 ((t102.length : Int) + 1)) ≤ (t118.length : Int) then ((gouacheref02_Same.f kj60 (t118.drop ((wrap64 ((t102.length : Int) + 1)) : Int).toNat) t105).bind fun t131 => (if t131 = true then ((gouachelaw02_lives.f).bind fun t132 => (some t132)) else (some false))) else (none)) else (none)) else (some false))) else (none)) else (none)) = some r := by rw [if_neg (show ¬ (false = true) by decide)] at H; exact H
                          clear H
                          have H := H1
                          clear H1
                          by_cases c73 : 0 ≤ (t102.length : Int)
                          · rw [if_pos c73] at H
                            have c73b0 := eq_true c73
                            have c73b1 : decide (0 ≤ (t102.length : Int)) = true := decide_eq_true c73
                            clear c73
                            by_cases c74 : (t102.length : Int) ≤ (t118.length : Int)
                            · rw [if_pos c74] at H
                              have c74b0 := eq_true c74
                              have c74b1 : decide ((t102.length : Int) ≤ (t118.length : Int)) = true := decide_eq_true c74
                              clear c74
                              obtain ⟨y122, hy122⟩ : ∃ y_ : List (S26), y_ = (t118.take ((t102.length : Int) : Int).toNat) := ⟨_, rfl⟩
                              replace H : ((gouacheref02_Same.f kj60 y122 t102).bind fun t126 => (if t126 = true then (if 0 ≤ (wrap64 ((t102.length : Int) + 1)) then (if (wrap64 ((t102.length : Int) + 1)) ≤ (t118.length : Int) then ((gouacheref02_Same.f kj60 (t118.drop ((wrap64 ((t102.length : Int) + 1)) : Int).toNat) t105).bind fun t131 => (if t131 = true then ((gouachelaw02_lives.f).bind fun t132 => (some t132)) else (some false))) else (none)) else (none)) else (some false))) = some r := by first | (rw [hy122]; with_reducible exact H) | (have H2_ := (Option.bind_some _ _).symm.trans H; rw [hy122]; with_reducible exact H2_) | (have H2_ := (Option.bind_some _ _).symm.trans H; with_reducible exact H2_) | with_reducible exact H | (rw [hy122]; exact H) | exact H
                              have Ny122 := Aside0.mk hy122
                              clear hy122
                              replace H := Option.bind_eq_some_iff.mp H
                              obtain ⟨t126, A750, H⟩ := H
                              replace H : (if t126 = true then (if 0 ≤ (wrap64 ((t102.length : Int) + 1)) then (if (wrap64 ((t102.length : Int) + 1)) ≤ (t118.length : Int) then ((gouacheref02_Same.f kj60 (t118.drop ((wrap64 ((t102.length : Int) + 1)) : Int).toNat) t105).bind fun t131 => (if t131 = true then ((gouachelaw02_lives.f).bind fun t132 => (some t132)) else (some false))) else (none)) else (none)) else (some false)) = some r := H
                              have A75 := Aside0.mk A750
                              clear A750
                              by_cases c76 : t126 = true
                              · subst c76
                                have H1 : (if 0 ≤ (wrap64 ((t102.length : Int) + 1)) then (if (wrap64 ((t102.length : Int) + 1)) ≤ (t118.length : Int) then ((gouacheref02_Same.f kj60 (t118.drop ((wrap64 ((t102.length : Int) + 1)) : Int).toNat) t105).bind fun t131 => (if t131 = true then ((gouachelaw02_lives.f).bind fun t132 => (some t132)) else (some false))) else (none)) else (none)) = some r := by rw [if_pos rfl] at H; exact H
                                clear H
                                have H := H1
                                clear H1
                                obtain ⟨ji77, hji77⟩ : ∃ j_ : Int, (wrap64 ((t102.length : Int) + 1)) = j_ := ⟨_, rfl⟩
                                replace H : (if 0 ≤ (ji77) then (if (ji77) ≤ (t118.length : Int) then ((gouacheref02_Same.f kj60 (t118.drop ((ji77) : Int).toNat) t105).bind fun t131 => (if t131 = true then ((gouachelaw02_lives.f).bind fun t132 => (some t132)) else (some false))) else (none)) else (none)) = some r := by first | (rw [hji77] at H; exact H) | (simp only [hji77] at H ⊢; exact H)
                                (try rw [hji77] at A75)
                                have hji77w : (IntKind.i64.wrap ((t102.length : Int) + 1)) = ji77 := (i64_w _).trans hji77
                                by_cases c78 : 0 ≤ (ji77)
                                · rw [if_pos c78] at H
                                  have c78b0 := eq_true c78
                                  have c78b1 : decide (0 ≤ (ji77)) = true := decide_eq_true c78
                                  clear c78
                                  by_cases c79 : (ji77) ≤ (t118.length : Int)
                                  · rw [if_pos c79] at H
                                    have c79b0 := eq_true c79
                                    have c79b1 : decide ((ji77) ≤ (t118.length : Int)) = true := decide_eq_true c79
                                    clear c79
                                    obtain ⟨y127, hy127⟩ : ∃ y_ : List (S26), y_ = (t118.drop ((ji77) : Int).toNat) := ⟨_, rfl⟩
                                    replace H : ((gouacheref02_Same.f kj60 y127 t105).bind fun t131 => (if t131 = true then ((gouachelaw02_lives.f).bind fun t132 => (some t132)) else (some false))) = some r := by first | (rw [hy127]; with_reducible exact H) | (have H2_ := (Option.bind_some _ _).symm.trans H; rw [hy127]; with_reducible exact H2_) | (have H2_ := (Option.bind_some _ _).symm.trans H; with_reducible exact H2_) | with_reducible exact H | (rw [hy127]; exact H) | exact H
                                    have Ny127 := Aside0.mk hy127
                                    clear hy127
                                    replace H := Option.bind_eq_some_iff.mp H
                                    obtain ⟨t131, A800, H⟩ := H
                                    replace H : (if t131 = true then ((gouachelaw02_lives.f).bind fun t132 => (some t132)) else (some false)) = some r := H
                                    have A80 := Aside0.mk A800
                                    clear A800
                                    by_cases c81 : t131 = true
                                    · subst c81
                                      have H1 : ((gouachelaw02_lives.f).bind fun t132 => (some t132)) = some r := by rw [if_pos rfl] at H; exact H
                                      clear H
                                      have H := H1
                                      clear H1
                                      replace H := Option.bind_eq_some_iff.mp H
                                      obtain ⟨t132, A820, H⟩ := H
                                      replace H : (some t132) = some r := H
                                      have A82 := Aside0.mk A820
                                      clear A820
                                      obtain rfl := Option.some.inj H
                                      obtain ⟨Ao83, co83, eo83⟩ := Kd.R_slice HO_5.out
                                      subst eo83
                                      obtain ⟨Ao85, co85, eo85⟩ := Kd.R_slice HO_8.out
                                      subst eo85
                                      have q84 : ((t102.length : Int) : Int) ≤ ((t118.length : Int) : Int) := of_decide_eq_true (by first | (with_reducible assumption) | assumption)
                                      obtain ⟨i084, hi084, _, hsz84, _⟩ := info_parts info26
                                      have hroom84 : t118.length ≤ co85 := (Kd.R_reads' HO_8.out).2.1
                                      have hC84 : Kd.C k26 _ Ao85 t118.length t118 := (Kd.R_reads' HO_8.out).2.2
                                      have hcut84 := cut_to (P := Tryd.prog) 23 26 .i64 Tryd.underlying23 hi084 Ao85 t118.length co85 (t102.length : Int) (of_decide_eq_true (by first | (with_reducible assumption) | assumption)) q84 hroom84
                                      have hr84 := Kd.C_take (m := ((t102.length : Int) : Int).toNat) hC84 (by omega)
                                      have hy84 : y122.length = ((t102.length : Int) : Int).toNat := (by rw [Ny122.out, List.length_take]; omega)
                                      rw [← Ny122.out] at hr84
                                      rw [← hy84] at hcut84
                                      have HR125 := Aside0.mk hr84
                                      have HC125 := Aside0.mk (show y122.length ≤ co85 from by omega)
                                      clear hr84 hC84 hroom84 hi084 hsz84
                                      have KY84 := Aside0.mk hy84
                                      clear hy84
                                      have KL84 := Aside0.mk (show ((t102.length : Int) : Int).toNat ≤ t118.length from by omega)
                                      replace q84 := eq_true q84
                                      go_wp2_with (first | ((with_reducible refine gate_callee (f := 11) rfl ?_); refine goesL_ (some 115) rfl rfl Tryd.func11 (by kernel_rfl) rfl #[.slice Ao85 y122.length co85, .slice Ao83 t102.length co83] rfl (by (try simp only [List.map_toArray, List.map_cons, List.map_nil]); first | done | rfl | (simp only [List.length_drop, List.length_take]; rfl)) ?_; (with_reducible refine (gouacheref02_Same.calls kj60 _ _ y122 _ _ t102 true _ ?side1 ?side2 ?side3 ?side4 A75.out).mono ?_); (case side1 => repeat (first | exact (by repeat (first | (with_reducible exact HR125.out) | (with_reducible refine Kd.C_alloc ?_ _) | (with_reducible refine Kd.C_drewN ?_ _) | (with_reducible refine Kd.C_drew ?_) | exact HR125.out)) | (with_reducible refine Kd.C_alloc ?_ _) | (with_reducible refine Kd.C_drewN ?_ _) | (with_reducible refine Kd.C_drew ?_))); (case side2 => exact HC125.out); (case side3 => repeat (first | exact (Kd.R_reads' HO_5.out).2.2 | (with_reducible refine Kd.C_alloc ?_ _) | (with_reducible refine Kd.C_drewN ?_ _) | (with_reducible refine Kd.C_drew ?_))); (case side4 => exact (Kd.R_reads' HO_5.out).2.1); rintro e w' ⟨rfl, ⟨nd, rfl⟩⟩; refine ⟨_, rfl, ?_⟩; have q86 : ((ji77) : Int) ≤ ((t118.length : Int) : Int) := of_decide_eq_true (by first | (with_reducible assumption) | assumption); obtain ⟨i086, hi086, _, hsz86, _⟩ := info_parts info26; have hroom86 : t118.length ≤ co85 := (Kd.R_reads' HO_8.out).2.1; have hC86 : Kd.C k26 _ Ao85 t118.length t118 := (Kd.R_reads' HO_8.out).2.2; have q086 : (0 : Int) ≤ ((ji77) : Int) := of_decide_eq_true (by first | (with_reducible assumption) | assumption); have hcut86 := cut_from (P := Tryd.prog) 23 26 .i64 Tryd.underlying23 hi086 5 hsz86 Ao85 t118.length co85 (ji77) q086 q86; have hr86 := Kd.C_drop (m := ((ji77) : Int).toNat) (c := co85) hC86 (by omega) hroom86; obtain ⟨A86, hA86⟩ : ∃ A1, A1 = (if co85 = ((ji77) : Int).toNat then Ao85 else (Ao85 : Option Addr).map (·.add (((ji77) : Int).toNat * 5))) := ⟨_, rfl⟩; obtain ⟨c86, hc86⟩ : ∃ c1, c1 = co85 - ((ji77) : Int).toNat := ⟨_, rfl⟩; have hy86 : y127.length = t118.length - ((ji77) : Int).toNat := (by rw [Ny127.out, List.length_drop] <;> omega); rw [show (t118).drop ((ji77) : Int).toNat = y127 from Ny127.out.symm] at hr86; replace hr86 : Kd.C k26 _ A86 y127.length y127 := (by rw [hA86]; exact hr86); rw [← hy86, ← hA86, ← hc86] at hcut86; have HR130 := Aside0.mk hr86; have HC130 := Aside0.mk (show y127.length ≤ c86 from by rw [hy86, hc86]; exact Nat.sub_le_sub_right hroom86 _); clear hr86 hC86 hroom86 hi086 hsz86 hc86; have KY86 := Aside0.mk hy86; have KA86 := Aside0.mk hA86; clear hy86 hA86; have KL86 := Aside0.mk (show ((ji77) : Int).toNat ≤ t118.length from by omega); replace q86 := eq_true q86; obtain ⟨Ao87, co87, eo87⟩ := Kd.R_slice HO_6.out; subst eo87) | (go_at_call 11; (with_reducible refine (gouacheref02_Same.calls kj60 _ _ y127 _ _ t105 true _ ?side1 ?side2 ?side3 ?side4 A80.out).mono ?_); (case side1 => repeat (first | exact (by repeat (first | (with_reducible exact HR130.out) | (with_reducible refine Kd.C_alloc ?_ _) | (with_reducible refine Kd.C_drewN ?_ _) | (with_reducible refine Kd.C_drew ?_) | exact HR130.out)) | (with_reducible refine Kd.C_alloc ?_ _) | (with_reducible refine Kd.C_drewN ?_ _) | (with_reducible refine Kd.C_drew ?_))); (case side2 => exact HC130.out); (case side3 => repeat (first | exact (Kd.R_reads' HO_6.out).2.2 | (with_reducible refine Kd.C_alloc ?_ _) | (with_reducible refine Kd.C_drewN ?_ _) | (with_reducible refine Kd.C_drew ?_))); (case side4 => exact (Kd.R_reads' HO_6.out).2.1); rintro e w' ⟨rfl, ⟨nd, rfl⟩⟩) | (go_at_call 9; (with_reducible refine (gouachelaw02_lives.calls  t132 _ A82.out (HT.out.below (by repeat (first | (with_reducible first | exact HB.out | apply below_alloc | apply pw_below_drewN | apply below_drew1) | exact HB.out)))).mono ?_); rintro e w88 ⟨rfl, hb⟩; have n0_ := Aside0.mk (Kd.R_below (by (with_reducible repeat (first | apply Kd.R_alloc | apply Kd.R_drewN | apply Kd.R_drew)); exact HO_5.out) hb); have n1_ := Aside0.mk (Kd.R_below (by (with_reducible repeat (first | apply Kd.R_alloc | apply Kd.R_drewN | apply Kd.R_drew)); exact HO_6.out) hb); have n2_ := Aside0.mk (Kd.R_below (by (with_reducible repeat (first | apply Kd.R_alloc | apply Kd.R_drewN | apply Kd.R_drew)); exact HO_8.out) hb); have n3_ := Aside0.mk (Kd.C_below (by repeat (first | (with_reducible exact HR125.out) | (with_reducible refine Kd.C_alloc ?_ _) | (with_reducible refine Kd.C_drewN ?_ _) | (with_reducible refine Kd.C_drew ?_) | exact HR125.out)) hb); have n4_ := Aside0.mk (Kd.C_below (by repeat (first | (with_reducible exact HR130.out) | (with_reducible refine Kd.C_alloc ?_ _) | (with_reducible refine Kd.C_drewN ?_ _) | (with_reducible refine Kd.C_drew ?_) | exact HR130.out)) hb); have n5_ := Aside0.mk (below_step (by repeat (first | (with_reducible first | exact HB.out | apply below_alloc | apply pw_below_drewN | apply below_drew1) | exact HB.out)) hb); clear HO_5; clear HO_6; clear HO_8; clear HR125; clear HR130; clear HB; have HO_5 := n0_; have HO_6 := n1_; have HO_8 := n2_; have HR125 := n3_; have HR130 := n4_; have HB := n5_; clear n0_ n1_ n2_ n3_ n4_ n5_; (try clear hb); (try clear hb2); (try clear hk); (try clear hi)))
                                      go_ret
                                      exact ⟨by first | rfl | (simp [errW_none, errW_some] <;> rfl) | (simp only [← hji77]; first | rfl | (simp [errW_none, errW_some] <;> rfl)) | (simp [*, errW_none, errW_some] <;> rfl), by repeat (first | (with_reducible first | exact HB.out | apply below_alloc | apply pw_below_drewN | apply below_drew1) | exact HB.out)⟩
                                    · replace c81 := Bool.eq_false_iff.mpr c81
                                      subst c81
                                      have H1 : (some false) = some r := by rw [if_neg (show ¬ (false = true) by decide)] at H; exact H
                                      clear H
                                      have H := H1
                                      clear H1
                                      obtain rfl := Option.some.inj H
                                      obtain ⟨Ao89, co89, eo89⟩ := Kd.R_slice HO_5.out
                                      subst eo89
                                      obtain ⟨Ao91, co91, eo91⟩ := Kd.R_slice HO_8.out
                                      subst eo91
                                      have q90 : ((t102.length : Int) : Int) ≤ ((t118.length : Int) : Int) := of_decide_eq_true (by first | (with_reducible assumption) | assumption)
                                      obtain ⟨i090, hi090, _, hsz90, _⟩ := info_parts info26
                                      have hroom90 : t118.length ≤ co91 := (Kd.R_reads' HO_8.out).2.1
                                      have hC90 : Kd.C k26 _ Ao91 t118.length t118 := (Kd.R_reads' HO_8.out).2.2
                                      have hcut90 := cut_to (P := Tryd.prog) 23 26 .i64 Tryd.underlying23 hi090 Ao91 t118.length co91 (t102.length : Int) (of_decide_eq_true (by first | (with_reducible assumption) | assumption)) q90 hroom90
                                      have hr90 := Kd.C_take (m := ((t102.length : Int) : Int).toNat) hC90 (by omega)
                                      have hy90 : y122.length = ((t102.length : Int) : Int).toNat := (by rw [Ny122.out, List.length_take]; omega)
                                      rw [← Ny122.out] at hr90
                                      rw [← hy90] at hcut90
                                      have HR125 := Aside0.mk hr90
                                      have HC125 := Aside0.mk (show y122.length ≤ co91 from by omega)
                                      clear hr90 hC90 hroom90 hi090 hsz90
                                      have KY90 := Aside0.mk hy90
                                      clear hy90
                                      have KL90 := Aside0.mk (show ((t102.length : Int) : Int).toNat ≤ t118.length from by omega)
                                      replace q90 := eq_true q90
                                      go_wp2_with (first | ((with_reducible refine gate_callee (f := 11) rfl ?_); refine goesL_ (some 115) rfl rfl Tryd.func11 (by kernel_rfl) rfl #[.slice Ao91 y122.length co91, .slice Ao89 t102.length co89] rfl (by (try simp only [List.map_toArray, List.map_cons, List.map_nil]); first | done | rfl | (simp only [List.length_drop, List.length_take]; rfl)) ?_; (with_reducible refine (gouacheref02_Same.calls kj60 _ _ y122 _ _ t102 true _ ?side1 ?side2 ?side3 ?side4 A75.out).mono ?_); (case side1 => repeat (first | exact (by repeat (first | (with_reducible exact HR125.out) | (with_reducible refine Kd.C_alloc ?_ _) | (with_reducible refine Kd.C_drewN ?_ _) | (with_reducible refine Kd.C_drew ?_) | exact HR125.out)) | (with_reducible refine Kd.C_alloc ?_ _) | (with_reducible refine Kd.C_drewN ?_ _) | (with_reducible refine Kd.C_drew ?_))); (case side2 => exact HC125.out); (case side3 => repeat (first | exact (Kd.R_reads' HO_5.out).2.2 | (with_reducible refine Kd.C_alloc ?_ _) | (with_reducible refine Kd.C_drewN ?_ _) | (with_reducible refine Kd.C_drew ?_))); (case side4 => exact (Kd.R_reads' HO_5.out).2.1); rintro e w' ⟨rfl, ⟨nd, rfl⟩⟩; refine ⟨_, rfl, ?_⟩; have q92 : ((ji77) : Int) ≤ ((t118.length : Int) : Int) := of_decide_eq_true (by first | (with_reducible assumption) | assumption); obtain ⟨i092, hi092, _, hsz92, _⟩ := info_parts info26; have hroom92 : t118.length ≤ co91 := (Kd.R_reads' HO_8.out).2.1; have hC92 : Kd.C k26 _ Ao91 t118.length t118 := (Kd.R_reads' HO_8.out).2.2; have q092 : (0 : Int) ≤ ((ji77) : Int) := of_decide_eq_true (by first | (with_reducible assumption) | assumption); have hcut92 := cut_from (P := Tryd.prog) 23 26 .i64 Tryd.underlying23 hi092 5 hsz92 Ao91 t118.length co91 (ji77) q092 q92; have hr92 := Kd.C_drop (m := ((ji77) : Int).toNat) (c := co91) hC92 (by omega) hroom92; obtain ⟨A92, hA92⟩ : ∃ A1, A1 = (if co91 = ((ji77) : Int).toNat then Ao91 else (Ao91 : Option Addr).map (·.add (((ji77) : Int).toNat * 5))) := ⟨_, rfl⟩; obtain ⟨c92, hc92⟩ : ∃ c1, c1 = co91 - ((ji77) : Int).toNat := ⟨_, rfl⟩; have hy92 : y127.length = t118.length - ((ji77) : Int).toNat := (by rw [Ny127.out, List.length_drop] <;> omega); rw [show (t118).drop ((ji77) : Int).toNat = y127 from Ny127.out.symm] at hr92; replace hr92 : Kd.C k26 _ A92 y127.length y127 := (by rw [hA92]; exact hr92); rw [← hy92, ← hA92, ← hc92] at hcut92; have HR130 := Aside0.mk hr92; have HC130 := Aside0.mk (show y127.length ≤ c92 from by rw [hy92, hc92]; exact Nat.sub_le_sub_right hroom92 _); clear hr92 hC92 hroom92 hi092 hsz92 hc92; have KY92 := Aside0.mk hy92; have KA92 := Aside0.mk hA92; clear hy92 hA92; have KL92 := Aside0.mk (show ((ji77) : Int).toNat ≤ t118.length from by omega); replace q92 := eq_true q92; obtain ⟨Ao93, co93, eo93⟩ := Kd.R_slice HO_6.out; subst eo93) | (go_at_call 11; (with_reducible refine (gouacheref02_Same.calls kj60 _ _ y127 _ _ t105 false _ ?side1 ?side2 ?side3 ?side4 A80.out).mono ?_); (case side1 => repeat (first | exact (by repeat (first | (with_reducible exact HR130.out) | (with_reducible refine Kd.C_alloc ?_ _) | (with_reducible refine Kd.C_drewN ?_ _) | (with_reducible refine Kd.C_drew ?_) | exact HR130.out)) | (with_reducible refine Kd.C_alloc ?_ _) | (with_reducible refine Kd.C_drewN ?_ _) | (with_reducible refine Kd.C_drew ?_))); (case side2 => exact HC130.out); (case side3 => repeat (first | exact (Kd.R_reads' HO_6.out).2.2 | (with_reducible refine Kd.C_alloc ?_ _) | (with_reducible refine Kd.C_drewN ?_ _) | (with_reducible refine Kd.C_drew ?_))); (case side4 => exact (Kd.R_reads' HO_6.out).2.1); rintro e w' ⟨rfl, ⟨nd, rfl⟩⟩))
                                      go_ret
                                      exact ⟨by first | rfl | (simp [errW_none, errW_some] <;> rfl) | (simp only [← hji77]; first | rfl | (simp [errW_none, errW_some] <;> rfl)) | (simp [*, errW_none, errW_some] <;> rfl), by repeat (first | (with_reducible first | exact HB.out | apply below_alloc | apply pw_below_drewN | apply below_drew1) | exact HB.out)⟩
                                  · rw [if_neg c79] at H
                                    exact absurd H (by simp)
                                · rw [if_neg c78] at H
                                  exact absurd H (by simp)
                              · replace c76 := Bool.eq_false_iff.mpr c76
                                subst c76
                                have H1 : (some false) = some r := by rw [if_neg (show ¬ (false = true) by decide)] at H; exact H
                                clear H
                                have H := H1
                                clear H1
                                obtain rfl := Option.some.inj H
                                obtain ⟨Ao94, co94, eo94⟩ := Kd.R_slice HO_5.out
                                subst eo94
                                obtain ⟨Ao96, co96, eo96⟩ := Kd.R_slice HO_8.out
                                subst eo96
                                have q95 : ((t102.length : Int) : Int) ≤ ((t118.length : Int) : Int) := of_decide_eq_true (by first | (with_reducible assumption) | assumption)
                                obtain ⟨i095, hi095, _, hsz95, _⟩ := info_parts info26
                                have hroom95 : t118.length ≤ co96 := (Kd.R_reads' HO_8.out).2.1
                                have hC95 : Kd.C k26 _ Ao96 t118.length t118 := (Kd.R_reads' HO_8.out).2.2
                                have hcut95 := cut_to (P := Tryd.prog) 23 26 .i64 Tryd.underlying23 hi095 Ao96 t118.length co96 (t102.length : Int) (of_decide_eq_true (by first | (with_reducible assumption) | assumption)) q95 hroom95
                                have hr95 := Kd.C_take (m := ((t102.length : Int) : Int).toNat) hC95 (by omega)
                                have hy95 : y122.length = ((t102.length : Int) : Int).toNat := (by rw [Ny122.out, List.length_take]; omega)
                                rw [← Ny122.out] at hr95
                                rw [← hy95] at hcut95
                                have HR125 := Aside0.mk hr95
                                have HC125 := Aside0.mk (show y122.length ≤ co96 from by omega)
                                clear hr95 hC95 hroom95 hi095 hsz95
                                have KY95 := Aside0.mk hy95
                                clear hy95
                                have KL95 := Aside0.mk (show ((t102.length : Int) : Int).toNat ≤ t118.length from by omega)
                                replace q95 := eq_true q95
                                go_wp2_with (first | ((with_reducible refine gate_callee (f := 11) rfl ?_); refine goesL_ (some 115) rfl rfl Tryd.func11 (by kernel_rfl) rfl #[.slice Ao96 y122.length co96, .slice Ao94 t102.length co94] rfl (by (try simp only [List.map_toArray, List.map_cons, List.map_nil]); first | done | rfl | (simp only [List.length_drop, List.length_take]; rfl)) ?_; (with_reducible refine (gouacheref02_Same.calls kj60 _ _ y122 _ _ t102 false _ ?side1 ?side2 ?side3 ?side4 A75.out).mono ?_); (case side1 => repeat (first | exact (by repeat (first | (with_reducible exact HR125.out) | (with_reducible refine Kd.C_alloc ?_ _) | (with_reducible refine Kd.C_drewN ?_ _) | (with_reducible refine Kd.C_drew ?_) | exact HR125.out)) | (with_reducible refine Kd.C_alloc ?_ _) | (with_reducible refine Kd.C_drewN ?_ _) | (with_reducible refine Kd.C_drew ?_))); (case side2 => exact HC125.out); (case side3 => repeat (first | exact (Kd.R_reads' HO_5.out).2.2 | (with_reducible refine Kd.C_alloc ?_ _) | (with_reducible refine Kd.C_drewN ?_ _) | (with_reducible refine Kd.C_drew ?_))); (case side4 => exact (Kd.R_reads' HO_5.out).2.1); rintro e w' ⟨rfl, ⟨nd, rfl⟩⟩; refine ⟨_, rfl, ?_⟩))
                                go_ret
                                exact ⟨by first | rfl | (simp [errW_none, errW_some] <;> rfl) | (simp [*, errW_none, errW_some] <;> rfl), by repeat (first | (with_reducible first | exact HB.out | apply below_alloc | apply pw_below_drewN | apply below_drew1) | exact HB.out)⟩
                            · rw [if_neg c74] at H
                              exact absurd H (by simp)
                          · rw [if_neg c73] at H
                            exact absurd H (by simp)
                  · rw [if_neg c59] at H
                    exact absurd H (by simp)
                · rw [if_neg c58] at H
                  exact absurd H (by simp)
end Go.Proofs.YtpnlbmeeihbjaabDoor.P
end
