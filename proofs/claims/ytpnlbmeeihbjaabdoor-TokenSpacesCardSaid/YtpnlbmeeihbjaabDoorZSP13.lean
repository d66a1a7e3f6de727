/- The law TokenSpaces (layer 2): the row and its tied card: for every input the law returns true, and the arguments read behind the call as they read before. No condition of ours. -/
import Derived.Test.YtpnlbmeeihbjaabDoorZSP7
import Derived.Test.YtpnlbmeeihbjaabDoorZSP11
import Derived.Test.YtpnlbmeeihbjaabDoorZSP12
import Derived.Lib.TrimU
section
set_option linter.unusedVariables false
set_option linter.unusedSimpArgs false
namespace Go.Proofs.YtpnlbmeeihbjaabDoor.P
open Go.RowKit Go.Proofs.YtpnlbmeeihbjaabDoorW.PrintWords Go.Proofs.YtpnlbmeeihbjaabDoorW.PrintLast Go.Proofs.YtpnlbmeeihbjaabDoorW.PrintMore
open Go.Lib
attribute [local go_sem] max2_int min2_int max_two min_two max_three min_three max_four min_four
set_option linter.unusedVariables false
set_option linter.unusedSimpArgs false
open Go.Lib
def decL (S : ByteArray) : Nat → Nat → List Int
  | 0, _ => []
  | k + 1, pos => if pos < S.size then ((Utf8.decode S pos).1 : Int) :: decL S k (pos + (Utf8.decode S pos).2) else []
def decS (S : ByteArray) : List Int := decL S (S.size + 1) 0
def partsB (sb : Int → Bool) (xs : List Int) : List UInt8 := xs.flatMap (charB sb)
theorem partsB_cons (sb : Int → Bool) (c : Int) (xs : List Int) : partsB sb (c :: xs) = charB sb c ++ partsB sb xs := rfl
theorem WT.keep {B : Nat} {w W : World} (h : WT w) (h3 : 3 < B) (hb : Below B w W) : WT W := by
  have : W.heap[3]? = w.heap[3]? := hb.block 3 h3
  unfold WT World.cell? at *
  rw [this]
  exact h
theorem Blw.iterAt {B b : Nat} {l : List UInt8} {w : World} (h : Blw w B b l) {k : Nat} {S : ByteArray} {pos : Nat} (hk : w.heap[k]? = some (.stringIter S pos)) (pos' : Nat) : Blw (w.iterAt k S pos') B b l := by
  obtain ⟨p, hp, h, hn⟩ := h
  refine ⟨p, hp, h.iterAt hk pos', fun e => ?_⟩
  have h0 := hn e
  have hkb : b ≠ k := by
    intro e1
    rw [e1, hk] at h0
    cases h0
  exact (iterAt_other w k b S pos' hkb).trans h0
set_option maxHeartbeats 16000000 in
set_option maxRecDepth 100000 in
theorem parts_w (B b : Nat) (l : List UInt8) (S : ByteArray) (w : World) (hT : WT w) (h3 : 3 < B) (h : Blw w B b l) (hlen : l.length + 10 * S.size + 20 ≤ 140737488355328) (hBw : B ≤ w.heap.size) :
    Calls Tryd.prog 33 #[.pointer (some ⟨b, 0, none⟩), .string S] w fun e w' => e = .returned (.tuple #[]) ∧ (Blw w' B b (l ++ partsB partB (decS S)) ∧ Below B w w') := by
  have HT := Aside0.mk hT
  have HL := Aside0.mk hlen
  have HGB : Aside0 (B ≤ w.heap.size ∧ 3 < B ∧ w.heap.size ≠ b) := ⟨hBw, h3, by have := h.lt; omega⟩
  have HI : Aside0 ((w.iter S 0).heap[w.heap.size]? = some (.stringIter S 0)) := ⟨World.iter_heap w S 0⟩
  have HBL : Aside0 (Blw (w.iter S 0) B b l) := ⟨h.mono (below_alloc (Below.refl w.heap.size w) (.stringIter S 0))⟩
  have HBB : Aside0 (Below B w (w.iter S 0)) := ⟨below_less (below_alloc (Below.refl w.heap.size w) (.stringIter S 0)) hBw⟩
  clear hT hlen hBw h3 h
  go_enter Tryd.func33, Tryd.ntmps33
  go_wp2_with fail
  go_loopg [] (S.size + 1) (fun kq w' => ∃ (pos : Nat) (out : List UInt8), Aside0 (out ++ partsB partB (decL S kq pos) = partsB partB (decS S)) ∧ Aside0 (out.length + 10 * kq ≤ 10 * (S.size + 1) ∧ S.size + 1 ≤ pos + kq) ∧ Aside0 (w'.heap[w.heap.size]? = some (.stringIter S pos)) ∧ Aside0 (Blw w' B b (l ++ out)) ∧ Aside0 (Below B w w'))
  case atStart => exact ⟨0, [], ⟨rfl⟩, ⟨by simp⟩, HI, ⟨by rw [List.append_nil]; exact HBL.out⟩, HBB⟩
  case round =>
    clear HI HBL HBB
    obtain ⟨pos, out, HE, HN, HI, HBL, HBB⟩ := hrel
    cases gk with
    | zero =>
      have c0 : ¬ pos < S.size := by have := HN.out; omega
      have hnx : ∀ ty, (Instr.next (.pointer (some ⟨w.heap.size, 0, none⟩)) true ty).run Tryd.prog wr = .ok (.tuple #[.bool false]) wr := fun ty => run_next_end_at wr w.heap.size S pos ty HI.out c0
      have HE2 : Aside0 (out = partsB partB (decS S)) := ⟨by rw [← HE.out, show decL S 0 pos = [] from rfl]; simp [partsB]⟩
      clear c0
      go_wp2_with fail
      go_end0
      exact ⟨rfl, by rw [← HE2.out]; exact HBL.out, HBB.out⟩
    | succ n =>
      by_cases c0 : pos < S.size
      · have hnx : ∀ ty, (Instr.next (.pointer (some ⟨w.heap.size, 0, none⟩)) true ty).run Tryd.prog wr = .ok (.tuple #[.bool true, .int .i64 pos, .int .i32 (Utf8.decode S pos).1]) (wr.iterAt w.heap.size S (pos + (Utf8.decode S pos).2)) := fun ty => run_next_any_at wr w.heap.size S pos ty HI.out c0
        have hE : partsB partB (decS S) = (out ++ charB partB ((Utf8.decode S pos).1 : Int)) ++ partsB partB (decL S n (pos + (Utf8.decode S pos).2)) := by rw [← HE.out, decL, if_pos c0, partsB_cons, List.append_assoc]
        have HDP : Aside0 (pos + 1 ≤ pos + (Utf8.decode S pos).2) := ⟨by have := dec_pos S pos c0; omega⟩
        have HC : Aside0 ((0 : Int) ≤ ((Utf8.decode S pos).1 : Int) ∧ ((Utf8.decode S pos).1 : Int) ≤ 1114111) := ⟨by have := rune_le S pos; omega⟩
        have HI2 := Aside0.mk (iterAt_heap wr w.heap.size S pos (pos + (Utf8.decode S pos).2) HI.out)
        have HBL2 : Aside0 (Blw (wr.iterAt w.heap.size S (pos + (Utf8.decode S pos).2)) B b (l ++ out)) := ⟨HBL.out.iterAt HI.out _⟩
        have HBB2 : Aside0 (Below B w (wr.iterAt w.heap.size S (pos + (Utf8.decode S pos).2))) := ⟨iter_below HBB.out HGB.out.1 S _⟩
        generalize wr.iterAt w.heap.size S (pos + (Utf8.decode S pos).2) = W3 at HI2 HBL2 HBB2 hnx
        have HI := HI2
        have HBL := HBL2
        have HBB := HBB2
        clear HI2 HBL2 HBB2
        generalize pos + (Utf8.decode S pos).2 = pos' at hE HI HDP
        generalize ((Utf8.decode S pos).1 : Int) = c at hE HC hnx
        have hl := HL.out
        have hs := HN.out
        have hcl := charB_len partB c
        have cp := plain_part B b (l ++ out) c HC.out.1 (by have := HC.out.2; omega) W3 (HT.out.keep HGB.out.2.1 HBB.out) HBL.out (by rw [List.length_append]; omega) (by have := HBB.out.size; have := HGB.out; omega)
        have HE3 := Aside0.mk hE
        have HLL : Aside0 ((l ++ out).length + 10 ≤ 140737488355328) := ⟨by rw [List.length_append]; omega⟩
        have HOL : Aside0 ((out ++ charB partB c).length + 10 * n ≤ 10 * (S.size + 1)) := ⟨by rw [List.length_append]; omega⟩
        clear hE hl hs hcl
        cases hp : plainB partB c with
        | some o =>
          rw [hp] at cp
          have HO : Aside0 (charB partB c = o) := ⟨by rw [charB, hp]⟩
          clear hp
          go_wp2_with (first | (go_at_call 26; refine cp.mono ?_; rintro e W4 ⟨rfl, hB4⟩; have HB4 := Aside0.mk hB4; clear hB4) | fail)
          go_roundg n
          case measure => omega
          case rel => exact ⟨pos', out ++ charB partB c, ⟨HE3.out.symm⟩, ⟨by have := HN.out; have := HDP.out; have := HOL.out; omega⟩, ⟨HB4.out.2.2.iter HI.out HGB.out.2.2⟩, ⟨by rw [HO.out, ← List.append_assoc]; exact HB4.out.1⟩, ⟨HBB.out.trans HB4.out.2.1⟩⟩
        | none =>
          rw [hp] at cp
          have HO : Aside0 (charB partB c = 92 :: Lib.encodeRune c) := ⟨by rw [charB, hp]⟩
          clear hp
          go_wp2_with (first | (go_at_call 26; refine cp.mono ?_; rintro e W4 ⟨rfl, hB4⟩; have HB4 := Aside0.mk hB4; clear hB4) | (go_at_call 28; refine (barred_w B b (l ++ out) c (by have := HC.out.1; omega) (by have := HC.out.2; omega) _ (by have := HB4.out.1; rwa [show optL none = [] from rfl, List.append_nil] at this) HLL.out (by have := HBB.out.size; have := HB4.out.2.1.size; have := HGB.out; omega)).mono ?_; rintro e W5 ⟨rfl, hB5⟩; have HB5 := Aside0.mk hB5; clear hB5) | fail)
          go_roundg n
          case measure => omega
          case rel => exact ⟨pos', out ++ charB partB c, ⟨HE3.out.symm⟩, ⟨by have := HN.out; have := HDP.out; have := HOL.out; omega⟩, ⟨HB5.out.2.2.iter (HB4.out.2.2.iter HI.out HGB.out.2.2) HGB.out.2.2⟩, ⟨by rw [HO.out, ← List.append_assoc]; exact HB5.out.1⟩, ⟨(HBB.out.trans HB4.out.2.1).trans HB5.out.2.1⟩⟩
      · have hnx : ∀ ty, (Instr.next (.pointer (some ⟨w.heap.size, 0, none⟩)) true ty).run Tryd.prog wr = .ok (.tuple #[.bool false]) wr := fun ty => run_next_end_at wr w.heap.size S pos ty HI.out c0
        have HE2 : Aside0 (out = partsB partB (decS S)) := ⟨by rw [← HE.out, decL, if_neg c0]; simp [partsB]⟩
        clear c0
        go_wp2_with fail
        go_end0
        exact ⟨rfl, by rw [← HE2.out]; exact HBL.out, HBB.out⟩
end Go.Proofs.YtpnlbmeeihbjaabDoor.P
end
section
set_option linter.unusedVariables false
set_option linter.unusedSimpArgs false
namespace Go.Proofs.YtpnlbmeeihbjaabDoor.P
open Go.RowKit Go.Proofs.YtpnlbmeeihbjaabDoorW.PrintWords Go.Proofs.YtpnlbmeeihbjaabDoorW.PrintLast Go.Proofs.YtpnlbmeeihbjaabDoorW.PrintMore
open Go.Lib
attribute [local go_sem] max2_int min2_int max_two min_two max_three min_three max_four min_four
set_option linter.unusedVariables false
set_option linter.unusedSimpArgs false
open Go.Lib
def hpB (S D : ByteArray) : Bool := decide (D.size ≤ S.size) && ((S.extract 0 D.size).toList == D.toList)
theorem hasPrefix_f (S D : ByteArray) : strings_HasPrefix.f S D = some (hpB S D) := by
  simp only [strings_HasPrefix.f, stringslite_HasPrefix.f, hpB, Option.bind_some]
  by_cases h : D.size ≤ S.size
  · rw [if_pos (by omega), if_pos (by omega), if_pos (by omega)]
    simp [h]
  · rw [if_neg (by omega)]
    simp [h]
theorem hasPrefix_calls (S D : ByteArray) (w : World) : Calls Tryd.prog 30 #[.string S, .string D] w fun e w' => e = .returned (.bool (hpB S D)) ∧ Below w.heap.size w w' :=
  (strings_HasPrefix.calls S D _ w (hasPrefix_f S D)).mono (fun e w' h => ⟨h.1, h.2.below⟩)
def hd0 (R : ByteArray) : Nat := if h : 0 < R.size then (R[0]'h).toNat else 0
theorem hd0_at (R : ByteArray) (h : 0 < R.size) : hd0 R = (R[0]'h).toNat := dif_pos h
def escR (R : ByteArray) : List UInt8 := if 0 < R.size ∧ btw 48 57 (hd0 R) = true then hexC (hd0 R) ++ partsB partB (decS (R.extract 1 R.size)) else partsB partB (decS R)
def escS (S : ByteArray) : List UInt8 := if hpB S ⟨#[45]⟩ = true ∧ 1 < S.size then 45 :: escR (S.extract 1 S.size) else if S.toList = [45] then [92, 45] else escR S
theorem bytes_len (S : ByteArray) : S.toList.length = S.size := by
  rw [ByteArray.toList_eq]
  rfl
theorem ne_nil (S : ByteArray) (h : 0 < S.size) : S.toList.isEmpty = false := by
  have : S.toList ≠ [] := fun e => by
    have h2 := congrArg List.length e
    rw [bytes_len] at h2
    have h3 : S.size = 0 := h2
    omega
  simp [this]
theorem eq_nil (S : ByteArray) (h : ¬ 0 < S.size) : S.toList.isEmpty = true := by
  have : S.toList = [] := List.eq_nil_of_length_eq_zero (by rw [bytes_len]; omega)
  simp [this]
theorem ne_one (S : ByteArray) (h : 1 < S.size) : (S.toList == [45]) = false := by
  have : S.toList ≠ [45] := fun e => by
    have h2 := congrArg List.length e
    rw [bytes_len] at h2
    have h3 : S.size = 1 := h2
    omega
  simp [this]
set_option maxHeartbeats 16000000 in
set_option maxRecDepth 100000 in
theorem escape_A (S : ByteArray) (w : World) (hT : WT w) (hlen : S.size ≤ 1099511627776) (h1 : hpB S ⟨#[45]⟩ = true) (h2 : 1 < S.size) :
    Calls Tryd.prog 14 #[.string S] w fun e w' => e = .returned (.string ⟨(escS S).toArray⟩) ∧ Below w.heap.size w w' := by
  have hu44 := Tryd.underlying44
  have hu40 := Tryd.underlying40
  have hu42 := Tryd.underlying42
  have hu46 := Tryd.underlying46
  have hu41 := Tryd.underlying41
  have h3 : 3 < w.heap.size := by
    have : w.cell? ⟨3, 15, none⟩ = some (.int .u8 4) := hT
    obtain ⟨c, e, fr, hb, _⟩ := Go.Sort.cells_of_cell? this
    exact blk_lt hb
  have hp := hasPrefix_calls S ⟨#[45]⟩
  have HBN : Aside0 (Below w.heap.size w (w.alloc (.cells #[.pointer none, .slice none 0 0] 46))) := ⟨below_alloc (Below.refl w.heap.size w) _⟩
  have HWR : Aside0 (Blw (w.alloc (.cells #[.pointer none, .slice none 0 0] 46)) w.heap.size w.heap.size []) := ⟨Blw.new w w.heap.size (Nat.le_refl _)⟩
  have HT := Aside0.mk hT
  have HS := Aside0.mk hlen
  have H3 := Aside0.mk h3
  clear hT hlen h3
  have HU0 : Aside0 (escS S = 45 :: escR (S.extract 1 S.size)) := ⟨by rw [escS, if_pos ⟨h1, h2⟩]⟩
  have d1 : decide ((1 : Int) < (S.size : Int)) = true := decide_eq_true (by omega)
  have d2 : (S.toList == [45]) = false := ne_one S h2
  have HR : Aside0 ((S.extract 1 S.size).size ≤ S.size ∧ ((S.extract 1 S.size).extract 1 (S.extract 1 S.size).size).size ≤ S.size) := ⟨by simp; omega⟩
  go_enter Tryd.func14, Tryd.ntmps14
  go_upto_region 6 with (first | (go_at_call 30; (with_reducible refine (hp _).mono ?_); rintro e W ⟨rfl, hb⟩; rw [h1]; have HBN := Aside0.mk (HBN.out.trans (below_less hb HBN.out.size)); have HWR := Aside0.mk (HWR.out.mono hb); clear hb) | (go_at_call 25; refine (wbyte w.heap.size w.heap.size _ 45 _ HWR.out (by simp) (by have := HBN.out.size; omega)).mono ?_; rintro e W ⟨rfl, hb⟩; have HBN := Aside0.mk (HBN.out.trans hb.2.1); have HWR := Aside0.mk hb.1; clear hb) | fail)
  generalize S.extract 1 S.size = R at HU0 HR ⊢
  by_cases hz : 0 < R.size
  · have HZ := Aside0.mk hz
    have e0 : hd0 R = (R[0]'hz).toNat := hd0_at R hz
    have hw : wrap32 (((R[0]'hz).toNat : Nat) : Int) = (((R[0]'hz).toNat : Nat) : Int) := by have := UInt8.toNat_lt (R[0]'hz); unfold wrap32; omega
    have d3 : R.toList.isEmpty = false := ne_nil R hz
    cases hd : btw 48 57 (((R[0]'hz).toNat : Nat) : Int)
    · have HD := Aside0.mk hd
      have HF : Aside0 (escR R = partsB partB (decS R)) := ⟨by rw [escR, if_neg (fun h => by rw [e0, hd] at h; exact absurd h.2 (by simp))]⟩
      clear hd e0
      go_wp2_with (first | (go_at_call 31; (with_reducible refine (digit_calls _ _).mono ?_); rintro e W ⟨rfl, hb⟩; rw [HD.out]; have HBN := Aside0.mk (HBN.out.trans (below_less hb HBN.out.size)); have HWR := Aside0.mk (HWR.out.mono hb); clear hb) | (go_at_call 33; refine (parts_w w.heap.size w.heap.size _ R _ (HT.out.keep H3.out HBN.out) H3.out HWR.out (by have h6 := HS.out; have h7 := HR.out.1; have h8 := HR.out.2; have h9 := hexC_len (R[0]?.getD 0).toNat; simp only [List.length_append, List.length_cons, List.length_nil]; omega) (by have := HBN.out.size; omega)).mono ?_; rintro e W ⟨rfl, hb⟩; have HBN := Aside0.mk (HBN.out.trans hb.2); have HWR := Aside0.mk hb.1; clear hb) | (go_at_call 29; refine (wstring w.heap.size w.heap.size _ _ HWR.out).mono ?_; rintro e W ⟨rfl, hb⟩; have HBN := Aside0.mk (HBN.out.trans hb); clear hb) | fail)
      go_ret
      exact ⟨by rw [HU0.out, HF.out]; simp, HBN.out⟩
    · have HD := Aside0.mk hd
      have HF : Aside0 (escR R = hexC (R[0]'hz).toNat ++ partsB partB (decS (R.extract 1 R.size))) := ⟨by rw [escR, if_pos ⟨hz, by rw [e0]; exact hd⟩, e0]⟩
      have HLN : Aside0 ((hexC (R[0]'hz).toNat).length ≤ 10) := ⟨hexC_len _⟩
      clear hd e0
      go_wp2_with (first | (go_at_call 31; (with_reducible refine (digit_calls _ _).mono ?_); rintro e W ⟨rfl, hb⟩; rw [HD.out]; have HBN := Aside0.mk (HBN.out.trans (below_less hb HBN.out.size)); have HWR := Aside0.mk (HWR.out.mono hb); clear hb) | (go_at_call 32; refine (number_w w.heap.size w.heap.size _ (R[0]'HZ.out).toNat (by have := UInt8.toNat_lt (R[0]'HZ.out); omega) _ (HT.out.keep H3.out HBN.out) HWR.out (by simp) (by have := HBN.out.size; omega)).mono ?_; rintro e W ⟨rfl, hb⟩; have HBN := Aside0.mk (HBN.out.trans hb.2.1); have HWR := Aside0.mk hb.1; clear hb) | (go_at_call 33; refine (parts_w w.heap.size w.heap.size _ (R.extract 1 R.size) _ (HT.out.keep H3.out HBN.out) H3.out HWR.out (by have h6 := HS.out; have h7 := HR.out.1; have h8 := HR.out.2; have h10 := HLN.out; simp only [List.length_append, List.length_cons, List.length_nil]; omega) (by have := HBN.out.size; omega)).mono ?_; rintro e W ⟨rfl, hb⟩; have HBN := Aside0.mk (HBN.out.trans hb.2); have HWR := Aside0.mk hb.1; clear hb) | (go_at_call 29; refine (wstring w.heap.size w.heap.size _ _ HWR.out).mono ?_; rintro e W ⟨rfl, hb⟩; have HBN := Aside0.mk (HBN.out.trans hb); clear hb) | fail)
      go_ret
      exact ⟨by rw [HU0.out, HF.out]; simp, HBN.out⟩
  · have d3 : R.toList.isEmpty = true := eq_nil R hz
    have HF : Aside0 (escR R = partsB partB (decS R)) := ⟨by rw [escR, if_neg (fun h => hz h.1)]⟩
    clear hz
    go_wp2_with (first | (go_at_call 33; refine (parts_w w.heap.size w.heap.size _ R _ (HT.out.keep H3.out HBN.out) H3.out HWR.out (by have h6 := HS.out; have h7 := HR.out.1; have h8 := HR.out.2; have h9 := hexC_len (R[0]?.getD 0).toNat; simp only [List.length_append, List.length_cons, List.length_nil]; omega) (by have := HBN.out.size; omega)).mono ?_; rintro e W ⟨rfl, hb⟩; have HBN := Aside0.mk (HBN.out.trans hb.2); have HWR := Aside0.mk hb.1; clear hb) | (go_at_call 29; refine (wstring w.heap.size w.heap.size _ _ HWR.out).mono ?_; rintro e W ⟨rfl, hb⟩; have HBN := Aside0.mk (HBN.out.trans hb); clear hb) | fail)
    go_ret
    exact ⟨by rw [HU0.out, HF.out]; simp, HBN.out⟩
set_option maxHeartbeats 16000000 in
set_option maxRecDepth 100000 in
theorem escape_C (S : ByteArray) (w : World) (hT : WT w) (hlen : S.size ≤ 1099511627776) (h1 : hpB S ⟨#[45]⟩ = true → ¬ 1 < S.size) (h2 : S.toList ≠ [45]) :
    Calls Tryd.prog 14 #[.string S] w fun e w' => e = .returned (.string ⟨(escS S).toArray⟩) ∧ Below w.heap.size w w' := by
  have hu44 := Tryd.underlying44
  have hu40 := Tryd.underlying40
  have hu42 := Tryd.underlying42
  have hu46 := Tryd.underlying46
  have hu41 := Tryd.underlying41
  have h3 : 3 < w.heap.size := by
    have : w.cell? ⟨3, 15, none⟩ = some (.int .u8 4) := hT
    obtain ⟨c, e, fr, hb, _⟩ := Go.Sort.cells_of_cell? this
    exact blk_lt hb
  have hp := hasPrefix_calls S ⟨#[45]⟩
  have HBN : Aside0 (Below w.heap.size w (w.alloc (.cells #[.pointer none, .slice none 0 0] 46))) := ⟨below_alloc (Below.refl w.heap.size w) _⟩
  have HWR : Aside0 (Blw (w.alloc (.cells #[.pointer none, .slice none 0 0] 46)) w.heap.size w.heap.size []) := ⟨Blw.new w w.heap.size (Nat.le_refl _)⟩
  have HT := Aside0.mk hT
  have HS := Aside0.mk hlen
  have H3 := Aside0.mk h3
  clear hT hlen h3
  have HU0 : Aside0 (escS S = escR S) := ⟨by rw [escS, if_neg (fun h => h1 h.1 h.2), if_neg h2]⟩
  have d2 : (S.toList == [45]) = false := by simp [h2]
  have HR : Aside0 (S.size ≤ S.size ∧ (S.extract 1 S.size).size ≤ S.size) := ⟨by simp⟩
  obtain ⟨R, hR⟩ : ∃ R, R = S := ⟨_, rfl⟩
  cases ho : hpB S ⟨#[45]⟩
  · have h1 := ho
    go_enter Tryd.func14, Tryd.ntmps14
    go_upto_region 6 with (first | (go_at_call 30; (with_reducible refine (hp _).mono ?_); rintro e W ⟨rfl, hb⟩; rw [h1]; have HBN := Aside0.mk (HBN.out.trans (below_less hb HBN.out.size)); have HWR := Aside0.mk (HWR.out.mono hb); clear hb) | (go_at_call 25; refine (wbyte w.heap.size w.heap.size _ 45 _ HWR.out (by simp) (by have := HBN.out.size; omega)).mono ?_; rintro e W ⟨rfl, hb⟩; have HBN := Aside0.mk (HBN.out.trans hb.2.1); have HWR := Aside0.mk hb.1; clear hb) | fail)
    subst hR
    by_cases hz : 0 < R.size
    · have HZ := Aside0.mk hz
      have e0 : hd0 R = (R[0]'hz).toNat := hd0_at R hz
      have hw : wrap32 (((R[0]'hz).toNat : Nat) : Int) = (((R[0]'hz).toNat : Nat) : Int) := by have := UInt8.toNat_lt (R[0]'hz); unfold wrap32; omega
      have d3 : R.toList.isEmpty = false := ne_nil R hz
      cases hd : btw 48 57 (((R[0]'hz).toNat : Nat) : Int)
      · have HD := Aside0.mk hd
        have HF : Aside0 (escR R = partsB partB (decS R)) := ⟨by rw [escR, if_neg (fun h => by rw [e0, hd] at h; exact absurd h.2 (by simp))]⟩
        clear hd e0
        go_wp2_with (first | (go_at_call 31; (with_reducible refine (digit_calls _ _).mono ?_); rintro e W ⟨rfl, hb⟩; rw [HD.out]; have HBN := Aside0.mk (HBN.out.trans (below_less hb HBN.out.size)); have HWR := Aside0.mk (HWR.out.mono hb); clear hb) | (go_at_call 33; refine (parts_w w.heap.size w.heap.size _ R _ (HT.out.keep H3.out HBN.out) H3.out HWR.out (by have h6 := HS.out; have h7 := HR.out.1; have h8 := HR.out.2; have h9 := hexC_len (R[0]?.getD 0).toNat; simp only [List.length_append, List.length_cons, List.length_nil]; omega) (by have := HBN.out.size; omega)).mono ?_; rintro e W ⟨rfl, hb⟩; have HBN := Aside0.mk (HBN.out.trans hb.2); have HWR := Aside0.mk hb.1; clear hb) | (go_at_call 29; refine (wstring w.heap.size w.heap.size _ _ HWR.out).mono ?_; rintro e W ⟨rfl, hb⟩; have HBN := Aside0.mk (HBN.out.trans hb); clear hb) | fail)
        go_ret
        exact ⟨by rw [HU0.out, HF.out]; simp, HBN.out⟩
      · have HD := Aside0.mk hd
        have HF : Aside0 (escR R = hexC (R[0]'hz).toNat ++ partsB partB (decS (R.extract 1 R.size))) := ⟨by rw [escR, if_pos ⟨hz, by rw [e0]; exact hd⟩, e0]⟩
        have HLN : Aside0 ((hexC (R[0]'hz).toNat).length ≤ 10) := ⟨hexC_len _⟩
        clear hd e0
        go_wp2_with (first | (go_at_call 31; (with_reducible refine (digit_calls _ _).mono ?_); rintro e W ⟨rfl, hb⟩; rw [HD.out]; have HBN := Aside0.mk (HBN.out.trans (below_less hb HBN.out.size)); have HWR := Aside0.mk (HWR.out.mono hb); clear hb) | (go_at_call 32; refine (number_w w.heap.size w.heap.size _ (R[0]'HZ.out).toNat (by have := UInt8.toNat_lt (R[0]'HZ.out); omega) _ (HT.out.keep H3.out HBN.out) HWR.out (by simp) (by have := HBN.out.size; omega)).mono ?_; rintro e W ⟨rfl, hb⟩; have HBN := Aside0.mk (HBN.out.trans hb.2.1); have HWR := Aside0.mk hb.1; clear hb) | (go_at_call 33; refine (parts_w w.heap.size w.heap.size _ (R.extract 1 R.size) _ (HT.out.keep H3.out HBN.out) H3.out HWR.out (by have h6 := HS.out; have h7 := HR.out.1; have h8 := HR.out.2; have h10 := HLN.out; simp only [List.length_append, List.length_cons, List.length_nil]; omega) (by have := HBN.out.size; omega)).mono ?_; rintro e W ⟨rfl, hb⟩; have HBN := Aside0.mk (HBN.out.trans hb.2); have HWR := Aside0.mk hb.1; clear hb) | (go_at_call 29; refine (wstring w.heap.size w.heap.size _ _ HWR.out).mono ?_; rintro e W ⟨rfl, hb⟩; have HBN := Aside0.mk (HBN.out.trans hb); clear hb) | fail)
        go_ret
        exact ⟨by rw [HU0.out, HF.out]; simp, HBN.out⟩
    · have d3 : R.toList.isEmpty = true := eq_nil R hz
      have HF : Aside0 (escR R = partsB partB (decS R)) := ⟨by rw [escR, if_neg (fun h => hz h.1)]⟩
      clear hz
      go_wp2_with (first | (go_at_call 33; refine (parts_w w.heap.size w.heap.size _ R _ (HT.out.keep H3.out HBN.out) H3.out HWR.out (by have h6 := HS.out; have h7 := HR.out.1; have h8 := HR.out.2; have h9 := hexC_len (R[0]?.getD 0).toNat; simp only [List.length_append, List.length_cons, List.length_nil]; omega) (by have := HBN.out.size; omega)).mono ?_; rintro e W ⟨rfl, hb⟩; have HBN := Aside0.mk (HBN.out.trans hb.2); have HWR := Aside0.mk hb.1; clear hb) | (go_at_call 29; refine (wstring w.heap.size w.heap.size _ _ HWR.out).mono ?_; rintro e W ⟨rfl, hb⟩; have HBN := Aside0.mk (HBN.out.trans hb); clear hb) | fail)
      go_ret
      exact ⟨by rw [HU0.out, HF.out]; simp, HBN.out⟩
  · have d1 : decide ((1 : Int) < (S.size : Int)) = false := decide_eq_false (by have := h1 ho; omega)
    have h1 := ho
    go_enter Tryd.func14, Tryd.ntmps14
    go_upto_region 6 with (first | (go_at_call 30; (with_reducible refine (hp _).mono ?_); rintro e W ⟨rfl, hb⟩; rw [h1]; have HBN := Aside0.mk (HBN.out.trans (below_less hb HBN.out.size)); have HWR := Aside0.mk (HWR.out.mono hb); clear hb) | (go_at_call 25; refine (wbyte w.heap.size w.heap.size _ 45 _ HWR.out (by simp) (by have := HBN.out.size; omega)).mono ?_; rintro e W ⟨rfl, hb⟩; have HBN := Aside0.mk (HBN.out.trans hb.2.1); have HWR := Aside0.mk hb.1; clear hb) | fail)
    subst hR
    by_cases hz : 0 < R.size
    · have HZ := Aside0.mk hz
      have e0 : hd0 R = (R[0]'hz).toNat := hd0_at R hz
      have hw : wrap32 (((R[0]'hz).toNat : Nat) : Int) = (((R[0]'hz).toNat : Nat) : Int) := by have := UInt8.toNat_lt (R[0]'hz); unfold wrap32; omega
      have d3 : R.toList.isEmpty = false := ne_nil R hz
      cases hd : btw 48 57 (((R[0]'hz).toNat : Nat) : Int)
      · have HD := Aside0.mk hd
        have HF : Aside0 (escR R = partsB partB (decS R)) := ⟨by rw [escR, if_neg (fun h => by rw [e0, hd] at h; exact absurd h.2 (by simp))]⟩
        clear hd e0
        go_wp2_with (first | (go_at_call 31; (with_reducible refine (digit_calls _ _).mono ?_); rintro e W ⟨rfl, hb⟩; rw [HD.out]; have HBN := Aside0.mk (HBN.out.trans (below_less hb HBN.out.size)); have HWR := Aside0.mk (HWR.out.mono hb); clear hb) | (go_at_call 33; refine (parts_w w.heap.size w.heap.size _ R _ (HT.out.keep H3.out HBN.out) H3.out HWR.out (by have h6 := HS.out; have h7 := HR.out.1; have h8 := HR.out.2; have h9 := hexC_len (R[0]?.getD 0).toNat; simp only [List.length_append, List.length_cons, List.length_nil]; omega) (by have := HBN.out.size; omega)).mono ?_; rintro e W ⟨rfl, hb⟩; have HBN := Aside0.mk (HBN.out.trans hb.2); have HWR := Aside0.mk hb.1; clear hb) | (go_at_call 29; refine (wstring w.heap.size w.heap.size _ _ HWR.out).mono ?_; rintro e W ⟨rfl, hb⟩; have HBN := Aside0.mk (HBN.out.trans hb); clear hb) | fail)
        go_ret
        exact ⟨by rw [HU0.out, HF.out]; simp, HBN.out⟩
      · have HD := Aside0.mk hd
        have HF : Aside0 (escR R = hexC (R[0]'hz).toNat ++ partsB partB (decS (R.extract 1 R.size))) := ⟨by rw [escR, if_pos ⟨hz, by rw [e0]; exact hd⟩, e0]⟩
        have HLN : Aside0 ((hexC (R[0]'hz).toNat).length ≤ 10) := ⟨hexC_len _⟩
        clear hd e0
        go_wp2_with (first | (go_at_call 31; (with_reducible refine (digit_calls _ _).mono ?_); rintro e W ⟨rfl, hb⟩; rw [HD.out]; have HBN := Aside0.mk (HBN.out.trans (below_less hb HBN.out.size)); have HWR := Aside0.mk (HWR.out.mono hb); clear hb) | (go_at_call 32; refine (number_w w.heap.size w.heap.size _ (R[0]'HZ.out).toNat (by have := UInt8.toNat_lt (R[0]'HZ.out); omega) _ (HT.out.keep H3.out HBN.out) HWR.out (by simp) (by have := HBN.out.size; omega)).mono ?_; rintro e W ⟨rfl, hb⟩; have HBN := Aside0.mk (HBN.out.trans hb.2.1); have HWR := Aside0.mk hb.1; clear hb) | (go_at_call 33; refine (parts_w w.heap.size w.heap.size _ (R.extract 1 R.size) _ (HT.out.keep H3.out HBN.out) H3.out HWR.out (by have h6 := HS.out; have h7 := HR.out.1; have h8 := HR.out.2; have h10 := HLN.out; simp only [List.length_append, List.length_cons, List.length_nil]; omega) (by have := HBN.out.size; omega)).mono ?_; rintro e W ⟨rfl, hb⟩; have HBN := Aside0.mk (HBN.out.trans hb.2); have HWR := Aside0.mk hb.1; clear hb) | (go_at_call 29; refine (wstring w.heap.size w.heap.size _ _ HWR.out).mono ?_; rintro e W ⟨rfl, hb⟩; have HBN := Aside0.mk (HBN.out.trans hb); clear hb) | fail)
        go_ret
        exact ⟨by rw [HU0.out, HF.out]; simp, HBN.out⟩
    · have d3 : R.toList.isEmpty = true := eq_nil R hz
      have HF : Aside0 (escR R = partsB partB (decS R)) := ⟨by rw [escR, if_neg (fun h => hz h.1)]⟩
      clear hz
      go_wp2_with (first | (go_at_call 33; refine (parts_w w.heap.size w.heap.size _ R _ (HT.out.keep H3.out HBN.out) H3.out HWR.out (by have h6 := HS.out; have h7 := HR.out.1; have h8 := HR.out.2; have h9 := hexC_len (R[0]?.getD 0).toNat; simp only [List.length_append, List.length_cons, List.length_nil]; omega) (by have := HBN.out.size; omega)).mono ?_; rintro e W ⟨rfl, hb⟩; have HBN := Aside0.mk (HBN.out.trans hb.2); have HWR := Aside0.mk hb.1; clear hb) | (go_at_call 29; refine (wstring w.heap.size w.heap.size _ _ HWR.out).mono ?_; rintro e W ⟨rfl, hb⟩; have HBN := Aside0.mk (HBN.out.trans hb); clear hb) | fail)
      go_ret
      exact ⟨by rw [HU0.out, HF.out]; simp, HBN.out⟩
set_option maxHeartbeats 16000000 in
set_option maxRecDepth 100000 in
theorem escape_B (S : ByteArray) (w : World) (hT : WT w) (hlen : S.size ≤ 1099511627776) (h2 : S.toList = [45]) :
    Calls Tryd.prog 14 #[.string S] w fun e w' => e = .returned (.string ⟨(escS S).toArray⟩) ∧ Below w.heap.size w w' := by
  have hu44 := Tryd.underlying44
  have hu40 := Tryd.underlying40
  have hu42 := Tryd.underlying42
  have hu46 := Tryd.underlying46
  have hu41 := Tryd.underlying41
  have h3 : 3 < w.heap.size := by
    have : w.cell? ⟨3, 15, none⟩ = some (.int .u8 4) := hT
    obtain ⟨c, e, fr, hb, _⟩ := Go.Sort.cells_of_cell? this
    exact blk_lt hb
  have hp := hasPrefix_calls S ⟨#[45]⟩
  have HBN : Aside0 (Below w.heap.size w (w.alloc (.cells #[.pointer none, .slice none 0 0] 46))) := ⟨below_alloc (Below.refl w.heap.size w) _⟩
  have HWR : Aside0 (Blw (w.alloc (.cells #[.pointer none, .slice none 0 0] 46)) w.heap.size w.heap.size []) := ⟨Blw.new w w.heap.size (Nat.le_refl _)⟩
  have HT := Aside0.mk hT
  have HS := Aside0.mk hlen
  have H3 := Aside0.mk h3
  clear hT hlen h3
  have hs : S.size = 1 := by
    have := congrArg List.length h2
    rw [bytes_len] at this
    exact this
  have HU0 : Aside0 (escS S = [92, 45]) := ⟨by rw [escS, if_neg (fun h => by omega), if_pos h2]⟩
  have d2 : (S.toList == [45]) = true := by simp [h2]
  have d1 : decide ((1 : Int) < (S.size : Int)) = false := decide_eq_false (by omega)
  cases ho : hpB S ⟨#[45]⟩
  all_goals have h1 := ho
  all_goals clear h2 hs
  all_goals go_enter Tryd.func14, Tryd.ntmps14
  all_goals go_wp2_with (first | (go_at_call 30; (with_reducible refine (hp _).mono ?_); rintro e W ⟨rfl, hb⟩; rw [h1]; have HBN := Aside0.mk (HBN.out.trans (below_less hb HBN.out.size)); have HWR := Aside0.mk (HWR.out.mono hb); clear hb) | (go_at_call 28; refine (barred_w w.heap.size w.heap.size _ 45 (by omega) (by omega) _ HWR.out (by simp) (by have := HBN.out.size; omega)).mono ?_; rintro e W ⟨rfl, hb⟩; have HBN := Aside0.mk (HBN.out.trans hb.2.1); have HWR := Aside0.mk hb.1; clear hb) | (go_at_call 29; refine (wstring w.heap.size w.heap.size _ _ HWR.out).mono ?_; rintro e W ⟨rfl, hb⟩; have HBN := Aside0.mk (HBN.out.trans hb); clear hb) | fail)
  all_goals go_ret
  all_goals exact ⟨by rw [HU0.out]; rfl, HBN.out⟩
theorem escape_w (S : ByteArray) (w : World) (hT : WT w) (hlen : S.size ≤ 1099511627776) :
    Calls Tryd.prog 14 #[.string S] w fun e w' => e = .returned (.string ⟨(escS S).toArray⟩) ∧ Below w.heap.size w w' := by
  by_cases h2 : S.toList = [45]
  · exact escape_B S w hT hlen h2
  · by_cases h1 : hpB S ⟨#[45]⟩ = true ∧ 1 < S.size
    · exact escape_A S w hT hlen h1.1 h1.2
    · exact escape_C S w hT hlen (fun a b => h1 ⟨a, b⟩) h2
end Go.Proofs.YtpnlbmeeihbjaabDoor.P
end
section
set_option linter.unusedVariables false
set_option linter.unusedSimpArgs false
namespace Go.Proofs.YtpnlbmeeihbjaabDoor.P
open Go.RowKit Go.Proofs.YtpnlbmeeihbjaabDoorW.PrintWords Go.Proofs.YtpnlbmeeihbjaabDoorW.PrintLast Go.Proofs.YtpnlbmeeihbjaabDoorW.PrintMore
open Go.Lib
attribute [local go_sem] max2_int min2_int max_two min_two max_three min_three max_four min_four
set_option linter.unusedVariables false
set_option linter.unusedSimpArgs false
open Go.Lib
def cutS (S : ByteArray) : List S26 := toksS (runS S)
theorem runL_len (S : ByteArray) : ∀ (k pos : Nat) (was : Int), (runL S k pos was).length ≤ k
  | 0, _, _ => Nat.le_refl _
  | k + 1, pos, was => by
    have := runL_len S k (pos + (Utf8.decode S pos).2) (Utf8.decode S pos).1
    unfold runL
    split
    · rw [List.length_append]
      split <;> simp <;> omega
    · simp
theorem runL_char (S : ByteArray) : ∀ (k pos : Nat) (was : Int), ∀ c ∈ runL S k pos was, 0 < c ∧ c ≤ 1114111
  | 0, _, _, c, h => by cases h
  | k + 1, pos, was, c, h => by
    have ih := runL_char S k (pos + (Utf8.decode S pos).2) (Utf8.decode S pos).1 c
    have hr := rune_le S pos
    unfold runL at h
    split at h
    · rcases List.mem_append.1 h with h | h
      · split at h
        · cases h
        · simp only [List.mem_singleton] at h
          subst h
          split
          · omega
          · split <;> omega
      · exact ih h
    · cases h
theorem okL_run (S : ByteArray) (h : S.size < 1099511627776) : OkL (runS S) := by
  refine ⟨?_, fun c hc => ?_⟩
  · have := runL_len S (S.size + 1) 0 0
    unfold runS
    omega
  · have := runL_char S (S.size + 1) 0 0 c hc
    omega
theorem nums_back (S : ByteArray) : strOfNums (bytesOfS S) = S := by
  have h : (strOfNums (bytesOfS S)).data.toList = S.data.toList := by
    rw [strOfNums_data]
    unfold bytesOfS
    rw [List.map_map]
    conv => rhs; rw [← List.map_id S.data.toList]
    refine List.map_congr_left fun b _ => ?_
    simp
  exact Go.WideShapes.bytes_inj h
set_option maxHeartbeats 4000000 in
set_option maxRecDepth 100000 in
theorem cut_calls (S : ByteArray) (w : World) (hS : S.size < 1099511627776) :
    Calls Tryd.prog 10 #[.string S] w fun e w' => ∃ v, e = .returned v ∧ Kd.R k26 26 w' w.heap.size (fun _ => True) v (cutS S) ∧ Below w.heap.size w w' := by
  have hu9 := Tryd.underlying9
  have hu40 := Tryd.underlying40
  have hO := Aside0.mk (okL_run S hS)
  have hcv := Lib.run_convert_string_bytes (P := Tryd.prog) w 9 40 5 S Tryd.underlying9 Tryd.underlying40 Tryd.underlying5
  have HB := Aside0.mk (bytesWorld_below w 5 S)
  have c24 := runes_calls S (some ⟨w.heap.size, 0, none⟩) (grownCap w S.size 0 5) (Lib.bytesWorld w 5 S) (by omega) (fun W hW => by
    have h := ((BRow.made w 5 S).below hW).str (P := Tryd.prog) 40 9 (grownCap w S.size 0 5) Tryd.underlying40 Tryd.underlying5 Tryd.underlying9 S.size (bytesOfS_len S)
    rw [nums_back] at h
    exact h)
  clear hS
  go_enter Tryd.func10, Tryd.ntmps10
  go_wp2_with fail
  refine c24.mono ?_
  rintro e W1 ⟨u, rfl, hR, hb⟩
  obtain ⟨A1, n1, rfl, hn1, hC1⟩ := Kd.R_reads hR
  have c23 := tokens_calls (runS S) A1 n1 W1 hC1 hn1 hO.out
  have HB1 := Aside0.mk (HB.out.trans (below_less hb HB.out.size))
  clear hcv c24 hR hC1 hb
  go_wp2_with fail
  refine c23.mono ?_
  rintro e W2 ⟨u, rfl, hR, hb⟩
  have HB2 := Aside0.mk (HB1.out.trans (below_less hb HB1.out.size))
  have HC2 := Aside0.mk (Kd.R_lower hR HB1.out.size)
  clear c23 hR hb
  go_wp2_with fail
  go_ret
  exact ⟨_, rfl, HC2.out, HB2.out⟩
end Go.Proofs.YtpnlbmeeihbjaabDoor.P
end
section
set_option linter.unusedVariables false
set_option linter.unusedSimpArgs false
namespace Go.Proofs.YtpnlbmeeihbjaabDoor.P
open Go.RowKit Go.Proofs.YtpnlbmeeihbjaabDoorW.PrintWords Go.Proofs.YtpnlbmeeihbjaabDoorW.PrintLast Go.Proofs.YtpnlbmeeihbjaabDoorW.PrintMore
open Go.Lib
attribute [local go_sem] max2_int min2_int max_two min_two max_three min_three max_four min_four
set_option linter.unusedVariables false
set_option linter.unusedSimpArgs false
def gouachelaw02_cut.f (a0 : ByteArray) : Option (List (S26)) := if a0.size < 1099511627776 then some (cutS a0) else none
theorem gouachelaw02_cut.calls (a0 : ByteArray) (r : List S26) (w : World) (h : gouachelaw02_cut.f a0 = some r) :
    Calls Tryd.prog 10 #[.string a0] w fun e w' => ∃ v, e = .returned v ∧ Kd.R k26 26 w' w.heap.size (fun _ => True) v r ∧ Below w.heap.size w w' := by
  unfold gouachelaw02_cut.f at h
  by_cases hs : a0.size < 1099511627776
  · rw [if_pos hs] at h
    obtain rfl := Option.some.inj h
    exact cut_calls a0 w hs
  · rw [if_neg hs] at h
    cases h
end Go.Proofs.YtpnlbmeeihbjaabDoor.P
end
section
set_option linter.unusedVariables false
set_option linter.unusedSimpArgs false
namespace Go.Proofs.YtpnlbmeeihbjaabDoor.P
open Go.RowKit Go.Proofs.YtpnlbmeeihbjaabDoorW.PrintWords Go.Proofs.YtpnlbmeeihbjaabDoorW.PrintLast Go.Proofs.YtpnlbmeeihbjaabDoorW.PrintMore
open Go.Lib
attribute [local go_sem] max2_int min2_int max_two min_two max_three min_three max_four min_four
set_option linter.unusedVariables false
set_option linter.unusedSimpArgs false
def token_Escape.f (a0 : ByteArray) : Option ByteArray := if a0.size ≤ 1099511627776 then some ⟨(escS a0).toArray⟩ else none
theorem token_Escape.calls (a0 : ByteArray) (r : ByteArray) (w : World) (h : token_Escape.f a0 = some r) (hT : WT w) :
    Calls Tryd.prog 14 #[.string a0] w fun e w' => e = .returned (.string r) ∧ Below w.heap.size w w' := by
  unfold token_Escape.f at h
  by_cases hs : a0.size ≤ 1099511627776
  · rw [if_pos hs] at h
    obtain rfl := Option.some.inj h
    exact escape_w a0 w hT hs
  · rw [if_neg hs] at h
    cases h
end Go.Proofs.YtpnlbmeeihbjaabDoor.P
end
section
set_option linter.unusedVariables false
set_option linter.unusedSimpArgs false
namespace Go.Proofs.YtpnlbmeeihbjaabDoor.P
open Go.RowKit Go.Proofs.YtpnlbmeeihbjaabDoorW.PrintWords Go.Proofs.YtpnlbmeeihbjaabDoorW.PrintLast Go.Proofs.YtpnlbmeeihbjaabDoorW.PrintMore
attribute [local go_sem] max2_int min2_int max_two min_two max_three min_three max_four min_four
set_option linter.unusedVariables false
set_option linter.unusedSimpArgs false
def gouachelaw02_lives.f  : Option (Bool) := (gouachelaw02_cut.f (⟨#[97, 123, 98, 58, 49, 46, 53, 101, 109, 125]⟩ : ByteArray)).bind fun t101 => ((gouachelaw02_cut.f (⟨#[34, 97, 10]⟩ : ByteArray)).bind fun t104 => (if (t101.length : Int) = 6 then (if 0 < (t101.length : Int) then (if ((rd_T26 t101 0).f0) = 1 then (if 4 < (t101.length : Int) then (if ((rd_T26 t101 4).f0) = 12 then (if ((rd_T26 t101 4).f1).toList = ([49, 46, 53] : List UInt8) then (if ((rd_T26 t101 4).f2).toList = ([101, 109] : List UInt8) then (if ((rd_T26 t101 4).f3 = true) then (some false) else (if (t104.length : Int) = 2 then (if 0 < (t104.length : Int) then (if ((rd_T26 t104 0).f0) = 6 then (if 1 < (t104.length : Int) then (if ((rd_T26 t104 1).f0) = 13 then ((token_Escape.f (⟨#[49]⟩ : ByteArray)).bind fun t114 => (some (t114.toList == ([92, 51, 49, 32] : List UInt8)))) else (some false)) else (none)) else (some false)) else (none)) else (some false))) else (some false)) else (some false)) else (some false)) else (none)) else (some false)) else (none)) else (some false)))
set_option maxHeartbeats 8000000 in
set_option maxRecDepth 100000 in
theorem gouachelaw02_lives.calls  (r : Bool) (w : World) (h : gouachelaw02_lives.f  = some r) (hT : WT w) :
    Calls Tryd.prog 9 #[] w fun e w' => e = .returned (.bool r) ∧ Below w.heap.size w w' := by
  have HT := Aside0.mk hT
  clear hT
  have HB := Aside0.mk (Below.refl w.heap.size w)
  have H : ((gouachelaw02_cut.f (⟨#[97, 123, 98, 58, 49, 46, 53, 101, 109, 125]⟩ : ByteArray)).bind fun t101 => ((gouachelaw02_cut.f (⟨#[34, 97, 10]⟩ : ByteArray)).bind fun t104 => (if (t101.length : Int) = 6 then (if 0 < (t101.length : Int) then (if ((rd_T26 t101 0).f0) = 1 then (if 4 < (t101.length : Int) then (if ((rd_T26 t101 4).f0) = 12 then (if ((rd_T26 t101 4).f1).toList = ([49, 46, 53] : List UInt8) then (if ((rd_T26 t101 4).f2).toList = ([101, 109] : List UInt8) then (if ((rd_T26 t101 4).f3 = true) then (some false) else (if (t104.length : Int) = 2 then (if 0 < (t104.length : Int) then (if ((rd_T26 t104 0).f0) = 6 then (if 1 < (t104.length : Int) then (if ((rd_T26 t104 1).f0) = 13 then ((token_Escape.f (⟨#[49]⟩ : ByteArray)).bind fun t114 => (some (t114.toList == ([92, 51, 49, 32] : List UInt8)))) else (some false)) else (none)) else (some false)) else (none)) else (some false))) else (some false)) else (some false)) else (some false)) else (none)) else (some false)) else (none)) else (some false)))) = some r := h
  clear h
  replace H := Option.bind_eq_some_iff.mp H
  obtain ⟨t101, A10, H⟩ := H
  replace H : ((gouachelaw02_cut.f (⟨#[34, 97, 10]⟩ : ByteArray)).bind fun t104 => (if (t101.length : Int) = 6 then (if 0 < (t101.length : Int) then (if ((rd_T26 t101 0).f0) = 1 then (if 4 < (t101.length : Int) then (if ((rd_T26 t101 4).f0) = 12 then (if ((rd_T26 t101 4).f1).toList = ([49, 46, 53] : List UInt8) then (if ((rd_T26 t101 4).f2).toList = ([101, 109] : List UInt8) then (if ((rd_T26 t101 4).f3 = true) then (some false) else (if (t104.length : Int) = 2 then (if 0 < (t104.length : Int) then (if ((rd_T26 t104 0).f0) = 6 then (if 1 < (t104.length : Int) then (if ((rd_T26 t104 1).f0) = 13 then ((token_Escape.f (⟨#[49]⟩ : ByteArray)).bind fun t114 => (some (t114.toList == ([92, 51, 49, 32] : List UInt8)))) else (some false)) else (none)) else (some false)) else (none)) else (some false))) else (some false)) else (some false)) else (some false)) else (none)) else (some false)) else (none)) else (some false))) = some r := H
  have A1 := Aside0.mk A10
  clear A10
  replace H := Option.bind_eq_some_iff.mp H
  obtain ⟨t104, A20, H⟩ := H
  replace H : (if (t101.length : Int) = 6 then (if 0 < (t101.length : Int) then (if ((rd_T26 t101 0).f0) = 1 then (if 4 < (t101.length : Int) then (if ((rd_T26 t101 4).f0) = 12 then (if ((rd_T26 t101 4).f1).toList = ([49, 46, 53] : List UInt8) then (if ((rd_T26 t101 4).f2).toList = ([101, 109] : List UInt8) then (if ((rd_T26 t101 4).f3 = true) then (some false) else (if (t104.length : Int) = 2 then (if 0 < (t104.length : Int) then (if ((rd_T26 t104 0).f0) = 6 then (if 1 < (t104.length : Int) then (if ((rd_T26 t104 1).f0) = 13 then ((token_Escape.f (⟨#[49]⟩ : ByteArray)).bind fun t114 => (some (t114.toList == ([92, 51, 49, 32] : List UInt8)))) else (some false)) else (none)) else (some false)) else (none)) else (some false))) else (some false)) else (some false)) else (some false)) else (none)) else (some false)) else (none)) else (some false)) = some r := H
  have A2 := Aside0.mk A20
  clear A20
  by_cases c3 : (t101.length : Int) = 6
  · rw [if_pos c3] at H
    have c3b0 : ((t101.length : Int) == 6) = true := beq_iff_eq.mpr c3
    have c3b1 : ((t101.length : Int) != 6) = false := bne_eq_false_iff_eq.mpr c3
    clear c3
    by_cases c4 : 0 < (t101.length : Int)
    · rw [if_pos c4] at H
      have c4b0 : decide (0 < (t101.length : Int)) = true := decide_eq_true c4
      have c4b1 : decide (0 < t101.length) = true := decide_eq_true (by omega)
      clear c4
      by_cases c5 : ((rd_T26 t101 0).f0) = 1
      · rw [if_pos c5] at H
        have c5b0 : (((rd_T26 t101 0).f0) == 1) = true := beq_iff_eq.mpr c5
        have c5b1 : (((rd_T26 t101 0).f0) != 1) = false := bne_eq_false_iff_eq.mpr c5
        clear c5
        by_cases c6 : 4 < (t101.length : Int)
        · rw [if_pos c6] at H
          have c6b0 : decide (4 < (t101.length : Int)) = true := decide_eq_true c6
          have c6b1 : decide (4 < t101.length) = true := decide_eq_true (by omega)
          clear c6
          by_cases c7 : ((rd_T26 t101 4).f0) = 12
          · rw [if_pos c7] at H
            have c7b0 : (((rd_T26 t101 4).f0) == 12) = true := beq_iff_eq.mpr c7
            have c7b1 : (((rd_T26 t101 4).f0) != 12) = false := bne_eq_false_iff_eq.mpr c7
            clear c7
            by_cases c8 : ((rd_T26 t101 4).f1).toList = ([49, 46, 53] : List UInt8)
            · rw [if_pos c8] at H
              have c8b0 : (((rd_T26 t101 4).f1).toList == ([49, 46, 53] : List UInt8)) = true := beq_iff_eq.mpr c8
              have c8b1 : (((rd_T26 t101 4).f1).toList != ([49, 46, 53] : List UInt8)) = false := bne_eq_false_iff_eq.mpr c8
              clear c8
              by_cases c9 : ((rd_T26 t101 4).f2).toList = ([101, 109] : List UInt8)
              · rw [if_pos c9] at H
                have c9b0 : (((rd_T26 t101 4).f2).toList == ([101, 109] : List UInt8)) = true := beq_iff_eq.mpr c9
                have c9b1 : (((rd_T26 t101 4).f2).toList != ([101, 109] : List UInt8)) = false := bne_eq_false_iff_eq.mpr c9
                clear c9
                obtain ⟨bq10, hbq10⟩ : ∃ b_ : Bool, b_ = ((rd_T26 t101 4).f3) := ⟨_, rfl⟩
                replace H : (if (bq10 = true) then (some false) else (if (t104.length : Int) = 2 then (if 0 < (t104.length : Int) then (if ((rd_T26 t104 0).f0) = 6 then (if 1 < (t104.length : Int) then (if ((rd_T26 t104 1).f0) = 13 then ((token_Escape.f (⟨#[49]⟩ : ByteArray)).bind fun t114 => (some (t114.toList == ([92, 51, 49, 32] : List UInt8)))) else (some false)) else (none)) else (some false)) else (none)) else (some false))) = some r := by rw [← hbq10] at H; exact H
                have Nbq10 := Aside0.mk hbq10
                clear hbq10
                by_cases c11 : (bq10 = true)
                · subst c11
                  have H1 : (some false) = some r := by rw [if_pos rfl] at H; exact H
                  clear H
                  have H := H1
                  clear H1
                  obtain rfl := Option.some.inj H
                  go_enter Tryd.func9, Tryd.ntmps9
                  go_wp2_with (first | ((with_reducible refine gate_callee (f := 10) rfl ?_); refine goesL_ (some 3) rfl rfl Tryd.func10 (by kernel_rfl) rfl #[.string (⟨#[97, 123, 98, 58, 49, 46, 53, 101, 109, 125]⟩ : ByteArray)] rfl (by (try simp only [List.map_toArray, List.map_cons, List.map_nil]); first | done | rfl | (simp only [List.length_drop, List.length_take]; rfl)) ?_; (with_reducible refine (gouachelaw02_cut.calls (⟨#[97, 123, 98, 58, 49, 46, 53, 101, 109, 125]⟩ : ByteArray) t101 _ A1.out).mono ?_); rintro e w12 ⟨v102, rfl, ho0, hb⟩; refine ⟨_, rfl, ?_⟩; have n0_ := Aside0.mk (Kd.R_lower ho0 (below_size (by repeat (first | (with_reducible first | exact HB.out | apply below_alloc | apply pw_below_drewN | apply below_drew1) | exact HB.out)))); have n1_ := Aside0.mk (below_step (by repeat (first | (with_reducible first | exact HB.out | apply below_alloc | apply pw_below_drewN | apply below_drew1) | exact HB.out)) hb); clear HB; have HO103 := n0_; have HB := n1_; clear n0_ n1_; (try clear hb); (try clear hb2); (try clear hk); (try clear hi); (try clear ho0)) | ((with_reducible refine gate_callee (f := 10) rfl ?_); refine goesL_ (some 4) rfl rfl Tryd.func10 (by kernel_rfl) rfl #[.string (⟨#[34, 97, 10]⟩ : ByteArray)] rfl (by (try simp only [List.map_toArray, List.map_cons, List.map_nil]); first | done | rfl | (simp only [List.length_drop, List.length_take]; rfl)) ?_; (with_reducible refine (gouachelaw02_cut.calls (⟨#[34, 97, 10]⟩ : ByteArray) t104 _ A2.out).mono ?_); rintro e w13 ⟨v105, rfl, ho0, hb⟩; refine ⟨_, rfl, ?_⟩; have n0_ := Aside0.mk (Kd.R_elder' (by (with_reducible repeat (first | apply Kd.R_alloc | apply Kd.R_drewN | apply Kd.R_drew)); exact HO103.out) (Kd.R_base ho0) hb); have n1_ := Aside0.mk (Kd.R_lower (Kd.R_new' ho0 (Kd.R_lt (by (with_reducible repeat (first | apply Kd.R_alloc | apply Kd.R_drewN | apply Kd.R_drew)); exact HO103.out))) (below_size (by repeat (first | (with_reducible first | exact HB.out | apply below_alloc | apply pw_below_drewN | apply below_drew1) | exact HB.out)))); have n2_ := Aside0.mk (below_step (by repeat (first | (with_reducible first | exact HB.out | apply below_alloc | apply pw_below_drewN | apply below_drew1) | exact HB.out)) hb); clear HO103; clear HB; have HO103 := n0_; have HO106 := n1_; have HB := n2_; clear n0_ n1_ n2_; (try clear hb); (try clear hb2); (try clear hk); (try clear hi); (try clear ho0); obtain ⟨Ao14, co14, eo14⟩ := Kd.R_slice HO103.out; subst eo14; have p107 : 0 ≤ (0 : Int) := (by omega); have q107 : 0 < (t101.length : Int) := of_decide_eq_true (by first | (with_reducible assumption) | assumption); obtain ⟨ad107, e107, hx107_0, hx107_1, hx107_2, hx107_3, hx107_4⟩ := at_T26 (Kd.R_reads' HO103.out).2.2 0 p107 q107; (try rw [← Nbq10.out] at hx107_3); (try rw [← Nbq10.out] at hx107_4); cases e107; have qi107 : (0 < t101.length) = True := eq_true (by omega); (try rw [show ((0 : Int)).toNat = 0 from rfl] at hx107_0); (try rw [show 0 * 5 = 0 from rfl] at hx107_0); (try rw [Addr.add_zero'] at hx107_0); (try rw [show ((0 : Int)).toNat = 0 from rfl] at hx107_1); (try rw [show 0 * 5 = 0 from rfl] at hx107_1); (try rw [Addr.add_zero'] at hx107_1); (try rw [show ((0 : Int)).toNat = 0 from rfl] at hx107_2); (try rw [show 0 * 5 = 0 from rfl] at hx107_2); (try rw [Addr.add_zero'] at hx107_2); (try rw [show ((0 : Int)).toNat = 0 from rfl] at hx107_3); (try rw [show 0 * 5 = 0 from rfl] at hx107_3); (try rw [Addr.add_zero'] at hx107_3); (try rw [show ((0 : Int)).toNat = 0 from rfl] at hx107_4); (try rw [show 0 * 5 = 0 from rfl] at hx107_4); (try rw [Addr.add_zero'] at hx107_4); replace p107 := eq_true p107; replace q107 := eq_true q107; have p108 : 0 ≤ (4 : Int) := (by omega); have q108 : 4 < (t101.length : Int) := of_decide_eq_true (by first | (with_reducible assumption) | assumption); obtain ⟨ad108, e108, hx108_0, hx108_1, hx108_2, hx108_3, hx108_4⟩ := at_T26 (Kd.R_reads' HO103.out).2.2 4 p108 q108; (try rw [← Nbq10.out] at hx108_3); (try rw [← Nbq10.out] at hx108_4); obtain rfl : ad107 = ad108 := (by injection e108); (try simp only [show (4 : Int).toNat = 4 from rfl, Nat.reduceMul, Nat.reduceEqDiff, Go.Addr.add, ↓reduceIte] at hx108_0); (try simp only [show (4 : Int).toNat = 4 from rfl, Nat.reduceMul, Nat.reduceEqDiff, Go.Addr.add, ↓reduceIte] at hx108_1); (try simp only [show (4 : Int).toNat = 4 from rfl, Nat.reduceMul, Nat.reduceEqDiff, Go.Addr.add, ↓reduceIte] at hx108_2); (try simp only [show (4 : Int).toNat = 4 from rfl, Nat.reduceMul, Nat.reduceEqDiff, Go.Addr.add, ↓reduceIte] at hx108_3); (try simp only [show (4 : Int).toNat = 4 from rfl, Nat.reduceMul, Nat.reduceEqDiff, Go.Addr.add, ↓reduceIte] at hx108_4); have qi108 : (4 < t101.length) = True := eq_true (by omega); (try rw [show ((4 : Int)).toNat = 4 from rfl] at hx108_0); (try rw [show 4 * 5 = 20 from rfl] at hx108_0); (try rw [show ((4 : Int)).toNat = 4 from rfl] at hx108_1); (try rw [show 4 * 5 = 20 from rfl] at hx108_1); (try rw [show ((4 : Int)).toNat = 4 from rfl] at hx108_2); (try rw [show 4 * 5 = 20 from rfl] at hx108_2); (try rw [show ((4 : Int)).toNat = 4 from rfl] at hx108_3); (try rw [show 4 * 5 = 20 from rfl] at hx108_3); (try rw [show ((4 : Int)).toNat = 4 from rfl] at hx108_4); (try rw [show 4 * 5 = 20 from rfl] at hx108_4); replace p108 := eq_true p108; replace q108 := eq_true q108; have p109 : 0 ≤ (4 : Int) := (by omega); have q109 : 4 < (t101.length : Int) := of_decide_eq_true (by first | (with_reducible assumption) | assumption); obtain ⟨ad109, e109, hx109_0, hx109_1, hx109_2, hx109_3, hx109_4⟩ := at_T26 (Kd.R_reads' HO103.out).2.2 4 p109 q109; (try rw [← Nbq10.out] at hx109_3); (try rw [← Nbq10.out] at hx109_4); obtain rfl : ad107 = ad109 := (by injection e109); (try simp only [show (4 : Int).toNat = 4 from rfl, Nat.reduceMul, Nat.reduceEqDiff, Go.Addr.add, ↓reduceIte] at hx109_0); (try simp only [show (4 : Int).toNat = 4 from rfl, Nat.reduceMul, Nat.reduceEqDiff, Go.Addr.add, ↓reduceIte] at hx109_1); (try simp only [show (4 : Int).toNat = 4 from rfl, Nat.reduceMul, Nat.reduceEqDiff, Go.Addr.add, ↓reduceIte] at hx109_2); (try simp only [show (4 : Int).toNat = 4 from rfl, Nat.reduceMul, Nat.reduceEqDiff, Go.Addr.add, ↓reduceIte] at hx109_3); (try simp only [show (4 : Int).toNat = 4 from rfl, Nat.reduceMul, Nat.reduceEqDiff, Go.Addr.add, ↓reduceIte] at hx109_4); have qi109 : (4 < t101.length) = True := eq_true (by omega); (try rw [show ((4 : Int)).toNat = 4 from rfl] at hx109_0); (try rw [show 4 * 5 = 20 from rfl] at hx109_0); (try rw [show ((4 : Int)).toNat = 4 from rfl] at hx109_1); (try rw [show 4 * 5 = 20 from rfl] at hx109_1); (try rw [show ((4 : Int)).toNat = 4 from rfl] at hx109_2); (try rw [show 4 * 5 = 20 from rfl] at hx109_2); (try rw [show ((4 : Int)).toNat = 4 from rfl] at hx109_3); (try rw [show 4 * 5 = 20 from rfl] at hx109_3); (try rw [show ((4 : Int)).toNat = 4 from rfl] at hx109_4); (try rw [show 4 * 5 = 20 from rfl] at hx109_4); replace p109 := eq_true p109; replace q109 := eq_true q109; have p110 : 0 ≤ (4 : Int) := (by omega); have q110 : 4 < (t101.length : Int) := of_decide_eq_true (by first | (with_reducible assumption) | assumption); obtain ⟨ad110, e110, hx110_0, hx110_1, hx110_2, hx110_3, hx110_4⟩ := at_T26 (Kd.R_reads' HO103.out).2.2 4 p110 q110; (try rw [← Nbq10.out] at hx110_3); (try rw [← Nbq10.out] at hx110_4); obtain rfl : ad107 = ad110 := (by injection e110); (try simp only [show (4 : Int).toNat = 4 from rfl, Nat.reduceMul, Nat.reduceEqDiff, Go.Addr.add, ↓reduceIte] at hx110_0); (try simp only [show (4 : Int).toNat = 4 from rfl, Nat.reduceMul, Nat.reduceEqDiff, Go.Addr.add, ↓reduceIte] at hx110_1); (try simp only [show (4 : Int).toNat = 4 from rfl, Nat.reduceMul, Nat.reduceEqDiff, Go.Addr.add, ↓reduceIte] at hx110_2); (try simp only [show (4 : Int).toNat = 4 from rfl, Nat.reduceMul, Nat.reduceEqDiff, Go.Addr.add, ↓reduceIte] at hx110_3); (try simp only [show (4 : Int).toNat = 4 from rfl, Nat.reduceMul, Nat.reduceEqDiff, Go.Addr.add, ↓reduceIte] at hx110_4); have qi110 : (4 < t101.length) = True := eq_true (by omega); (try rw [show ((4 : Int)).toNat = 4 from rfl] at hx110_0); (try rw [show 4 * 5 = 20 from rfl] at hx110_0); (try rw [show ((4 : Int)).toNat = 4 from rfl] at hx110_1); (try rw [show 4 * 5 = 20 from rfl] at hx110_1); (try rw [show ((4 : Int)).toNat = 4 from rfl] at hx110_2); (try rw [show 4 * 5 = 20 from rfl] at hx110_2); (try rw [show ((4 : Int)).toNat = 4 from rfl] at hx110_3); (try rw [show 4 * 5 = 20 from rfl] at hx110_3); (try rw [show ((4 : Int)).toNat = 4 from rfl] at hx110_4); (try rw [show 4 * 5 = 20 from rfl] at hx110_4); replace p110 := eq_true p110; replace q110 := eq_true q110; have p111 : 0 ≤ (4 : Int) := (by omega); have q111 : 4 < (t101.length : Int) := of_decide_eq_true (by first | (with_reducible assumption) | assumption); obtain ⟨ad111, e111, hx111_0, hx111_1, hx111_2, hx111_3, hx111_4⟩ := at_T26 (Kd.R_reads' HO103.out).2.2 4 p111 q111; (try rw [← Nbq10.out] at hx111_3); (try rw [← Nbq10.out] at hx111_4); obtain rfl : ad107 = ad111 := (by injection e111); (try simp only [show (4 : Int).toNat = 4 from rfl, Nat.reduceMul, Nat.reduceEqDiff, Go.Addr.add, ↓reduceIte] at hx111_0); (try simp only [show (4 : Int).toNat = 4 from rfl, Nat.reduceMul, Nat.reduceEqDiff, Go.Addr.add, ↓reduceIte] at hx111_1); (try simp only [show (4 : Int).toNat = 4 from rfl, Nat.reduceMul, Nat.reduceEqDiff, Go.Addr.add, ↓reduceIte] at hx111_2); (try simp only [show (4 : Int).toNat = 4 from rfl, Nat.reduceMul, Nat.reduceEqDiff, Go.Addr.add, ↓reduceIte] at hx111_3); (try simp only [show (4 : Int).toNat = 4 from rfl, Nat.reduceMul, Nat.reduceEqDiff, Go.Addr.add, ↓reduceIte] at hx111_4); have qi111 : (4 < t101.length) = True := eq_true (by omega); (try rw [show ((4 : Int)).toNat = 4 from rfl] at hx111_0); (try rw [show 4 * 5 = 20 from rfl] at hx111_0); (try rw [show ((4 : Int)).toNat = 4 from rfl] at hx111_1); (try rw [show 4 * 5 = 20 from rfl] at hx111_1); (try rw [show ((4 : Int)).toNat = 4 from rfl] at hx111_2); (try rw [show 4 * 5 = 20 from rfl] at hx111_2); (try rw [show ((4 : Int)).toNat = 4 from rfl] at hx111_3); (try rw [show 4 * 5 = 20 from rfl] at hx111_3); (try rw [show ((4 : Int)).toNat = 4 from rfl] at hx111_4); (try rw [show 4 * 5 = 20 from rfl] at hx111_4); replace p111 := eq_true p111; replace q111 := eq_true q111))
                  go_ret
                  exact ⟨by first | rfl | (simp [errW_none, errW_some] <;> rfl) | (simp [*, errW_none, errW_some] <;> rfl), by repeat (first | (with_reducible first | exact HB.out | apply below_alloc | apply pw_below_drewN | apply below_drew1) | exact HB.out)⟩
                · replace c11 := Bool.eq_false_iff.mpr c11
                  subst c11
                  have H1 : (if (t104.length : Int) = 2 then (if 0 < (t104.length : Int) then (if ((rd_T26 t104 0).f0) = 6 then (if 1 < (t104.length : Int) then (if ((rd_T26 t104 1).f0) = 13 then ((token_Escape.f (⟨#[49]⟩ : ByteArray)).bind fun t114 => (some (t114.toList == ([92, 51, 49, 32] : List UInt8)))) else (some false)) else (none)) else (some false)) else (none)) else (some false)) = some r := by rw [if_neg (show ¬ (false = true) by decide)] at H; exact H
                  clear H
                  have H := H1
                  clear H1
                  by_cases c15 : (t104.length : Int) = 2
                  · rw [if_pos c15] at H
                    have c15b0 : ((t104.length : Int) == 2) = true := beq_iff_eq.mpr c15
                    have c15b1 : ((t104.length : Int) != 2) = false := bne_eq_false_iff_eq.mpr c15
                    clear c15
                    by_cases c16 : 0 < (t104.length : Int)
                    · rw [if_pos c16] at H
                      have c16b0 : decide (0 < (t104.length : Int)) = true := decide_eq_true c16
                      have c16b1 : decide (0 < t104.length) = true := decide_eq_true (by omega)
                      clear c16
                      by_cases c17 : ((rd_T26 t104 0).f0) = 6
                      · rw [if_pos c17] at H
                        have c17b0 : (((rd_T26 t104 0).f0) == 6) = true := beq_iff_eq.mpr c17
                        have c17b1 : (((rd_T26 t104 0).f0) != 6) = false := bne_eq_false_iff_eq.mpr c17
                        clear c17
                        by_cases c18 : 1 < (t104.length : Int)
                        · rw [if_pos c18] at H
                          have c18b0 : decide (1 < (t104.length : Int)) = true := decide_eq_true c18
                          have c18b1 : decide (1 < t104.length) = true := decide_eq_true (by omega)
                          clear c18
                          by_cases c19 : ((rd_T26 t104 1).f0) = 13
                          · rw [if_pos c19] at H
                            have c19b0 : (((rd_T26 t104 1).f0) == 13) = true := beq_iff_eq.mpr c19
                            have c19b1 : (((rd_T26 t104 1).f0) != 13) = false := bne_eq_false_iff_eq.mpr c19
                            clear c19
                            replace H := Option.bind_eq_some_iff.mp H
                            obtain ⟨t114, A200, H⟩ := H
                            replace H : (some (t114.toList == ([92, 51, 49, 32] : List UInt8))) = some r := H
                            have A20 := Aside0.mk A200
                            clear A200
                            obtain rfl := Option.some.inj H
                            go_enter Tryd.func9, Tryd.ntmps9
                            go_wp2_with (first | ((with_reducible refine gate_callee (f := 10) rfl ?_); refine goesL_ (some 3) rfl rfl Tryd.func10 (by kernel_rfl) rfl #[.string (⟨#[97, 123, 98, 58, 49, 46, 53, 101, 109, 125]⟩ : ByteArray)] rfl (by (try simp only [List.map_toArray, List.map_cons, List.map_nil]); first | done | rfl | (simp only [List.length_drop, List.length_take]; rfl)) ?_; (with_reducible refine (gouachelaw02_cut.calls (⟨#[97, 123, 98, 58, 49, 46, 53, 101, 109, 125]⟩ : ByteArray) t101 _ A1.out).mono ?_); rintro e w21 ⟨v102, rfl, ho0, hb⟩; refine ⟨_, rfl, ?_⟩; have n0_ := Aside0.mk (Kd.R_lower ho0 (below_size (by repeat (first | (with_reducible first | exact HB.out | apply below_alloc | apply pw_below_drewN | apply below_drew1) | exact HB.out)))); have n1_ := Aside0.mk (below_step (by repeat (first | (with_reducible first | exact HB.out | apply below_alloc | apply pw_below_drewN | apply below_drew1) | exact HB.out)) hb); clear HB; have HO103 := n0_; have HB := n1_; clear n0_ n1_; (try clear hb); (try clear hb2); (try clear hk); (try clear hi); (try clear ho0)) | ((with_reducible refine gate_callee (f := 10) rfl ?_); refine goesL_ (some 4) rfl rfl Tryd.func10 (by kernel_rfl) rfl #[.string (⟨#[34, 97, 10]⟩ : ByteArray)] rfl (by (try simp only [List.map_toArray, List.map_cons, List.map_nil]); first | done | rfl | (simp only [List.length_drop, List.length_take]; rfl)) ?_; (with_reducible refine (gouachelaw02_cut.calls (⟨#[34, 97, 10]⟩ : ByteArray) t104 _ A2.out).mono ?_); rintro e w22 ⟨v105, rfl, ho0, hb⟩; refine ⟨_, rfl, ?_⟩; have n0_ := Aside0.mk (Kd.R_elder' (by (with_reducible repeat (first | apply Kd.R_alloc | apply Kd.R_drewN | apply Kd.R_drew)); exact HO103.out) (Kd.R_base ho0) hb); have n1_ := Aside0.mk (Kd.R_lower (Kd.R_new' ho0 (Kd.R_lt (by (with_reducible repeat (first | apply Kd.R_alloc | apply Kd.R_drewN | apply Kd.R_drew)); exact HO103.out))) (below_size (by repeat (first | (with_reducible first | exact HB.out | apply below_alloc | apply pw_below_drewN | apply below_drew1) | exact HB.out)))); have n2_ := Aside0.mk (below_step (by repeat (first | (with_reducible first | exact HB.out | apply below_alloc | apply pw_below_drewN | apply below_drew1) | exact HB.out)) hb); clear HO103; clear HB; have HO103 := n0_; have HO106 := n1_; have HB := n2_; clear n0_ n1_ n2_; (try clear hb); (try clear hb2); (try clear hk); (try clear hi); (try clear ho0); obtain ⟨Ao23, co23, eo23⟩ := Kd.R_slice HO103.out; subst eo23; have p107 : 0 ≤ (0 : Int) := (by omega); have q107 : 0 < (t101.length : Int) := of_decide_eq_true (by first | (with_reducible assumption) | assumption); obtain ⟨ad107, e107, hx107_0, hx107_1, hx107_2, hx107_3, hx107_4⟩ := at_T26 (Kd.R_reads' HO103.out).2.2 0 p107 q107; (try rw [← Nbq10.out] at hx107_3); (try rw [← Nbq10.out] at hx107_4); cases e107; have qi107 : (0 < t101.length) = True := eq_true (by omega); (try rw [show ((0 : Int)).toNat = 0 from rfl] at hx107_0); (try rw [show 0 * 5 = 0 from rfl] at hx107_0); (try rw [Addr.add_zero'] at hx107_0); (try rw [show ((0 : Int)).toNat = 0 from rfl] at hx107_1); (try rw [show 0 * 5 = 0 from rfl] at hx107_1); (try rw [Addr.add_zero'] at hx107_1); (try rw [show ((0 : Int)).toNat = 0 from rfl] at hx107_2); (try rw [show 0 * 5 = 0 from rfl] at hx107_2); (try rw [Addr.add_zero'] at hx107_2); (try rw [show ((0 : Int)).toNat = 0 from rfl] at hx107_3); (try rw [show 0 * 5 = 0 from rfl] at hx107_3); (try rw [Addr.add_zero'] at hx107_3); (try rw [show ((0 : Int)).toNat = 0 from rfl] at hx107_4); (try rw [show 0 * 5 = 0 from rfl] at hx107_4); (try rw [Addr.add_zero'] at hx107_4); replace p107 := eq_true p107; replace q107 := eq_true q107; have p108 : 0 ≤ (4 : Int) := (by omega); have q108 : 4 < (t101.length : Int) := of_decide_eq_true (by first | (with_reducible assumption) | assumption); obtain ⟨ad108, e108, hx108_0, hx108_1, hx108_2, hx108_3, hx108_4⟩ := at_T26 (Kd.R_reads' HO103.out).2.2 4 p108 q108; (try rw [← Nbq10.out] at hx108_3); (try rw [← Nbq10.out] at hx108_4); obtain rfl : ad107 = ad108 := (by injection e108); (try simp only [show (4 : Int).toNat = 4 from rfl, Nat.reduceMul, Nat.reduceEqDiff, Go.Addr.add, ↓reduceIte] at hx108_0); (try simp only [show (4 : Int).toNat = 4 from rfl, Nat.reduceMul, Nat.reduceEqDiff, Go.Addr.add, ↓reduceIte] at hx108_1); (try simp only [show (4 : Int).toNat = 4 from rfl, Nat.reduceMul, Nat.reduceEqDiff, Go.Addr.add, ↓reduceIte] at hx108_2); (try simp only [show (4 : Int).toNat = 4 from rfl, Nat.reduceMul, Nat.reduceEqDiff, Go.Addr.add, ↓reduceIte] at hx108_3); (try simp only [show (4 : Int).toNat = 4 from rfl, Nat.reduceMul, Nat.reduceEqDiff, Go.Addr.add, ↓reduceIte] at hx108_4); have qi108 : (4 < t101.length) = True := eq_true (by omega); (try rw [show ((4 : Int)).toNat = 4 from rfl] at hx108_0); (try rw [show 4 * 5 = 20 from rfl] at hx108_0); (try rw [show ((4 : Int)).toNat = 4 from rfl] at hx108_1); (try rw [show 4 * 5 = 20 from rfl] at hx108_1); (try rw [show ((4 : Int)).toNat = 4 from rfl] at hx108_2); (try rw [show 4 * 5 = 20 from rfl] at hx108_2); (try rw [show ((4 : Int)).toNat = 4 from rfl] at hx108_3); (try rw [show 4 * 5 = 20 from rfl] at hx108_3); (try rw [show ((4 : Int)).toNat = 4 from rfl] at hx108_4); (try rw [show 4 * 5 = 20 from rfl] at hx108_4); replace p108 := eq_true p108; replace q108 := eq_true q108; have p109 : 0 ≤ (4 : Int) := (by omega); have q109 : 4 < (t101.length : Int) := of_decide_eq_true (by first | (with_reducible assumption) | assumption); obtain ⟨ad109, e109, hx109_0, hx109_1, hx109_2, hx109_3, hx109_4⟩ := at_T26 (Kd.R_reads' HO103.out).2.2 4 p109 q109; (try rw [← Nbq10.out] at hx109_3); (try rw [← Nbq10.out] at hx109_4); obtain rfl : ad107 = ad109 := (by injection e109); (try simp only [show (4 : Int).toNat = 4 from rfl, Nat.reduceMul, Nat.reduceEqDiff, Go.Addr.add, ↓reduceIte] at hx109_0); (try simp only [show (4 : Int).toNat = 4 from rfl, Nat.reduceMul, Nat.reduceEqDiff, Go.Addr.add, ↓reduceIte] at hx109_1); (try simp only [show (4 : Int).toNat = 4 from rfl, Nat.reduceMul, Nat.reduceEqDiff, Go.Addr.add, ↓reduceIte] at hx109_2); (try simp only [show (4 : Int).toNat = 4 from rfl, Nat.reduceMul, Nat.reduceEqDiff, Go.Addr.add, ↓reduceIte] at hx109_3); (try simp only [show (4 : Int).toNat = 4 from rfl, Nat.reduceMul, Nat.reduceEqDiff, Go.Addr.add, ↓reduceIte] at hx109_4); have qi109 : (4 < t101.length) = True := eq_true (by omega); (try rw [show ((4 : Int)).toNat = 4 from rfl] at hx109_0); (try rw [show 4 * 5 = 20 from rfl] at hx109_0); (try rw [show ((4 : Int)).toNat = 4 from rfl] at hx109_1); (try rw [show 4 * 5 = 20 from rfl] at hx109_1); (try rw [show ((4 : Int)).toNat = 4 from rfl] at hx109_2); (try rw [show 4 * 5 = 20 from rfl] at hx109_2); (try rw [show ((4 : Int)).toNat = 4 from rfl] at hx109_3); (try rw [show 4 * 5 = 20 from rfl] at hx109_3); (try rw [show ((4 : Int)).toNat = 4 from rfl] at hx109_4); (try rw [show 4 * 5 = 20 from rfl] at hx109_4); replace p109 := eq_true p109; replace q109 := eq_true q109; have p110 : 0 ≤ (4 : Int) := (by omega); have q110 : 4 < (t101.length : Int) := of_decide_eq_true (by first | (with_reducible assumption) | assumption); obtain ⟨ad110, e110, hx110_0, hx110_1, hx110_2, hx110_3, hx110_4⟩ := at_T26 (Kd.R_reads' HO103.out).2.2 4 p110 q110; (try rw [← Nbq10.out] at hx110_3); (try rw [← Nbq10.out] at hx110_4); obtain rfl : ad107 = ad110 := (by injection e110); (try simp only [show (4 : Int).toNat = 4 from rfl, Nat.reduceMul, Nat.reduceEqDiff, Go.Addr.add, ↓reduceIte] at hx110_0); (try simp only [show (4 : Int).toNat = 4 from rfl, Nat.reduceMul, Nat.reduceEqDiff, Go.Addr.add, ↓reduceIte] at hx110_1); (try simp only [show (4 : Int).toNat = 4 from rfl, Nat.reduceMul, Nat.reduceEqDiff, Go.Addr.add, ↓reduceIte] at hx110_2); (try simp only [show (4 : Int).toNat = 4 from rfl, Nat.reduceMul, Nat.reduceEqDiff, Go.Addr.add, ↓reduceIte] at hx110_3); (try simp only [show (4 : Int).toNat = 4 from rfl, Nat.reduceMul, Nat.reduceEqDiff, Go.Addr.add, ↓reduceIte] at hx110_4); have qi110 : (4 < t101.length) = True := eq_true (by omega); (try rw [show ((4 : Int)).toNat = 4 from rfl] at hx110_0); (try rw [show 4 * 5 = 20 from rfl] at hx110_0); (try rw [show ((4 : Int)).toNat = 4 from rfl] at hx110_1); (try rw [show 4 * 5 = 20 from rfl] at hx110_1); (try rw [show ((4 : Int)).toNat = 4 from rfl] at hx110_2); (try rw [show 4 * 5 = 20 from rfl] at hx110_2); (try rw [show ((4 : Int)).toNat = 4 from rfl] at hx110_3); (try rw [show 4 * 5 = 20 from rfl] at hx110_3); (try rw [show ((4 : Int)).toNat = 4 from rfl] at hx110_4); (try rw [show 4 * 5 = 20 from rfl] at hx110_4); replace p110 := eq_true p110; replace q110 := eq_true q110; have p111 : 0 ≤ (4 : Int) := (by omega); have q111 : 4 < (t101.length : Int) := of_decide_eq_true (by first | (with_reducible assumption) | assumption); obtain ⟨ad111, e111, hx111_0, hx111_1, hx111_2, hx111_3, hx111_4⟩ := at_T26 (Kd.R_reads' HO103.out).2.2 4 p111 q111; (try rw [← Nbq10.out] at hx111_3); (try rw [← Nbq10.out] at hx111_4); obtain rfl : ad107 = ad111 := (by injection e111); (try simp only [show (4 : Int).toNat = 4 from rfl, Nat.reduceMul, Nat.reduceEqDiff, Go.Addr.add, ↓reduceIte] at hx111_0); (try simp only [show (4 : Int).toNat = 4 from rfl, Nat.reduceMul, Nat.reduceEqDiff, Go.Addr.add, ↓reduceIte] at hx111_1); (try simp only [show (4 : Int).toNat = 4 from rfl, Nat.reduceMul, Nat.reduceEqDiff, Go.Addr.add, ↓reduceIte] at hx111_2); (try simp only [show (4 : Int).toNat = 4 from rfl, Nat.reduceMul, Nat.reduceEqDiff, Go.Addr.add, ↓reduceIte] at hx111_3); (try simp only [show (4 : Int).toNat = 4 from rfl, Nat.reduceMul, Nat.reduceEqDiff, Go.Addr.add, ↓reduceIte] at hx111_4); have qi111 : (4 < t101.length) = True := eq_true (by omega); (try rw [show ((4 : Int)).toNat = 4 from rfl] at hx111_0); (try rw [show 4 * 5 = 20 from rfl] at hx111_0); (try rw [show ((4 : Int)).toNat = 4 from rfl] at hx111_1); (try rw [show 4 * 5 = 20 from rfl] at hx111_1); (try rw [show ((4 : Int)).toNat = 4 from rfl] at hx111_2); (try rw [show 4 * 5 = 20 from rfl] at hx111_2); (try rw [show ((4 : Int)).toNat = 4 from rfl] at hx111_3); (try rw [show 4 * 5 = 20 from rfl] at hx111_3); (try rw [show ((4 : Int)).toNat = 4 from rfl] at hx111_4); (try rw [show 4 * 5 = 20 from rfl] at hx111_4); replace p111 := eq_true p111; replace q111 := eq_true q111; obtain ⟨Ao24, co24, eo24⟩ := Kd.R_slice HO106.out; subst eo24; have p112 : 0 ≤ (0 : Int) := (by omega); have q112 : 0 < (t104.length : Int) := of_decide_eq_true (by first | (with_reducible assumption) | assumption); obtain ⟨ad112, e112, hx112_0, hx112_1, hx112_2, hx112_3, hx112_4⟩ := at_T26 (Kd.R_reads' HO106.out).2.2 0 p112 q112; (try rw [← Nbq10.out] at hx112_3); (try rw [← Nbq10.out] at hx112_4); cases e112; have qi112 : (0 < t104.length) = True := eq_true (by omega); (try rw [show ((0 : Int)).toNat = 0 from rfl] at hx112_0); (try rw [show 0 * 5 = 0 from rfl] at hx112_0); (try rw [Addr.add_zero'] at hx112_0); (try rw [show ((0 : Int)).toNat = 0 from rfl] at hx112_1); (try rw [show 0 * 5 = 0 from rfl] at hx112_1); (try rw [Addr.add_zero'] at hx112_1); (try rw [show ((0 : Int)).toNat = 0 from rfl] at hx112_2); (try rw [show 0 * 5 = 0 from rfl] at hx112_2); (try rw [Addr.add_zero'] at hx112_2); (try rw [show ((0 : Int)).toNat = 0 from rfl] at hx112_3); (try rw [show 0 * 5 = 0 from rfl] at hx112_3); (try rw [Addr.add_zero'] at hx112_3); (try rw [show ((0 : Int)).toNat = 0 from rfl] at hx112_4); (try rw [show 0 * 5 = 0 from rfl] at hx112_4); (try rw [Addr.add_zero'] at hx112_4); replace p112 := eq_true p112; replace q112 := eq_true q112; have p113 : 0 ≤ (1 : Int) := (by omega); have q113 : 1 < (t104.length : Int) := of_decide_eq_true (by first | (with_reducible assumption) | assumption); obtain ⟨ad113, e113, hx113_0, hx113_1, hx113_2, hx113_3, hx113_4⟩ := at_T26 (Kd.R_reads' HO106.out).2.2 1 p113 q113; (try rw [← Nbq10.out] at hx113_3); (try rw [← Nbq10.out] at hx113_4); obtain rfl : ad112 = ad113 := (by injection e113); (try simp only [show (1 : Int).toNat = 1 from rfl, Nat.reduceMul, Nat.reduceEqDiff, Go.Addr.add, ↓reduceIte] at hx113_0); (try simp only [show (1 : Int).toNat = 1 from rfl, Nat.reduceMul, Nat.reduceEqDiff, Go.Addr.add, ↓reduceIte] at hx113_1); (try simp only [show (1 : Int).toNat = 1 from rfl, Nat.reduceMul, Nat.reduceEqDiff, Go.Addr.add, ↓reduceIte] at hx113_2); (try simp only [show (1 : Int).toNat = 1 from rfl, Nat.reduceMul, Nat.reduceEqDiff, Go.Addr.add, ↓reduceIte] at hx113_3); (try simp only [show (1 : Int).toNat = 1 from rfl, Nat.reduceMul, Nat.reduceEqDiff, Go.Addr.add, ↓reduceIte] at hx113_4); have qi113 : (1 < t104.length) = True := eq_true (by omega); (try rw [show ((1 : Int)).toNat = 1 from rfl] at hx113_0); (try rw [show 1 * 5 = 5 from rfl] at hx113_0); (try rw [show ((1 : Int)).toNat = 1 from rfl] at hx113_1); (try rw [show 1 * 5 = 5 from rfl] at hx113_1); (try rw [show ((1 : Int)).toNat = 1 from rfl] at hx113_2); (try rw [show 1 * 5 = 5 from rfl] at hx113_2); (try rw [show ((1 : Int)).toNat = 1 from rfl] at hx113_3); (try rw [show 1 * 5 = 5 from rfl] at hx113_3); (try rw [show ((1 : Int)).toNat = 1 from rfl] at hx113_4); (try rw [show 1 * 5 = 5 from rfl] at hx113_4); replace p113 := eq_true p113; replace q113 := eq_true q113) | (go_at_call 14; (with_reducible refine (token_Escape.calls (⟨#[49]⟩ : ByteArray) t114 _ A20.out (HT.out.below (by repeat (first | (with_reducible first | exact HB.out | apply below_alloc | apply pw_below_drewN | apply below_drew1) | exact HB.out)))).mono ?_); rintro e w25 ⟨rfl, hb⟩; have n0_ := Aside0.mk (Kd.R_below (by (with_reducible repeat (first | apply Kd.R_alloc | apply Kd.R_drewN | apply Kd.R_drew)); exact HO103.out) hb); have n1_ := Aside0.mk (Kd.R_below (by (with_reducible repeat (first | apply Kd.R_alloc | apply Kd.R_drewN | apply Kd.R_drew)); exact HO106.out) hb); have n2_ := Aside0.mk (below_step (by repeat (first | (with_reducible first | exact HB.out | apply below_alloc | apply pw_below_drewN | apply below_drew1) | exact HB.out)) hb); clear HO103; clear HO106; clear HB; have HO103 := n0_; have HO106 := n1_; have HB := n2_; clear n0_ n1_ n2_; (try clear hb); (try clear hb2); (try clear hk); (try clear hi)))
                            go_ret
                            exact ⟨by first | rfl | (simp [errW_none, errW_some] <;> rfl) | (simp [*, errW_none, errW_some] <;> rfl), by repeat (first | (with_reducible first | exact HB.out | apply below_alloc | apply pw_below_drewN | apply below_drew1) | exact HB.out)⟩
                          · rw [if_neg c19] at H
                            have c19b0 : (((rd_T26 t104 1).f0) == 13) = false := beq_eq_false_iff_ne.mpr c19
                            have c19b1 : (((rd_T26 t104 1).f0) != 13) = true := bne_iff_ne.mpr c19
                            obtain rfl := Option.some.inj H
                            go_enter Tryd.func9, Tryd.ntmps9
                            go_wp2_with (first | ((with_reducible refine gate_callee (f := 10) rfl ?_); refine goesL_ (some 3) rfl rfl Tryd.func10 (by kernel_rfl) rfl #[.string (⟨#[97, 123, 98, 58, 49, 46, 53, 101, 109, 125]⟩ : ByteArray)] rfl (by (try simp only [List.map_toArray, List.map_cons, List.map_nil]); first | done | rfl | (simp only [List.length_drop, List.length_take]; rfl)) ?_; (with_reducible refine (gouachelaw02_cut.calls (⟨#[97, 123, 98, 58, 49, 46, 53, 101, 109, 125]⟩ : ByteArray) t101 _ A1.out).mono ?_); rintro e w26 ⟨v102, rfl, ho0, hb⟩; refine ⟨_, rfl, ?_⟩; have n0_ := Aside0.mk (Kd.R_lower ho0 (below_size (by repeat (first | (with_reducible first | exact HB.out | apply below_alloc | apply pw_below_drewN | apply below_drew1) | exact HB.out)))); have n1_ := Aside0.mk (below_step (by repeat (first | (with_reducible first | exact HB.out | apply below_alloc | apply pw_below_drewN | apply below_drew1) | exact HB.out)) hb); clear HB; have HO103 := n0_; have HB := n1_; clear n0_ n1_; (try clear hb); (try clear hb2); (try clear hk); (try clear hi); (try clear ho0)) | ((with_reducible refine gate_callee (f := 10) rfl ?_); refine goesL_ (some 4) rfl rfl Tryd.func10 (by kernel_rfl) rfl #[.string (⟨#[34, 97, 10]⟩ : ByteArray)] rfl (by (try simp only [List.map_toArray, List.map_cons, List.map_nil]); first | done | rfl | (simp only [List.length_drop, List.length_take]; rfl)) ?_; (with_reducible refine (gouachelaw02_cut.calls (⟨#[34, 97, 10]⟩ : ByteArray) t104 _ A2.out).mono ?_); rintro e w27 ⟨v105, rfl, ho0, hb⟩; refine ⟨_, rfl, ?_⟩; have n0_ := Aside0.mk (Kd.R_elder' (by (with_reducible repeat (first | apply Kd.R_alloc | apply Kd.R_drewN | apply Kd.R_drew)); exact HO103.out) (Kd.R_base ho0) hb); have n1_ := Aside0.mk (Kd.R_lower (Kd.R_new' ho0 (Kd.R_lt (by (with_reducible repeat (first | apply Kd.R_alloc | apply Kd.R_drewN | apply Kd.R_drew)); exact HO103.out))) (below_size (by repeat (first | (with_reducible first | exact HB.out | apply below_alloc | apply pw_below_drewN | apply below_drew1) | exact HB.out)))); have n2_ := Aside0.mk (below_step (by repeat (first | (with_reducible first | exact HB.out | apply below_alloc | apply pw_below_drewN | apply below_drew1) | exact HB.out)) hb); clear HO103; clear HB; have HO103 := n0_; have HO106 := n1_; have HB := n2_; clear n0_ n1_ n2_; (try clear hb); (try clear hb2); (try clear hk); (try clear hi); (try clear ho0); obtain ⟨Ao28, co28, eo28⟩ := Kd.R_slice HO103.out; subst eo28; have p107 : 0 ≤ (0 : Int) := (by omega); have q107 : 0 < (t101.length : Int) := of_decide_eq_true (by first | (with_reducible assumption) | assumption); obtain ⟨ad107, e107, hx107_0, hx107_1, hx107_2, hx107_3, hx107_4⟩ := at_T26 (Kd.R_reads' HO103.out).2.2 0 p107 q107; (try rw [← Nbq10.out] at hx107_3); (try rw [← Nbq10.out] at hx107_4); cases e107; have qi107 : (0 < t101.length) = True := eq_true (by omega); (try rw [show ((0 : Int)).toNat = 0 from rfl] at hx107_0); (try rw [show 0 * 5 = 0 from rfl] at hx107_0); (try rw [Addr.add_zero'] at hx107_0); (try rw [show ((0 : Int)).toNat = 0 from rfl] at hx107_1); (try rw [show 0 * 5 = 0 from rfl] at hx107_1); (try rw [Addr.add_zero'] at hx107_1); (try rw [show ((0 : Int)).toNat = 0 from rfl] at hx107_2); (try rw [show 0 * 5 = 0 from rfl] at hx107_2); (try rw [Addr.add_zero'] at hx107_2); (try rw [show ((0 : Int)).toNat = 0 from rfl] at hx107_3); (try rw [show 0 * 5 = 0 from rfl] at hx107_3); (try rw [Addr.add_zero'] at hx107_3); (try rw [show ((0 : Int)).toNat = 0 from rfl] at hx107_4); (try rw [show 0 * 5 = 0 from rfl] at hx107_4); (try rw [Addr.add_zero'] at hx107_4); replace p107 := eq_true p107; replace q107 := eq_true q107; have p108 : 0 ≤ (4 : Int) := (by omega); have q108 : 4 < (t101.length : Int) := of_decide_eq_true (by first | (with_reducible assumption) | assumption); obtain ⟨ad108, e108, hx108_0, hx108_1, hx108_2, hx108_3, hx108_4⟩ := at_T26 (Kd.R_reads' HO103.out).2.2 4 p108 q108; (try rw [← Nbq10.out] at hx108_3); (try rw [← Nbq10.out] at hx108_4); obtain rfl : ad107 = ad108 := (by injection e108); (try simp only [show (4 : Int).toNat = 4 from rfl, Nat.reduceMul, Nat.reduceEqDiff, Go.Addr.add, ↓reduceIte] at hx108_0); (try simp only [show (4 : Int).toNat = 4 from rfl, Nat.reduceMul, Nat.reduceEqDiff, Go.Addr.add, ↓reduceIte] at hx108_1); (try simp only [show (4 : Int).toNat = 4 from rfl, Nat.reduceMul, Nat.reduceEqDiff, Go.Addr.add, ↓reduceIte] at hx108_2); (try simp only [show (4 : Int).toNat = 4 from rfl, Nat.reduceMul, Nat.reduceEqDiff, Go.Addr.add, ↓reduceIte] at hx108_3); (try simp only [show (4 : Int).toNat = 4 from rfl, Nat.reduceMul, Nat.reduceEqDiff, Go.Addr.add, ↓reduceIte] at hx108_4); have qi108 : (4 < t101.length) = True := eq_true (by omega); (try rw [show ((4 : Int)).toNat = 4 from rfl] at hx108_0); (try rw [show 4 * 5 = 20 from rfl] at hx108_0); (try rw [show ((4 : Int)).toNat = 4 from rfl] at hx108_1); (try rw [show 4 * 5 = 20 from rfl] at hx108_1); (try rw [show ((4 : Int)).toNat = 4 from rfl] at hx108_2); (try rw [show 4 * 5 = 20 from rfl] at hx108_2); (try rw [show ((4 : Int)).toNat = 4 from rfl] at hx108_3); (try rw [show 4 * 5 = 20 from rfl] at hx108_3); (try rw [show ((4 : Int)).toNat = 4 from rfl] at hx108_4); (try rw [show 4 * 5 = 20 from rfl] at hx108_4); replace p108 := eq_true p108; replace q108 := eq_true q108; have p109 : 0 ≤ (4 : Int) := (by omega); have q109 : 4 < (t101.length : Int) := of_decide_eq_true (by first | (with_reducible assumption) | assumption); obtain ⟨ad109, e109, hx109_0, hx109_1, hx109_2, hx109_3, hx109_4⟩ := at_T26 (Kd.R_reads' HO103.out).2.2 4 p109 q109; (try rw [← Nbq10.out] at hx109_3); (try rw [← Nbq10.out] at hx109_4); obtain rfl : ad107 = ad109 := (by injection e109); (try simp only [show (4 : Int).toNat = 4 from rfl, Nat.reduceMul, Nat.reduceEqDiff, Go.Addr.add, ↓reduceIte] at hx109_0); (try simp only [show (4 : Int).toNat = 4 from rfl, Nat.reduceMul, Nat.reduceEqDiff, Go.Addr.add, ↓reduceIte] at hx109_1); (try simp only [show (4 : Int).toNat = 4 from rfl, Nat.reduceMul, Nat.reduceEqDiff, Go.Addr.add, ↓reduceIte] at hx109_2); (try simp only [show (4 : Int).toNat = 4 from rfl, Nat.reduceMul, Nat.reduceEqDiff, Go.Addr.add, ↓reduceIte] at hx109_3); (try simp only [show (4 : Int).toNat = 4 from rfl, Nat.reduceMul, Nat.reduceEqDiff, Go.Addr.add, ↓reduceIte] at hx109_4); have qi109 : (4 < t101.length) = True := eq_true (by omega); (try rw [show ((4 : Int)).toNat = 4 from rfl] at hx109_0); (try rw [show 4 * 5 = 20 from rfl] at hx109_0); (try rw [show ((4 : Int)).toNat = 4 from rfl] at hx109_1); (try rw [show 4 * 5 = 20 from rfl] at hx109_1); (try rw [show ((4 : Int)).toNat = 4 from rfl] at hx109_2); (try rw [show 4 * 5 = 20 from rfl] at hx109_2); (try rw [show ((4 : Int)).toNat = 4 from rfl] at hx109_3); (try rw [show 4 * 5 = 20 from rfl] at hx109_3); (try rw [show ((4 : Int)).toNat = 4 from rfl] at hx109_4); (try rw [show 4 * 5 = 20 from rfl] at hx109_4); replace p109 := eq_true p109; replace q109 := eq_true q109; have p110 : 0 ≤ (4 : Int) := (by omega); have q110 : 4 < (t101.length : Int) := of_decide_eq_true (by first | (with_reducible assumption) | assumption); obtain ⟨ad110, e110, hx110_0, hx110_1, hx110_2, hx110_3, hx110_4⟩ := at_T26 (Kd.R_reads' HO103.out).2.2 4 p110 q110; (try rw [← Nbq10.out] at hx110_3); (try rw [← Nbq10.out] at hx110_4); obtain rfl : ad107 = ad110 := (by injection e110); (try simp only [show (4 : Int).toNat = 4 from rfl, Nat.reduceMul, Nat.reduceEqDiff, Go.Addr.add, ↓reduceIte] at hx110_0); (try simp only [show (4 : Int).toNat = 4 from rfl, Nat.reduceMul, Nat.reduceEqDiff, Go.Addr.add, ↓reduceIte] at hx110_1); (try simp only [show (4 : Int).toNat = 4 from rfl, Nat.reduceMul, Nat.reduceEqDiff, Go.Addr.add, ↓reduceIte] at hx110_2); (try simp only [show (4 : Int).toNat = 4 from rfl, Nat.reduceMul, Nat.reduceEqDiff, Go.Addr.add, ↓reduceIte] at hx110_3); (try simp only [show (4 : Int).toNat = 4 from rfl, Nat.reduceMul, Nat.reduceEqDiff, Go.Addr.add, ↓reduceIte] at hx110_4); have qi110 : (4 < t101.length) = True := eq_true (by omega); (try rw [show ((4 : Int)).toNat = 4 from rfl] at hx110_0); (try rw [show 4 * 5 = 20 from rfl] at hx110_0); (try rw [show ((4 : Int)).toNat = 4 from rfl] at hx110_1); (try rw [show 4 * 5 = 20 from rfl] at hx110_1); (try rw [show ((4 : Int)).toNat = 4 from rfl] at hx110_2); (try rw [show 4 * 5 = 20 from rfl] at hx110_2); (try rw [show ((4 : Int)).toNat = 4 from rfl] at hx110_3); (try rw [show 4 * 5 = 20 from rfl] at hx110_3); (try rw [show ((4 : Int)).toNat = 4 from rfl] at hx110_4); (try rw [show 4 * 5 = 20 from rfl] at hx110_4); replace p110 := eq_true p110; replace q110 := eq_true q110; have p111 : 0 ≤ (4 : Int) := (by omega); have q111 : 4 < (t101.length : Int) := of_decide_eq_true (by first | (with_reducible assumption) | assumption); obtain ⟨ad111, e111, hx111_0, hx111_1, hx111_2, hx111_3, hx111_4⟩ := at_T26 (Kd.R_reads' HO103.out).2.2 4 p111 q111; (try rw [← Nbq10.out] at hx111_3); (try rw [← Nbq10.out] at hx111_4); obtain rfl : ad107 = ad111 := (by injection e111); (try simp only [show (4 : Int).toNat = 4 from rfl, Nat.reduceMul, Nat.reduceEqDiff, Go.Addr.add, ↓reduceIte] at hx111_0); (try simp only [show (4 : Int).toNat = 4 from rfl, Nat.reduceMul, Nat.reduceEqDiff, Go.Addr.add, ↓reduceIte] at hx111_1); (try simp only [show (4 : Int).toNat = 4 from rfl, Nat.reduceMul, Nat.reduceEqDiff, Go.Addr.add, ↓reduceIte] at hx111_2); (try simp only [show (4 : Int).toNat = 4 from rfl, Nat.reduceMul, Nat.reduceEqDiff, Go.Addr.add, ↓reduceIte] at hx111_3); (try simp only [show (4 : Int).toNat = 4 from rfl, Nat.reduceMul, Nat.reduceEqDiff, Go.Addr.add, ↓reduceIte] at hx111_4); have qi111 : (4 < t101.length) = True := eq_true (by omega); (try rw [show ((4 : Int)).toNat = 4 from rfl] at hx111_0); (try rw [show 4 * 5 = 20 from rfl] at hx111_0); (try rw [show ((4 : Int)).toNat = 4 from rfl] at hx111_1); (try rw [show 4 * 5 = 20 from rfl] at hx111_1); (try rw [show ((4 : Int)).toNat = 4 from rfl] at hx111_2); (try rw [show 4 * 5 = 20 from rfl] at hx111_2); (try rw [show ((4 : Int)).toNat = 4 from rfl] at hx111_3); (try rw [show 4 * 5 = 20 from rfl] at hx111_3); (try rw [show ((4 : Int)).toNat = 4 from rfl] at hx111_4); (try rw [show 4 * 5 = 20 from rfl] at hx111_4); replace p111 := eq_true p111; replace q111 := eq_true q111; obtain ⟨Ao29, co29, eo29⟩ := Kd.R_slice HO106.out; subst eo29; have p112 : 0 ≤ (0 : Int) := (by omega); have q112 : 0 < (t104.length : Int) := of_decide_eq_true (by first | (with_reducible assumption) | assumption); obtain ⟨ad112, e112, hx112_0, hx112_1, hx112_2, hx112_3, hx112_4⟩ := at_T26 (Kd.R_reads' HO106.out).2.2 0 p112 q112; (try rw [← Nbq10.out] at hx112_3); (try rw [← Nbq10.out] at hx112_4); cases e112; have qi112 : (0 < t104.length) = True := eq_true (by omega); (try rw [show ((0 : Int)).toNat = 0 from rfl] at hx112_0); (try rw [show 0 * 5 = 0 from rfl] at hx112_0); (try rw [Addr.add_zero'] at hx112_0); (try rw [show ((0 : Int)).toNat = 0 from rfl] at hx112_1); (try rw [show 0 * 5 = 0 from rfl] at hx112_1); (try rw [Addr.add_zero'] at hx112_1); (try rw [show ((0 : Int)).toNat = 0 from rfl] at hx112_2); (try rw [show 0 * 5 = 0 from rfl] at hx112_2); (try rw [Addr.add_zero'] at hx112_2); (try rw [show ((0 : Int)).toNat = 0 from rfl] at hx112_3); (try rw [show 0 * 5 = 0 from rfl] at hx112_3); (try rw [Addr.add_zero'] at hx112_3); (try rw [show ((0 : Int)).toNat = 0 from rfl] at hx112_4); (try rw [show 0 * 5 = 0 from rfl] at hx112_4); (try rw [Addr.add_zero'] at hx112_4); replace p112 := eq_true p112; replace q112 := eq_true q112; have p113 : 0 ≤ (1 : Int) := (by omega); have q113 : 1 < (t104.length : Int) := of_decide_eq_true (by first | (with_reducible assumption) | assumption); obtain ⟨ad113, e113, hx113_0, hx113_1, hx113_2, hx113_3, hx113_4⟩ := at_T26 (Kd.R_reads' HO106.out).2.2 1 p113 q113; (try rw [← Nbq10.out] at hx113_3); (try rw [← Nbq10.out] at hx113_4); obtain rfl : ad112 = ad113 := (by injection e113); (try simp only [show (1 : Int).toNat = 1 from rfl, Nat.reduceMul, Nat.reduceEqDiff, Go.Addr.add, ↓reduceIte] at hx113_0); (try simp only [show (1 : Int).toNat = 1 from rfl, Nat.reduceMul, Nat.reduceEqDiff, Go.Addr.add, ↓reduceIte] at hx113_1); (try simp only [show (1 : Int).toNat = 1 from rfl, Nat.reduceMul, Nat.reduceEqDiff, Go.Addr.add, ↓reduceIte] at hx113_2); (try simp only [show (1 : Int).toNat = 1 from rfl, Nat.reduceMul, Nat.reduceEqDiff, Go.Addr.add, ↓reduceIte] at hx113_3); (try simp only [show (1 : Int).toNat = 1 from rfl, Nat.reduceMul, Nat.reduceEqDiff, Go.Addr.add, ↓reduceIte] at hx113_4); have qi113 : (1 < t104.length) = True := eq_true (by omega); (try rw [show ((1 : Int)).toNat = 1 from rfl] at hx113_0); (try rw [show 1 * 5 = 5 from rfl] at hx113_0); (try rw [show ((1 : Int)).toNat = 1 from rfl] at hx113_1); (try rw [show 1 * 5 = 5 from rfl] at hx113_1); (try rw [show ((1 : Int)).toNat = 1 from rfl] at hx113_2); (try rw [show 1 * 5 = 5 from rfl] at hx113_2); (try rw [show ((1 : Int)).toNat = 1 from rfl] at hx113_3); (try rw [show 1 * 5 = 5 from rfl] at hx113_3); (try rw [show ((1 : Int)).toNat = 1 from rfl] at hx113_4); (try rw [show 1 * 5 = 5 from rfl] at hx113_4); replace p113 := eq_true p113; replace q113 := eq_true q113))
                            go_ret
                            exact ⟨by first | rfl | (simp [errW_none, errW_some] <;> rfl) | (simp [*, errW_none, errW_some] <;> rfl), by repeat (first | (with_reducible first | exact HB.out | apply below_alloc | apply pw_below_drewN | apply below_drew1) | exact HB.out)⟩
                        · rw [if_neg c18] at H
                          exact absurd H (by simp)
                      · rw [if_neg c17] at H
                        have c17b0 : (((rd_T26 t104 0).f0) == 6) = false := beq_eq_false_iff_ne.mpr c17
                        have c17b1 : (((rd_T26 t104 0).f0) != 6) = true := bne_iff_ne.mpr c17
                        obtain rfl := Option.some.inj H
                        go_enter Tryd.func9, Tryd.ntmps9
                        go_wp2_with (first | ((with_reducible refine gate_callee (f := 10) rfl ?_); refine goesL_ (some 3) rfl rfl Tryd.func10 (by kernel_rfl) rfl #[.string (⟨#[97, 123, 98, 58, 49, 46, 53, 101, 109, 125]⟩ : ByteArray)] rfl (by (try simp only [List.map_toArray, List.map_cons, List.map_nil]); first | done | rfl | (simp only [List.length_drop, List.length_take]; rfl)) ?_; (with_reducible refine (gouachelaw02_cut.calls (⟨#[97, 123, 98, 58, 49, 46, 53, 101, 109, 125]⟩ : ByteArray) t101 _ A1.out).mono ?_); rintro e w30 ⟨v102, rfl, ho0, hb⟩; refine ⟨_, rfl, ?_⟩; have n0_ := Aside0.mk (Kd.R_lower ho0 (below_size (by repeat (first | (with_reducible first | exact HB.out | apply below_alloc | apply pw_below_drewN | apply below_drew1) | exact HB.out)))); have n1_ := Aside0.mk (below_step (by repeat (first | (with_reducible first | exact HB.out | apply below_alloc | apply pw_below_drewN | apply below_drew1) | exact HB.out)) hb); clear HB; have HO103 := n0_; have HB := n1_; clear n0_ n1_; (try clear hb); (try clear hb2); (try clear hk); (try clear hi); (try clear ho0)) | ((with_reducible refine gate_callee (f := 10) rfl ?_); refine goesL_ (some 4) rfl rfl Tryd.func10 (by kernel_rfl) rfl #[.string (⟨#[34, 97, 10]⟩ : ByteArray)] rfl (by (try simp only [List.map_toArray, List.map_cons, List.map_nil]); first | done | rfl | (simp only [List.length_drop, List.length_take]; rfl)) ?_; (with_reducible refine (gouachelaw02_cut.calls (⟨#[34, 97, 10]⟩ : ByteArray) t104 _ A2.out).mono ?_); rintro e w31 ⟨v105, rfl, ho0, hb⟩; refine ⟨_, rfl, ?_⟩; have n0_ := Aside0.mk (Kd.R_elder' (by (with_reducible repeat (first | apply Kd.R_alloc | apply Kd.R_drewN | apply Kd.R_drew)); exact HO103.out) (Kd.R_base ho0) hb); have n1_ := Aside0.mk (Kd.R_lower (Kd.R_new' ho0 (Kd.R_lt (by (with_reducible repeat (first | apply Kd.R_alloc | apply Kd.R_drewN | apply Kd.R_drew)); exact HO103.out))) (below_size (by repeat (first | (with_reducible first | exact HB.out | apply below_alloc | apply pw_below_drewN | apply below_drew1) | exact HB.out)))); have n2_ := Aside0.mk (below_step (by repeat (first | (with_reducible first | exact HB.out | apply below_alloc | apply pw_below_drewN | apply below_drew1) | exact HB.out)) hb); clear HO103; clear HB; have HO103 := n0_; have HO106 := n1_; have HB := n2_; clear n0_ n1_ n2_; (try clear hb); (try clear hb2); (try clear hk); (try clear hi); (try clear ho0); obtain ⟨Ao32, co32, eo32⟩ := Kd.R_slice HO103.out; subst eo32; have p107 : 0 ≤ (0 : Int) := (by omega); have q107 : 0 < (t101.length : Int) := of_decide_eq_true (by first | (with_reducible assumption) | assumption); obtain ⟨ad107, e107, hx107_0, hx107_1, hx107_2, hx107_3, hx107_4⟩ := at_T26 (Kd.R_reads' HO103.out).2.2 0 p107 q107; (try rw [← Nbq10.out] at hx107_3); (try rw [← Nbq10.out] at hx107_4); cases e107; have qi107 : (0 < t101.length) = True := eq_true (by omega); (try rw [show ((0 : Int)).toNat = 0 from rfl] at hx107_0); (try rw [show 0 * 5 = 0 from rfl] at hx107_0); (try rw [Addr.add_zero'] at hx107_0); (try rw [show ((0 : Int)).toNat = 0 from rfl] at hx107_1); (try rw [show 0 * 5 = 0 from rfl] at hx107_1); (try rw [Addr.add_zero'] at hx107_1); (try rw [show ((0 : Int)).toNat = 0 from rfl] at hx107_2); (try rw [show 0 * 5 = 0 from rfl] at hx107_2); (try rw [Addr.add_zero'] at hx107_2); (try rw [show ((0 : Int)).toNat = 0 from rfl] at hx107_3); (try rw [show 0 * 5 = 0 from rfl] at hx107_3); (try rw [Addr.add_zero'] at hx107_3); (try rw [show ((0 : Int)).toNat = 0 from rfl] at hx107_4); (try rw [show 0 * 5 = 0 from rfl] at hx107_4); (try rw [Addr.add_zero'] at hx107_4); replace p107 := eq_true p107; replace q107 := eq_true q107; have p108 : 0 ≤ (4 : Int) := (by omega); have q108 : 4 < (t101.length : Int) := of_decide_eq_true (by first | (with_reducible assumption) | assumption); obtain ⟨ad108, e108, hx108_0, hx108_1, hx108_2, hx108_3, hx108_4⟩ := at_T26 (Kd.R_reads' HO103.out).2.2 4 p108 q108; (try rw [← Nbq10.out] at hx108_3); (try rw [← Nbq10.out] at hx108_4); obtain rfl : ad107 = ad108 := (by injection e108); (try simp only [show (4 : Int).toNat = 4 from rfl, Nat.reduceMul, Nat.reduceEqDiff, Go.Addr.add, ↓reduceIte] at hx108_0); (try simp only [show (4 : Int).toNat = 4 from rfl, Nat.reduceMul, Nat.reduceEqDiff, Go.Addr.add, ↓reduceIte] at hx108_1); (try simp only [show (4 : Int).toNat = 4 from rfl, Nat.reduceMul, Nat.reduceEqDiff, Go.Addr.add, ↓reduceIte] at hx108_2); (try simp only [show (4 : Int).toNat = 4 from rfl, Nat.reduceMul, Nat.reduceEqDiff, Go.Addr.add, ↓reduceIte] at hx108_3); (try simp only [show (4 : Int).toNat = 4 from rfl, Nat.reduceMul, Nat.reduceEqDiff, Go.Addr.add, ↓reduceIte] at hx108_4); have qi108 : (4 < t101.length) = True := eq_true (by omega); (try rw [show ((4 : Int)).toNat = 4 from rfl] at hx108_0); (try rw [show 4 * 5 = 20 from rfl] at hx108_0); (try rw [show ((4 : Int)).toNat = 4 from rfl] at hx108_1); (try rw [show 4 * 5 = 20 from rfl] at hx108_1); (try rw [show ((4 : Int)).toNat = 4 from rfl] at hx108_2); (try rw [show 4 * 5 = 20 from rfl] at hx108_2); (try rw [show ((4 : Int)).toNat = 4 from rfl] at hx108_3); (try rw [show 4 * 5 = 20 from rfl] at hx108_3); (try rw [show ((4 : Int)).toNat = 4 from rfl] at hx108_4); (try rw [show 4 * 5 = 20 from rfl] at hx108_4); replace p108 := eq_true p108; replace q108 := eq_true q108; have p109 : 0 ≤ (4 : Int) := (by omega); have q109 : 4 < (t101.length : Int) := of_decide_eq_true (by first | (with_reducible assumption) | assumption); obtain ⟨ad109, e109, hx109_0, hx109_1, hx109_2, hx109_3, hx109_4⟩ := at_T26 (Kd.R_reads' HO103.out).2.2 4 p109 q109; (try rw [← Nbq10.out] at hx109_3); (try rw [← Nbq10.out] at hx109_4); obtain rfl : ad107 = ad109 := (by injection e109); (try simp only [show (4 : Int).toNat = 4 from rfl, Nat.reduceMul, Nat.reduceEqDiff, Go.Addr.add, ↓reduceIte] at hx109_0); (try simp only [show (4 : Int).toNat = 4 from rfl, Nat.reduceMul, Nat.reduceEqDiff, Go.Addr.add, ↓reduceIte] at hx109_1); (try simp only [show (4 : Int).toNat = 4 from rfl, Nat.reduceMul, Nat.reduceEqDiff, Go.Addr.add, ↓reduceIte] at hx109_2); (try simp only [show (4 : Int).toNat = 4 from rfl, Nat.reduceMul, Nat.reduceEqDiff, Go.Addr.add, ↓reduceIte] at hx109_3); (try simp only [show (4 : Int).toNat = 4 from rfl, Nat.reduceMul, Nat.reduceEqDiff, Go.Addr.add, ↓reduceIte] at hx109_4); have qi109 : (4 < t101.length) = True := eq_true (by omega); (try rw [show ((4 : Int)).toNat = 4 from rfl] at hx109_0); (try rw [show 4 * 5 = 20 from rfl] at hx109_0); (try rw [show ((4 : Int)).toNat = 4 from rfl] at hx109_1); (try rw [show 4 * 5 = 20 from rfl] at hx109_1); (try rw [show ((4 : Int)).toNat = 4 from rfl] at hx109_2); (try rw [show 4 * 5 = 20 from rfl] at hx109_2); (try rw [show ((4 : Int)).toNat = 4 from rfl] at hx109_3); (try rw [show 4 * 5 = 20 from rfl] at hx109_3); (try rw [show ((4 : Int)).toNat = 4 from rfl] at hx109_4); (try rw [show 4 * 5 = 20 from rfl] at hx109_4); replace p109 := eq_true p109; replace q109 := eq_true q109; have p110 : 0 ≤ (4 : Int) := (by omega); have q110 : 4 < (t101.length : Int) := of_decide_eq_true (by first | (with_reducible assumption) | assumption); obtain ⟨ad110, e110, hx110_0, hx110_1, hx110_2, hx110_3, hx110_4⟩ := at_T26 (Kd.R_reads' HO103.out).2.2 4 p110 q110; (try rw [← Nbq10.out] at hx110_3); (try rw [← Nbq10.out] at hx110_4); obtain rfl : ad107 = ad110 := (by injection e110); (try simp only [show (4 : Int).toNat = 4 from rfl, Nat.reduceMul, Nat.reduceEqDiff, Go.Addr.add, ↓reduceIte] at hx110_0); (try simp only [show (4 : Int).toNat = 4 from rfl, Nat.reduceMul, Nat.reduceEqDiff, Go.Addr.add, ↓reduceIte] at hx110_1); (try simp only [show (4 : Int).toNat = 4 from rfl, Nat.reduceMul, Nat.reduceEqDiff, Go.Addr.add, ↓reduceIte] at hx110_2); (try simp only [show (4 : Int).toNat = 4 from rfl, Nat.reduceMul, Nat.reduceEqDiff, Go.Addr.add, ↓reduceIte] at hx110_3); (try simp only [show (4 : Int).toNat = 4 from rfl, Nat.reduceMul, Nat.reduceEqDiff, Go.Addr.add, ↓reduceIte] at hx110_4); have qi110 : (4 < t101.length) = True := eq_true (by omega); (try rw [show ((4 : Int)).toNat = 4 from rfl] at hx110_0); (try rw [show 4 * 5 = 20 from rfl] at hx110_0); (try rw [show ((4 : Int)).toNat = 4 from rfl] at hx110_1); (try rw [show 4 * 5 = 20 from rfl] at hx110_1); (try rw [show ((4 : Int)).toNat = 4 from rfl] at hx110_2); (try rw [show 4 * 5 = 20 from rfl] at hx110_2); (try rw [show ((4 : Int)).toNat = 4 from rfl] at hx110_3); (try rw [show 4 * 5 = 20 from rfl] at hx110_3); (try rw [show ((4 : Int)).toNat = 4 from rfl] at hx110_4); (try rw [show 4 * 5 = 20 from rfl] at hx110_4); replace p110 := eq_true p110; replace q110 := eq_true q110; have p111 : 0 ≤ (4 : Int) := (by omega); have q111 : 4 < (t101.length : Int) := of_decide_eq_true (by first | (with_reducible assumption) | assumption); obtain ⟨ad111, e111, hx111_0, hx111_1, hx111_2, hx111_3, hx111_4⟩ := at_T26 (Kd.R_reads' HO103.out).2.2 4 p111 q111; (try rw [← Nbq10.out] at hx111_3); (try rw [← Nbq10.out] at hx111_4); obtain rfl : ad107 = ad111 := (by injection e111); (try simp only [show (4 : Int).toNat = 4 from rfl, Nat.reduceMul, Nat.reduceEqDiff, Go.Addr.add, ↓reduceIte] at hx111_0); (try simp only [show (4 : Int).toNat = 4 from rfl, Nat.reduceMul, Nat.reduceEqDiff, Go.Addr.add, ↓reduceIte] at hx111_1); (try simp only [show (4 : Int).toNat = 4 from rfl, Nat.reduceMul, Nat.reduceEqDiff, Go.Addr.add, ↓reduceIte] at hx111_2); (try simp only [show (4 : Int).toNat = 4 from rfl, Nat.reduceMul, Nat.reduceEqDiff, Go.Addr.add, ↓reduceIte] at hx111_3); (try simp only [show (4 : Int).toNat = 4 from rfl, Nat.reduceMul, Nat.reduceEqDiff, Go.Addr.add, ↓reduceIte] at hx111_4); have qi111 : (4 < t101.length) = True := eq_true (by omega); (try rw [show ((4 : Int)).toNat = 4 from rfl] at hx111_0); (try rw [show 4 * 5 = 20 from rfl] at hx111_0); (try rw [show ((4 : Int)).toNat = 4 from rfl] at hx111_1); (try rw [show 4 * 5 = 20 from rfl] at hx111_1); (try rw [show ((4 : Int)).toNat = 4 from rfl] at hx111_2); (try rw [show 4 * 5 = 20 from rfl] at hx111_2); (try rw [show ((4 : Int)).toNat = 4 from rfl] at hx111_3); (try rw [show 4 * 5 = 20 from rfl] at hx111_3); (try rw [show ((4 : Int)).toNat = 4 from rfl] at hx111_4); (try rw [show 4 * 5 = 20 from rfl] at hx111_4); replace p111 := eq_true p111; replace q111 := eq_true q111; obtain ⟨Ao33, co33, eo33⟩ := Kd.R_slice HO106.out; subst eo33; have p112 : 0 ≤ (0 : Int) := (by omega); have q112 : 0 < (t104.length : Int) := of_decide_eq_true (by first | (with_reducible assumption) | assumption); obtain ⟨ad112, e112, hx112_0, hx112_1, hx112_2, hx112_3, hx112_4⟩ := at_T26 (Kd.R_reads' HO106.out).2.2 0 p112 q112; (try rw [← Nbq10.out] at hx112_3); (try rw [← Nbq10.out] at hx112_4); cases e112; have qi112 : (0 < t104.length) = True := eq_true (by omega); (try rw [show ((0 : Int)).toNat = 0 from rfl] at hx112_0); (try rw [show 0 * 5 = 0 from rfl] at hx112_0); (try rw [Addr.add_zero'] at hx112_0); (try rw [show ((0 : Int)).toNat = 0 from rfl] at hx112_1); (try rw [show 0 * 5 = 0 from rfl] at hx112_1); (try rw [Addr.add_zero'] at hx112_1); (try rw [show ((0 : Int)).toNat = 0 from rfl] at hx112_2); (try rw [show 0 * 5 = 0 from rfl] at hx112_2); (try rw [Addr.add_zero'] at hx112_2); (try rw [show ((0 : Int)).toNat = 0 from rfl] at hx112_3); (try rw [show 0 * 5 = 0 from rfl] at hx112_3); (try rw [Addr.add_zero'] at hx112_3); (try rw [show ((0 : Int)).toNat = 0 from rfl] at hx112_4); (try rw [show 0 * 5 = 0 from rfl] at hx112_4); (try rw [Addr.add_zero'] at hx112_4); replace p112 := eq_true p112; replace q112 := eq_true q112))
                        go_ret
                        exact ⟨by first | rfl | (simp [errW_none, errW_some] <;> rfl) | (simp [*, errW_none, errW_some] <;> rfl), by repeat (first | (with_reducible first | exact HB.out | apply below_alloc | apply pw_below_drewN | apply below_drew1) | exact HB.out)⟩
                    · rw [if_neg c16] at H
                      exact absurd H (by simp)
                  · rw [if_neg c15] at H
                    have c15b0 : ((t104.length : Int) == 2) = false := beq_eq_false_iff_ne.mpr c15
                    have c15b1 : ((t104.length : Int) != 2) = true := bne_iff_ne.mpr c15
                    obtain rfl := Option.some.inj H
                    go_enter Tryd.func9, Tryd.ntmps9
                    go_wp2_with (first | ((with_reducible refine gate_callee (f := 10) rfl ?_); refine goesL_ (some 3) rfl rfl Tryd.func10 (by kernel_rfl) rfl #[.string (⟨#[97, 123, 98, 58, 49, 46, 53, 101, 109, 125]⟩ : ByteArray)] rfl (by (try simp only [List.map_toArray, List.map_cons, List.map_nil]); first | done | rfl | (simp only [List.length_drop, List.length_take]; rfl)) ?_; (with_reducible refine (gouachelaw02_cut.calls (⟨#[97, 123, 98, 58, 49, 46, 53, 101, 109, 125]⟩ : ByteArray) t101 _ A1.out).mono ?_); rintro e w34 ⟨v102, rfl, ho0, hb⟩; refine ⟨_, rfl, ?_⟩; have n0_ := Aside0.mk (Kd.R_lower ho0 (below_size (by repeat (first | (with_reducible first | exact HB.out | apply below_alloc | apply pw_below_drewN | apply below_drew1) | exact HB.out)))); have n1_ := Aside0.mk (below_step (by repeat (first | (with_reducible first | exact HB.out | apply below_alloc | apply pw_below_drewN | apply below_drew1) | exact HB.out)) hb); clear HB; have HO103 := n0_; have HB := n1_; clear n0_ n1_; (try clear hb); (try clear hb2); (try clear hk); (try clear hi); (try clear ho0)) | ((with_reducible refine gate_callee (f := 10) rfl ?_); refine goesL_ (some 4) rfl rfl Tryd.func10 (by kernel_rfl) rfl #[.string (⟨#[34, 97, 10]⟩ : ByteArray)] rfl (by (try simp only [List.map_toArray, List.map_cons, List.map_nil]); first | done | rfl | (simp only [List.length_drop, List.length_take]; rfl)) ?_; (with_reducible refine (gouachelaw02_cut.calls (⟨#[34, 97, 10]⟩ : ByteArray) t104 _ A2.out).mono ?_); rintro e w35 ⟨v105, rfl, ho0, hb⟩; refine ⟨_, rfl, ?_⟩; have n0_ := Aside0.mk (Kd.R_elder' (by (with_reducible repeat (first | apply Kd.R_alloc | apply Kd.R_drewN | apply Kd.R_drew)); exact HO103.out) (Kd.R_base ho0) hb); have n1_ := Aside0.mk (Kd.R_lower (Kd.R_new' ho0 (Kd.R_lt (by (with_reducible repeat (first | apply Kd.R_alloc | apply Kd.R_drewN | apply Kd.R_drew)); exact HO103.out))) (below_size (by repeat (first | (with_reducible first | exact HB.out | apply below_alloc | apply pw_below_drewN | apply below_drew1) | exact HB.out)))); have n2_ := Aside0.mk (below_step (by repeat (first | (with_reducible first | exact HB.out | apply below_alloc | apply pw_below_drewN | apply below_drew1) | exact HB.out)) hb); clear HO103; clear HB; have HO103 := n0_; have HO106 := n1_; have HB := n2_; clear n0_ n1_ n2_; (try clear hb); (try clear hb2); (try clear hk); (try clear hi); (try clear ho0); obtain ⟨Ao36, co36, eo36⟩ := Kd.R_slice HO103.out; subst eo36; have p107 : 0 ≤ (0 : Int) := (by omega); have q107 : 0 < (t101.length : Int) := of_decide_eq_true (by first | (with_reducible assumption) | assumption); obtain ⟨ad107, e107, hx107_0, hx107_1, hx107_2, hx107_3, hx107_4⟩ := at_T26 (Kd.R_reads' HO103.out).2.2 0 p107 q107; (try rw [← Nbq10.out] at hx107_3); (try rw [← Nbq10.out] at hx107_4); cases e107; have qi107 : (0 < t101.length) = True := eq_true (by omega); (try rw [show ((0 : Int)).toNat = 0 from rfl] at hx107_0); (try rw [show 0 * 5 = 0 from rfl] at hx107_0); (try rw [Addr.add_zero'] at hx107_0); (try rw [show ((0 : Int)).toNat = 0 from rfl] at hx107_1); (try rw [show 0 * 5 = 0 from rfl] at hx107_1); (try rw [Addr.add_zero'] at hx107_1); (try rw [show ((0 : Int)).toNat = 0 from rfl] at hx107_2); (try rw [show 0 * 5 = 0 from rfl] at hx107_2); (try rw [Addr.add_zero'] at hx107_2); (try rw [show ((0 : Int)).toNat = 0 from rfl] at hx107_3); (try rw [show 0 * 5 = 0 from rfl] at hx107_3); (try rw [Addr.add_zero'] at hx107_3); (try rw [show ((0 : Int)).toNat = 0 from rfl] at hx107_4); (try rw [show 0 * 5 = 0 from rfl] at hx107_4); (try rw [Addr.add_zero'] at hx107_4); replace p107 := eq_true p107; replace q107 := eq_true q107; have p108 : 0 ≤ (4 : Int) := (by omega); have q108 : 4 < (t101.length : Int) := of_decide_eq_true (by first | (with_reducible assumption) | assumption); obtain ⟨ad108, e108, hx108_0, hx108_1, hx108_2, hx108_3, hx108_4⟩ := at_T26 (Kd.R_reads' HO103.out).2.2 4 p108 q108; (try rw [← Nbq10.out] at hx108_3); (try rw [← Nbq10.out] at hx108_4); obtain rfl : ad107 = ad108 := (by injection e108); (try simp only [show (4 : Int).toNat = 4 from rfl, Nat.reduceMul, Nat.reduceEqDiff, Go.Addr.add, ↓reduceIte] at hx108_0); (try simp only [show (4 : Int).toNat = 4 from rfl, Nat.reduceMul, Nat.reduceEqDiff, Go.Addr.add, ↓reduceIte] at hx108_1); (try simp only [show (4 : Int).toNat = 4 from rfl, Nat.reduceMul, Nat.reduceEqDiff, Go.Addr.add, ↓reduceIte] at hx108_2); (try simp only [show (4 : Int).toNat = 4 from rfl, Nat.reduceMul, Nat.reduceEqDiff, Go.Addr.add, ↓reduceIte] at hx108_3); (try simp only [show (4 : Int).toNat = 4 from rfl, Nat.reduceMul, Nat.reduceEqDiff, Go.Addr.add, ↓reduceIte] at hx108_4); have qi108 : (4 < t101.length) = True := eq_true (by omega); (try rw [show ((4 : Int)).toNat = 4 from rfl] at hx108_0); (try rw [show 4 * 5 = 20 from rfl] at hx108_0); (try rw [show ((4 : Int)).toNat = 4 from rfl] at hx108_1); (try rw [show 4 * 5 = 20 from rfl] at hx108_1); (try rw [show ((4 : Int)).toNat = 4 from rfl] at hx108_2); (try rw [show 4 * 5 = 20 from rfl] at hx108_2); (try rw [show ((4 : Int)).toNat = 4 from rfl] at hx108_3); (try rw [show 4 * 5 = 20 from rfl] at hx108_3); (try rw [show ((4 : Int)).toNat = 4 from rfl] at hx108_4); (try rw [show 4 * 5 = 20 from rfl] at hx108_4); replace p108 := eq_true p108; replace q108 := eq_true q108; have p109 : 0 ≤ (4 : Int) := (by omega); have q109 : 4 < (t101.length : Int) := of_decide_eq_true (by first | (with_reducible assumption) | assumption); obtain ⟨ad109, e109, hx109_0, hx109_1, hx109_2, hx109_3, hx109_4⟩ := at_T26 (Kd.R_reads' HO103.out).2.2 4 p109 q109; (try rw [← Nbq10.out] at hx109_3); (try rw [← Nbq10.out] at hx109_4); obtain rfl : ad107 = ad109 := (by injection e109); (try simp only [show (4 : Int).toNat = 4 from rfl, Nat.reduceMul, Nat.reduceEqDiff, Go.Addr.add, ↓reduceIte] at hx109_0); (try simp only [show (4 : Int).toNat = 4 from rfl, Nat.reduceMul, Nat.reduceEqDiff, Go.Addr.add, ↓reduceIte] at hx109_1); (try simp only [show (4 : Int).toNat = 4 from rfl, Nat.reduceMul, Nat.reduceEqDiff, Go.Addr.add, ↓reduceIte] at hx109_2); (try simp only [show (4 : Int).toNat = 4 from rfl, Nat.reduceMul, Nat.reduceEqDiff, Go.Addr.add, ↓reduceIte] at hx109_3); (try simp only [show (4 : Int).toNat = 4 from rfl, Nat.reduceMul, Nat.reduceEqDiff, Go.Addr.add, ↓reduceIte] at hx109_4); have qi109 : (4 < t101.length) = True := eq_true (by omega); (try rw [show ((4 : Int)).toNat = 4 from rfl] at hx109_0); (try rw [show 4 * 5 = 20 from rfl] at hx109_0); (try rw [show ((4 : Int)).toNat = 4 from rfl] at hx109_1); (try rw [show 4 * 5 = 20 from rfl] at hx109_1); (try rw [show ((4 : Int)).toNat = 4 from rfl] at hx109_2); (try rw [show 4 * 5 = 20 from rfl] at hx109_2); (try rw [show ((4 : Int)).toNat = 4 from rfl] at hx109_3); (try rw [show 4 * 5 = 20 from rfl] at hx109_3); (try rw [show ((4 : Int)).toNat = 4 from rfl] at hx109_4); (try rw [show 4 * 5 = 20 from rfl] at hx109_4); replace p109 := eq_true p109; replace q109 := eq_true q109; have p110 : 0 ≤ (4 : Int) := (by omega); have q110 : 4 < (t101.length : Int) := of_decide_eq_true (by first | (with_reducible assumption) | assumption); obtain ⟨ad110, e110, hx110_0, hx110_1, hx110_2, hx110_3, hx110_4⟩ := at_T26 (Kd.R_reads' HO103.out).2.2 4 p110 q110; (try rw [← Nbq10.out] at hx110_3); (try rw [← Nbq10.out] at hx110_4); obtain rfl : ad107 = ad110 := (by injection e110); (try simp only [show (4 : Int).toNat = 4 from rfl, Nat.reduceMul, Nat.reduceEqDiff, Go.Addr.add, ↓reduceIte] at hx110_0); (try simp only [show (4 : Int).toNat = 4 from rfl, Nat.reduceMul, Nat.reduceEqDiff, Go.Addr.add, ↓reduceIte] at hx110_1); (try simp only [show (4 : Int).toNat = 4 from rfl, Nat.reduceMul, Nat.reduceEqDiff, Go.Addr.add, ↓reduceIte] at hx110_2); (try simp only [show (4 : Int).toNat = 4 from rfl, Nat.reduceMul, Nat.reduceEqDiff, Go.Addr.add, ↓reduceIte] at hx110_3); (try simp only [show (4 : Int).toNat = 4 from rfl, Nat.reduceMul, Nat.reduceEqDiff, Go.Addr.add, ↓reduceIte] at hx110_4); have qi110 : (4 < t101.length) = True := eq_true (by omega); (try rw [show ((4 : Int)).toNat = 4 from rfl] at hx110_0); (try rw [show 4 * 5 = 20 from rfl] at hx110_0); (try rw [show ((4 : Int)).toNat = 4 from rfl] at hx110_1); (try rw [show 4 * 5 = 20 from rfl] at hx110_1); (try rw [show ((4 : Int)).toNat = 4 from rfl] at hx110_2); (try rw [show 4 * 5 = 20 from rfl] at hx110_2); (try rw [show ((4 : Int)).toNat = 4 from rfl] at hx110_3); (try rw [show 4 * 5 = 20 from rfl] at hx110_3); (try rw [show ((4 : Int)).toNat = 4 from rfl] at hx110_4); (try rw [show 4 * 5 = 20 from rfl] at hx110_4); replace p110 := eq_true p110; replace q110 := eq_true q110; have p111 : 0 ≤ (4 : Int) := (by omega); have q111 : 4 < (t101.length : Int) := of_decide_eq_true (by first | (with_reducible assumption) | assumption); obtain ⟨ad111, e111, hx111_0, hx111_1, hx111_2, hx111_3, hx111_4⟩ := at_T26 (Kd.R_reads' HO103.out).2.2 4 p111 q111; (try rw [← Nbq10.out] at hx111_3); (try rw [← Nbq10.out] at hx111_4); obtain rfl : ad107 = ad111 := (by injection e111); (try simp only [show (4 : Int).toNat = 4 from rfl, Nat.reduceMul, Nat.reduceEqDiff, Go.Addr.add, ↓reduceIte] at hx111_0); (try simp only [show (4 : Int).toNat = 4 from rfl, Nat.reduceMul, Nat.reduceEqDiff, Go.Addr.add, ↓reduceIte] at hx111_1); (try simp only [show (4 : Int).toNat = 4 from rfl, Nat.reduceMul, Nat.reduceEqDiff, Go.Addr.add, ↓reduceIte] at hx111_2); (try simp only [show (4 : Int).toNat = 4 from rfl, Nat.reduceMul, Nat.reduceEqDiff, Go.Addr.add, ↓reduceIte] at hx111_3); (try simp only [show (4 : Int).toNat = 4 from rfl, Nat.reduceMul, Nat.reduceEqDiff, Go.Addr.add, ↓reduceIte] at hx111_4); have qi111 : (4 < t101.length) = True := eq_true (by omega); (try rw [show ((4 : Int)).toNat = 4 from rfl] at hx111_0); (try rw [show 4 * 5 = 20 from rfl] at hx111_0); (try rw [show ((4 : Int)).toNat = 4 from rfl] at hx111_1); (try rw [show 4 * 5 = 20 from rfl] at hx111_1); (try rw [show ((4 : Int)).toNat = 4 from rfl] at hx111_2); (try rw [show 4 * 5 = 20 from rfl] at hx111_2); (try rw [show ((4 : Int)).toNat = 4 from rfl] at hx111_3); (try rw [show 4 * 5 = 20 from rfl] at hx111_3); (try rw [show ((4 : Int)).toNat = 4 from rfl] at hx111_4); (try rw [show 4 * 5 = 20 from rfl] at hx111_4); replace p111 := eq_true p111; replace q111 := eq_true q111; obtain ⟨Ao37, co37, eo37⟩ := Kd.R_slice HO106.out; subst eo37))
                    go_ret
                    exact ⟨by first | rfl | (simp [errW_none, errW_some] <;> rfl) | (simp [*, errW_none, errW_some] <;> rfl), by repeat (first | (with_reducible first | exact HB.out | apply below_alloc | apply pw_below_drewN | apply below_drew1) | exact HB.out)⟩
              · rw [if_neg c9] at H
                have c9b0 : (((rd_T26 t101 4).f2).toList == ([101, 109] : List UInt8)) = false := beq_eq_false_iff_ne.mpr c9
                have c9b1 : (((rd_T26 t101 4).f2).toList != ([101, 109] : List UInt8)) = true := bne_iff_ne.mpr c9
                obtain rfl := Option.some.inj H
                go_enter Tryd.func9, Tryd.ntmps9
                go_wp2_with (first | ((with_reducible refine gate_callee (f := 10) rfl ?_); refine goesL_ (some 3) rfl rfl Tryd.func10 (by kernel_rfl) rfl #[.string (⟨#[97, 123, 98, 58, 49, 46, 53, 101, 109, 125]⟩ : ByteArray)] rfl (by (try simp only [List.map_toArray, List.map_cons, List.map_nil]); first | done | rfl | (simp only [List.length_drop, List.length_take]; rfl)) ?_; (with_reducible refine (gouachelaw02_cut.calls (⟨#[97, 123, 98, 58, 49, 46, 53, 101, 109, 125]⟩ : ByteArray) t101 _ A1.out).mono ?_); rintro e w38 ⟨v102, rfl, ho0, hb⟩; refine ⟨_, rfl, ?_⟩; have n0_ := Aside0.mk (Kd.R_lower ho0 (below_size (by repeat (first | (with_reducible first | exact HB.out | apply below_alloc | apply pw_below_drewN | apply below_drew1) | exact HB.out)))); have n1_ := Aside0.mk (below_step (by repeat (first | (with_reducible first | exact HB.out | apply below_alloc | apply pw_below_drewN | apply below_drew1) | exact HB.out)) hb); clear HB; have HO103 := n0_; have HB := n1_; clear n0_ n1_; (try clear hb); (try clear hb2); (try clear hk); (try clear hi); (try clear ho0)) | ((with_reducible refine gate_callee (f := 10) rfl ?_); refine goesL_ (some 4) rfl rfl Tryd.func10 (by kernel_rfl) rfl #[.string (⟨#[34, 97, 10]⟩ : ByteArray)] rfl (by (try simp only [List.map_toArray, List.map_cons, List.map_nil]); first | done | rfl | (simp only [List.length_drop, List.length_take]; rfl)) ?_; (with_reducible refine (gouachelaw02_cut.calls (⟨#[34, 97, 10]⟩ : ByteArray) t104 _ A2.out).mono ?_); rintro e w39 ⟨v105, rfl, ho0, hb⟩; refine ⟨_, rfl, ?_⟩; have n0_ := Aside0.mk (Kd.R_elder' (by (with_reducible repeat (first | apply Kd.R_alloc | apply Kd.R_drewN | apply Kd.R_drew)); exact HO103.out) (Kd.R_base ho0) hb); have n1_ := Aside0.mk (Kd.R_lower (Kd.R_new' ho0 (Kd.R_lt (by (with_reducible repeat (first | apply Kd.R_alloc | apply Kd.R_drewN | apply Kd.R_drew)); exact HO103.out))) (below_size (by repeat (first | (with_reducible first | exact HB.out | apply below_alloc | apply pw_below_drewN | apply below_drew1) | exact HB.out)))); have n2_ := Aside0.mk (below_step (by repeat (first | (with_reducible first | exact HB.out | apply below_alloc | apply pw_below_drewN | apply below_drew1) | exact HB.out)) hb); clear HO103; clear HB; have HO103 := n0_; have HO106 := n1_; have HB := n2_; clear n0_ n1_ n2_; (try clear hb); (try clear hb2); (try clear hk); (try clear hi); (try clear ho0); obtain ⟨Ao40, co40, eo40⟩ := Kd.R_slice HO103.out; subst eo40; have p107 : 0 ≤ (0 : Int) := (by omega); have q107 : 0 < (t101.length : Int) := of_decide_eq_true (by first | (with_reducible assumption) | assumption); obtain ⟨ad107, e107, hx107_0, hx107_1, hx107_2, hx107_3, hx107_4⟩ := at_T26 (Kd.R_reads' HO103.out).2.2 0 p107 q107; cases e107; have qi107 : (0 < t101.length) = True := eq_true (by omega); (try rw [show ((0 : Int)).toNat = 0 from rfl] at hx107_0); (try rw [show 0 * 5 = 0 from rfl] at hx107_0); (try rw [Addr.add_zero'] at hx107_0); (try rw [show ((0 : Int)).toNat = 0 from rfl] at hx107_1); (try rw [show 0 * 5 = 0 from rfl] at hx107_1); (try rw [Addr.add_zero'] at hx107_1); (try rw [show ((0 : Int)).toNat = 0 from rfl] at hx107_2); (try rw [show 0 * 5 = 0 from rfl] at hx107_2); (try rw [Addr.add_zero'] at hx107_2); (try rw [show ((0 : Int)).toNat = 0 from rfl] at hx107_3); (try rw [show 0 * 5 = 0 from rfl] at hx107_3); (try rw [Addr.add_zero'] at hx107_3); (try rw [show ((0 : Int)).toNat = 0 from rfl] at hx107_4); (try rw [show 0 * 5 = 0 from rfl] at hx107_4); (try rw [Addr.add_zero'] at hx107_4); replace p107 := eq_true p107; replace q107 := eq_true q107; have p108 : 0 ≤ (4 : Int) := (by omega); have q108 : 4 < (t101.length : Int) := of_decide_eq_true (by first | (with_reducible assumption) | assumption); obtain ⟨ad108, e108, hx108_0, hx108_1, hx108_2, hx108_3, hx108_4⟩ := at_T26 (Kd.R_reads' HO103.out).2.2 4 p108 q108; obtain rfl : ad107 = ad108 := (by injection e108); (try simp only [show (4 : Int).toNat = 4 from rfl, Nat.reduceMul, Nat.reduceEqDiff, Go.Addr.add, ↓reduceIte] at hx108_0); (try simp only [show (4 : Int).toNat = 4 from rfl, Nat.reduceMul, Nat.reduceEqDiff, Go.Addr.add, ↓reduceIte] at hx108_1); (try simp only [show (4 : Int).toNat = 4 from rfl, Nat.reduceMul, Nat.reduceEqDiff, Go.Addr.add, ↓reduceIte] at hx108_2); (try simp only [show (4 : Int).toNat = 4 from rfl, Nat.reduceMul, Nat.reduceEqDiff, Go.Addr.add, ↓reduceIte] at hx108_3); (try simp only [show (4 : Int).toNat = 4 from rfl, Nat.reduceMul, Nat.reduceEqDiff, Go.Addr.add, ↓reduceIte] at hx108_4); have qi108 : (4 < t101.length) = True := eq_true (by omega); (try rw [show ((4 : Int)).toNat = 4 from rfl] at hx108_0); (try rw [show 4 * 5 = 20 from rfl] at hx108_0); (try rw [show ((4 : Int)).toNat = 4 from rfl] at hx108_1); (try rw [show 4 * 5 = 20 from rfl] at hx108_1); (try rw [show ((4 : Int)).toNat = 4 from rfl] at hx108_2); (try rw [show 4 * 5 = 20 from rfl] at hx108_2); (try rw [show ((4 : Int)).toNat = 4 from rfl] at hx108_3); (try rw [show 4 * 5 = 20 from rfl] at hx108_3); (try rw [show ((4 : Int)).toNat = 4 from rfl] at hx108_4); (try rw [show 4 * 5 = 20 from rfl] at hx108_4); replace p108 := eq_true p108; replace q108 := eq_true q108; have p109 : 0 ≤ (4 : Int) := (by omega); have q109 : 4 < (t101.length : Int) := of_decide_eq_true (by first | (with_reducible assumption) | assumption); obtain ⟨ad109, e109, hx109_0, hx109_1, hx109_2, hx109_3, hx109_4⟩ := at_T26 (Kd.R_reads' HO103.out).2.2 4 p109 q109; obtain rfl : ad107 = ad109 := (by injection e109); (try simp only [show (4 : Int).toNat = 4 from rfl, Nat.reduceMul, Nat.reduceEqDiff, Go.Addr.add, ↓reduceIte] at hx109_0); (try simp only [show (4 : Int).toNat = 4 from rfl, Nat.reduceMul, Nat.reduceEqDiff, Go.Addr.add, ↓reduceIte] at hx109_1); (try simp only [show (4 : Int).toNat = 4 from rfl, Nat.reduceMul, Nat.reduceEqDiff, Go.Addr.add, ↓reduceIte] at hx109_2); (try simp only [show (4 : Int).toNat = 4 from rfl, Nat.reduceMul, Nat.reduceEqDiff, Go.Addr.add, ↓reduceIte] at hx109_3); (try simp only [show (4 : Int).toNat = 4 from rfl, Nat.reduceMul, Nat.reduceEqDiff, Go.Addr.add, ↓reduceIte] at hx109_4); have qi109 : (4 < t101.length) = True := eq_true (by omega); (try rw [show ((4 : Int)).toNat = 4 from rfl] at hx109_0); (try rw [show 4 * 5 = 20 from rfl] at hx109_0); (try rw [show ((4 : Int)).toNat = 4 from rfl] at hx109_1); (try rw [show 4 * 5 = 20 from rfl] at hx109_1); (try rw [show ((4 : Int)).toNat = 4 from rfl] at hx109_2); (try rw [show 4 * 5 = 20 from rfl] at hx109_2); (try rw [show ((4 : Int)).toNat = 4 from rfl] at hx109_3); (try rw [show 4 * 5 = 20 from rfl] at hx109_3); (try rw [show ((4 : Int)).toNat = 4 from rfl] at hx109_4); (try rw [show 4 * 5 = 20 from rfl] at hx109_4); replace p109 := eq_true p109; replace q109 := eq_true q109; have p110 : 0 ≤ (4 : Int) := (by omega); have q110 : 4 < (t101.length : Int) := of_decide_eq_true (by first | (with_reducible assumption) | assumption); obtain ⟨ad110, e110, hx110_0, hx110_1, hx110_2, hx110_3, hx110_4⟩ := at_T26 (Kd.R_reads' HO103.out).2.2 4 p110 q110; obtain rfl : ad107 = ad110 := (by injection e110); (try simp only [show (4 : Int).toNat = 4 from rfl, Nat.reduceMul, Nat.reduceEqDiff, Go.Addr.add, ↓reduceIte] at hx110_0); (try simp only [show (4 : Int).toNat = 4 from rfl, Nat.reduceMul, Nat.reduceEqDiff, Go.Addr.add, ↓reduceIte] at hx110_1); (try simp only [show (4 : Int).toNat = 4 from rfl, Nat.reduceMul, Nat.reduceEqDiff, Go.Addr.add, ↓reduceIte] at hx110_2); (try simp only [show (4 : Int).toNat = 4 from rfl, Nat.reduceMul, Nat.reduceEqDiff, Go.Addr.add, ↓reduceIte] at hx110_3); (try simp only [show (4 : Int).toNat = 4 from rfl, Nat.reduceMul, Nat.reduceEqDiff, Go.Addr.add, ↓reduceIte] at hx110_4); have qi110 : (4 < t101.length) = True := eq_true (by omega); (try rw [show ((4 : Int)).toNat = 4 from rfl] at hx110_0); (try rw [show 4 * 5 = 20 from rfl] at hx110_0); (try rw [show ((4 : Int)).toNat = 4 from rfl] at hx110_1); (try rw [show 4 * 5 = 20 from rfl] at hx110_1); (try rw [show ((4 : Int)).toNat = 4 from rfl] at hx110_2); (try rw [show 4 * 5 = 20 from rfl] at hx110_2); (try rw [show ((4 : Int)).toNat = 4 from rfl] at hx110_3); (try rw [show 4 * 5 = 20 from rfl] at hx110_3); (try rw [show ((4 : Int)).toNat = 4 from rfl] at hx110_4); (try rw [show 4 * 5 = 20 from rfl] at hx110_4); replace p110 := eq_true p110; replace q110 := eq_true q110))
                go_ret
                exact ⟨by first | rfl | (simp [errW_none, errW_some] <;> rfl) | (simp [*, errW_none, errW_some] <;> rfl), by repeat (first | (with_reducible first | exact HB.out | apply below_alloc | apply pw_below_drewN | apply below_drew1) | exact HB.out)⟩
            · rw [if_neg c8] at H
              have c8b0 : (((rd_T26 t101 4).f1).toList == ([49, 46, 53] : List UInt8)) = false := beq_eq_false_iff_ne.mpr c8
              have c8b1 : (((rd_T26 t101 4).f1).toList != ([49, 46, 53] : List UInt8)) = true := bne_iff_ne.mpr c8
              obtain rfl := Option.some.inj H
              go_enter Tryd.func9, Tryd.ntmps9
              go_wp2_with (first | ((with_reducible refine gate_callee (f := 10) rfl ?_); refine goesL_ (some 3) rfl rfl Tryd.func10 (by kernel_rfl) rfl #[.string (⟨#[97, 123, 98, 58, 49, 46, 53, 101, 109, 125]⟩ : ByteArray)] rfl (by (try simp only [List.map_toArray, List.map_cons, List.map_nil]); first | done | rfl | (simp only [List.length_drop, List.length_take]; rfl)) ?_; (with_reducible refine (gouachelaw02_cut.calls (⟨#[97, 123, 98, 58, 49, 46, 53, 101, 109, 125]⟩ : ByteArray) t101 _ A1.out).mono ?_); rintro e w41 ⟨v102, rfl, ho0, hb⟩; refine ⟨_, rfl, ?_⟩; have n0_ := Aside0.mk (Kd.R_lower ho0 (below_size (by repeat (first | (with_reducible first | exact HB.out | apply below_alloc | apply pw_below_drewN | apply below_drew1) | exact HB.out)))); have n1_ := Aside0.mk (below_step (by repeat (first | (with_reducible first | exact HB.out | apply below_alloc | apply pw_below_drewN | apply below_drew1) | exact HB.out)) hb); clear HB; have HO103 := n0_; have HB := n1_; clear n0_ n1_; (try clear hb); (try clear hb2); (try clear hk); (try clear hi); (try clear ho0)) | ((with_reducible refine gate_callee (f := 10) rfl ?_); refine goesL_ (some 4) rfl rfl Tryd.func10 (by kernel_rfl) rfl #[.string (⟨#[34, 97, 10]⟩ : ByteArray)] rfl (by (try simp only [List.map_toArray, List.map_cons, List.map_nil]); first | done | rfl | (simp only [List.length_drop, List.length_take]; rfl)) ?_; (with_reducible refine (gouachelaw02_cut.calls (⟨#[34, 97, 10]⟩ : ByteArray) t104 _ A2.out).mono ?_); rintro e w42 ⟨v105, rfl, ho0, hb⟩; refine ⟨_, rfl, ?_⟩; have n0_ := Aside0.mk (Kd.R_elder' (by (with_reducible repeat (first | apply Kd.R_alloc | apply Kd.R_drewN | apply Kd.R_drew)); exact HO103.out) (Kd.R_base ho0) hb); have n1_ := Aside0.mk (Kd.R_lower (Kd.R_new' ho0 (Kd.R_lt (by (with_reducible repeat (first | apply Kd.R_alloc | apply Kd.R_drewN | apply Kd.R_drew)); exact HO103.out))) (below_size (by repeat (first | (with_reducible first | exact HB.out | apply below_alloc | apply pw_below_drewN | apply below_drew1) | exact HB.out)))); have n2_ := Aside0.mk (below_step (by repeat (first | (with_reducible first | exact HB.out | apply below_alloc | apply pw_below_drewN | apply below_drew1) | exact HB.out)) hb); clear HO103; clear HB; have HO103 := n0_; have HO106 := n1_; have HB := n2_; clear n0_ n1_ n2_; (try clear hb); (try clear hb2); (try clear hk); (try clear hi); (try clear ho0); obtain ⟨Ao43, co43, eo43⟩ := Kd.R_slice HO103.out; subst eo43; have p107 : 0 ≤ (0 : Int) := (by omega); have q107 : 0 < (t101.length : Int) := of_decide_eq_true (by first | (with_reducible assumption) | assumption); obtain ⟨ad107, e107, hx107_0, hx107_1, hx107_2, hx107_3, hx107_4⟩ := at_T26 (Kd.R_reads' HO103.out).2.2 0 p107 q107; cases e107; have qi107 : (0 < t101.length) = True := eq_true (by omega); (try rw [show ((0 : Int)).toNat = 0 from rfl] at hx107_0); (try rw [show 0 * 5 = 0 from rfl] at hx107_0); (try rw [Addr.add_zero'] at hx107_0); (try rw [show ((0 : Int)).toNat = 0 from rfl] at hx107_1); (try rw [show 0 * 5 = 0 from rfl] at hx107_1); (try rw [Addr.add_zero'] at hx107_1); (try rw [show ((0 : Int)).toNat = 0 from rfl] at hx107_2); (try rw [show 0 * 5 = 0 from rfl] at hx107_2); (try rw [Addr.add_zero'] at hx107_2); (try rw [show ((0 : Int)).toNat = 0 from rfl] at hx107_3); (try rw [show 0 * 5 = 0 from rfl] at hx107_3); (try rw [Addr.add_zero'] at hx107_3); (try rw [show ((0 : Int)).toNat = 0 from rfl] at hx107_4); (try rw [show 0 * 5 = 0 from rfl] at hx107_4); (try rw [Addr.add_zero'] at hx107_4); replace p107 := eq_true p107; replace q107 := eq_true q107; have p108 : 0 ≤ (4 : Int) := (by omega); have q108 : 4 < (t101.length : Int) := of_decide_eq_true (by first | (with_reducible assumption) | assumption); obtain ⟨ad108, e108, hx108_0, hx108_1, hx108_2, hx108_3, hx108_4⟩ := at_T26 (Kd.R_reads' HO103.out).2.2 4 p108 q108; obtain rfl : ad107 = ad108 := (by injection e108); (try simp only [show (4 : Int).toNat = 4 from rfl, Nat.reduceMul, Nat.reduceEqDiff, Go.Addr.add, ↓reduceIte] at hx108_0); (try simp only [show (4 : Int).toNat = 4 from rfl, Nat.reduceMul, Nat.reduceEqDiff, Go.Addr.add, ↓reduceIte] at hx108_1); (try simp only [show (4 : Int).toNat = 4 from rfl, Nat.reduceMul, Nat.reduceEqDiff, Go.Addr.add, ↓reduceIte] at hx108_2); (try simp only [show (4 : Int).toNat = 4 from rfl, Nat.reduceMul, Nat.reduceEqDiff, Go.Addr.add, ↓reduceIte] at hx108_3); (try simp only [show (4 : Int).toNat = 4 from rfl, Nat.reduceMul, Nat.reduceEqDiff, Go.Addr.add, ↓reduceIte] at hx108_4); have qi108 : (4 < t101.length) = True := eq_true (by omega); (try rw [show ((4 : Int)).toNat = 4 from rfl] at hx108_0); (try rw [show 4 * 5 = 20 from rfl] at hx108_0); (try rw [show ((4 : Int)).toNat = 4 from rfl] at hx108_1); (try rw [show 4 * 5 = 20 from rfl] at hx108_1); (try rw [show ((4 : Int)).toNat = 4 from rfl] at hx108_2); (try rw [show 4 * 5 = 20 from rfl] at hx108_2); (try rw [show ((4 : Int)).toNat = 4 from rfl] at hx108_3); (try rw [show 4 * 5 = 20 from rfl] at hx108_3); (try rw [show ((4 : Int)).toNat = 4 from rfl] at hx108_4); (try rw [show 4 * 5 = 20 from rfl] at hx108_4); replace p108 := eq_true p108; replace q108 := eq_true q108; have p109 : 0 ≤ (4 : Int) := (by omega); have q109 : 4 < (t101.length : Int) := of_decide_eq_true (by first | (with_reducible assumption) | assumption); obtain ⟨ad109, e109, hx109_0, hx109_1, hx109_2, hx109_3, hx109_4⟩ := at_T26 (Kd.R_reads' HO103.out).2.2 4 p109 q109; obtain rfl : ad107 = ad109 := (by injection e109); (try simp only [show (4 : Int).toNat = 4 from rfl, Nat.reduceMul, Nat.reduceEqDiff, Go.Addr.add, ↓reduceIte] at hx109_0); (try simp only [show (4 : Int).toNat = 4 from rfl, Nat.reduceMul, Nat.reduceEqDiff, Go.Addr.add, ↓reduceIte] at hx109_1); (try simp only [show (4 : Int).toNat = 4 from rfl, Nat.reduceMul, Nat.reduceEqDiff, Go.Addr.add, ↓reduceIte] at hx109_2); (try simp only [show (4 : Int).toNat = 4 from rfl, Nat.reduceMul, Nat.reduceEqDiff, Go.Addr.add, ↓reduceIte] at hx109_3); (try simp only [show (4 : Int).toNat = 4 from rfl, Nat.reduceMul, Nat.reduceEqDiff, Go.Addr.add, ↓reduceIte] at hx109_4); have qi109 : (4 < t101.length) = True := eq_true (by omega); (try rw [show ((4 : Int)).toNat = 4 from rfl] at hx109_0); (try rw [show 4 * 5 = 20 from rfl] at hx109_0); (try rw [show ((4 : Int)).toNat = 4 from rfl] at hx109_1); (try rw [show 4 * 5 = 20 from rfl] at hx109_1); (try rw [show ((4 : Int)).toNat = 4 from rfl] at hx109_2); (try rw [show 4 * 5 = 20 from rfl] at hx109_2); (try rw [show ((4 : Int)).toNat = 4 from rfl] at hx109_3); (try rw [show 4 * 5 = 20 from rfl] at hx109_3); (try rw [show ((4 : Int)).toNat = 4 from rfl] at hx109_4); (try rw [show 4 * 5 = 20 from rfl] at hx109_4); replace p109 := eq_true p109; replace q109 := eq_true q109))
              go_ret
              exact ⟨by first | rfl | (simp [errW_none, errW_some] <;> rfl) | (simp [*, errW_none, errW_some] <;> rfl), by repeat (first | (with_reducible first | exact HB.out | apply below_alloc | apply pw_below_drewN | apply below_drew1) | exact HB.out)⟩
          · rw [if_neg c7] at H
            have c7b0 : (((rd_T26 t101 4).f0) == 12) = false := beq_eq_false_iff_ne.mpr c7
            have c7b1 : (((rd_T26 t101 4).f0) != 12) = true := bne_iff_ne.mpr c7
            obtain rfl := Option.some.inj H
            go_enter Tryd.func9, Tryd.ntmps9
            go_wp2_with (first | ((with_reducible refine gate_callee (f := 10) rfl ?_); refine goesL_ (some 3) rfl rfl Tryd.func10 (by kernel_rfl) rfl #[.string (⟨#[97, 123, 98, 58, 49, 46, 53, 101, 109, 125]⟩ : ByteArray)] rfl (by (try simp only [List.map_toArray, List.map_cons, List.map_nil]); first | done | rfl | (simp only [List.length_drop, List.length_take]; rfl)) ?_; (with_reducible refine (gouachelaw02_cut.calls (⟨#[97, 123, 98, 58, 49, 46, 53, 101, 109, 125]⟩ : ByteArray) t101 _ A1.out).mono ?_); rintro e w44 ⟨v102, rfl, ho0, hb⟩; refine ⟨_, rfl, ?_⟩; have n0_ := Aside0.mk (Kd.R_lower ho0 (below_size (by repeat (first | (with_reducible first | exact HB.out | apply below_alloc | apply pw_below_drewN | apply below_drew1) | exact HB.out)))); have n1_ := Aside0.mk (below_step (by repeat (first | (with_reducible first | exact HB.out | apply below_alloc | apply pw_below_drewN | apply below_drew1) | exact HB.out)) hb); clear HB; have HO103 := n0_; have HB := n1_; clear n0_ n1_; (try clear hb); (try clear hb2); (try clear hk); (try clear hi); (try clear ho0)) | ((with_reducible refine gate_callee (f := 10) rfl ?_); refine goesL_ (some 4) rfl rfl Tryd.func10 (by kernel_rfl) rfl #[.string (⟨#[34, 97, 10]⟩ : ByteArray)] rfl (by (try simp only [List.map_toArray, List.map_cons, List.map_nil]); first | done | rfl | (simp only [List.length_drop, List.length_take]; rfl)) ?_; (with_reducible refine (gouachelaw02_cut.calls (⟨#[34, 97, 10]⟩ : ByteArray) t104 _ A2.out).mono ?_); rintro e w45 ⟨v105, rfl, ho0, hb⟩; refine ⟨_, rfl, ?_⟩; have n0_ := Aside0.mk (Kd.R_elder' (by (with_reducible repeat (first | apply Kd.R_alloc | apply Kd.R_drewN | apply Kd.R_drew)); exact HO103.out) (Kd.R_base ho0) hb); have n1_ := Aside0.mk (Kd.R_lower (Kd.R_new' ho0 (Kd.R_lt (by (with_reducible repeat (first | apply Kd.R_alloc | apply Kd.R_drewN | apply Kd.R_drew)); exact HO103.out))) (below_size (by repeat (first | (with_reducible first | exact HB.out | apply below_alloc | apply pw_below_drewN | apply below_drew1) | exact HB.out)))); have n2_ := Aside0.mk (below_step (by repeat (first | (with_reducible first | exact HB.out | apply below_alloc | apply pw_below_drewN | apply below_drew1) | exact HB.out)) hb); clear HO103; clear HB; have HO103 := n0_; have HO106 := n1_; have HB := n2_; clear n0_ n1_ n2_; (try clear hb); (try clear hb2); (try clear hk); (try clear hi); (try clear ho0); obtain ⟨Ao46, co46, eo46⟩ := Kd.R_slice HO103.out; subst eo46; have p107 : 0 ≤ (0 : Int) := (by omega); have q107 : 0 < (t101.length : Int) := of_decide_eq_true (by first | (with_reducible assumption) | assumption); obtain ⟨ad107, e107, hx107_0, hx107_1, hx107_2, hx107_3, hx107_4⟩ := at_T26 (Kd.R_reads' HO103.out).2.2 0 p107 q107; cases e107; have qi107 : (0 < t101.length) = True := eq_true (by omega); (try rw [show ((0 : Int)).toNat = 0 from rfl] at hx107_0); (try rw [show 0 * 5 = 0 from rfl] at hx107_0); (try rw [Addr.add_zero'] at hx107_0); (try rw [show ((0 : Int)).toNat = 0 from rfl] at hx107_1); (try rw [show 0 * 5 = 0 from rfl] at hx107_1); (try rw [Addr.add_zero'] at hx107_1); (try rw [show ((0 : Int)).toNat = 0 from rfl] at hx107_2); (try rw [show 0 * 5 = 0 from rfl] at hx107_2); (try rw [Addr.add_zero'] at hx107_2); (try rw [show ((0 : Int)).toNat = 0 from rfl] at hx107_3); (try rw [show 0 * 5 = 0 from rfl] at hx107_3); (try rw [Addr.add_zero'] at hx107_3); (try rw [show ((0 : Int)).toNat = 0 from rfl] at hx107_4); (try rw [show 0 * 5 = 0 from rfl] at hx107_4); (try rw [Addr.add_zero'] at hx107_4); replace p107 := eq_true p107; replace q107 := eq_true q107; have p108 : 0 ≤ (4 : Int) := (by omega); have q108 : 4 < (t101.length : Int) := of_decide_eq_true (by first | (with_reducible assumption) | assumption); obtain ⟨ad108, e108, hx108_0, hx108_1, hx108_2, hx108_3, hx108_4⟩ := at_T26 (Kd.R_reads' HO103.out).2.2 4 p108 q108; obtain rfl : ad107 = ad108 := (by injection e108); (try simp only [show (4 : Int).toNat = 4 from rfl, Nat.reduceMul, Nat.reduceEqDiff, Go.Addr.add, ↓reduceIte] at hx108_0); (try simp only [show (4 : Int).toNat = 4 from rfl, Nat.reduceMul, Nat.reduceEqDiff, Go.Addr.add, ↓reduceIte] at hx108_1); (try simp only [show (4 : Int).toNat = 4 from rfl, Nat.reduceMul, Nat.reduceEqDiff, Go.Addr.add, ↓reduceIte] at hx108_2); (try simp only [show (4 : Int).toNat = 4 from rfl, Nat.reduceMul, Nat.reduceEqDiff, Go.Addr.add, ↓reduceIte] at hx108_3); (try simp only [show (4 : Int).toNat = 4 from rfl, Nat.reduceMul, Nat.reduceEqDiff, Go.Addr.add, ↓reduceIte] at hx108_4); have qi108 : (4 < t101.length) = True := eq_true (by omega); (try rw [show ((4 : Int)).toNat = 4 from rfl] at hx108_0); (try rw [show 4 * 5 = 20 from rfl] at hx108_0); (try rw [show ((4 : Int)).toNat = 4 from rfl] at hx108_1); (try rw [show 4 * 5 = 20 from rfl] at hx108_1); (try rw [show ((4 : Int)).toNat = 4 from rfl] at hx108_2); (try rw [show 4 * 5 = 20 from rfl] at hx108_2); (try rw [show ((4 : Int)).toNat = 4 from rfl] at hx108_3); (try rw [show 4 * 5 = 20 from rfl] at hx108_3); (try rw [show ((4 : Int)).toNat = 4 from rfl] at hx108_4); (try rw [show 4 * 5 = 20 from rfl] at hx108_4); replace p108 := eq_true p108; replace q108 := eq_true q108))
            go_ret
            exact ⟨by first | rfl | (simp [errW_none, errW_some] <;> rfl) | (simp [*, errW_none, errW_some] <;> rfl), by repeat (first | (with_reducible first | exact HB.out | apply below_alloc | apply pw_below_drewN | apply below_drew1) | exact HB.out)⟩
        · rw [if_neg c6] at H
          exact absurd H (by simp)
      · rw [if_neg c5] at H
        have c5b0 : (((rd_T26 t101 0).f0) == 1) = false := beq_eq_false_iff_ne.mpr c5
        have c5b1 : (((rd_T26 t101 0).f0) != 1) = true := bne_iff_ne.mpr c5
        obtain rfl := Option.some.inj H
        go_enter Tryd.func9, Tryd.ntmps9
        go_wp2_with (first | ((with_reducible refine gate_callee (f := 10) rfl ?_); refine goesL_ (some 3) rfl rfl Tryd.func10 (by kernel_rfl) rfl #[.string (⟨#[97, 123, 98, 58, 49, 46, 53, 101, 109, 125]⟩ : ByteArray)] rfl (by (try simp only [List.map_toArray, List.map_cons, List.map_nil]); first | done | rfl | (simp only [List.length_drop, List.length_take]; rfl)) ?_; (with_reducible refine (gouachelaw02_cut.calls (⟨#[97, 123, 98, 58, 49, 46, 53, 101, 109, 125]⟩ : ByteArray) t101 _ A1.out).mono ?_); rintro e w47 ⟨v102, rfl, ho0, hb⟩; refine ⟨_, rfl, ?_⟩; have n0_ := Aside0.mk (Kd.R_lower ho0 (below_size (by repeat (first | (with_reducible first | exact HB.out | apply below_alloc | apply pw_below_drewN | apply below_drew1) | exact HB.out)))); have n1_ := Aside0.mk (below_step (by repeat (first | (with_reducible first | exact HB.out | apply below_alloc | apply pw_below_drewN | apply below_drew1) | exact HB.out)) hb); clear HB; have HO103 := n0_; have HB := n1_; clear n0_ n1_; (try clear hb); (try clear hb2); (try clear hk); (try clear hi); (try clear ho0)) | ((with_reducible refine gate_callee (f := 10) rfl ?_); refine goesL_ (some 4) rfl rfl Tryd.func10 (by kernel_rfl) rfl #[.string (⟨#[34, 97, 10]⟩ : ByteArray)] rfl (by (try simp only [List.map_toArray, List.map_cons, List.map_nil]); first | done | rfl | (simp only [List.length_drop, List.length_take]; rfl)) ?_; (with_reducible refine (gouachelaw02_cut.calls (⟨#[34, 97, 10]⟩ : ByteArray) t104 _ A2.out).mono ?_); rintro e w48 ⟨v105, rfl, ho0, hb⟩; refine ⟨_, rfl, ?_⟩; have n0_ := Aside0.mk (Kd.R_elder' (by (with_reducible repeat (first | apply Kd.R_alloc | apply Kd.R_drewN | apply Kd.R_drew)); exact HO103.out) (Kd.R_base ho0) hb); have n1_ := Aside0.mk (Kd.R_lower (Kd.R_new' ho0 (Kd.R_lt (by (with_reducible repeat (first | apply Kd.R_alloc | apply Kd.R_drewN | apply Kd.R_drew)); exact HO103.out))) (below_size (by repeat (first | (with_reducible first | exact HB.out | apply below_alloc | apply pw_below_drewN | apply below_drew1) | exact HB.out)))); have n2_ := Aside0.mk (below_step (by repeat (first | (with_reducible first | exact HB.out | apply below_alloc | apply pw_below_drewN | apply below_drew1) | exact HB.out)) hb); clear HO103; clear HB; have HO103 := n0_; have HO106 := n1_; have HB := n2_; clear n0_ n1_ n2_; (try clear hb); (try clear hb2); (try clear hk); (try clear hi); (try clear ho0); obtain ⟨Ao49, co49, eo49⟩ := Kd.R_slice HO103.out; subst eo49; have p107 : 0 ≤ (0 : Int) := (by omega); have q107 : 0 < (t101.length : Int) := of_decide_eq_true (by first | (with_reducible assumption) | assumption); obtain ⟨ad107, e107, hx107_0, hx107_1, hx107_2, hx107_3, hx107_4⟩ := at_T26 (Kd.R_reads' HO103.out).2.2 0 p107 q107; cases e107; have qi107 : (0 < t101.length) = True := eq_true (by omega); (try rw [show ((0 : Int)).toNat = 0 from rfl] at hx107_0); (try rw [show 0 * 5 = 0 from rfl] at hx107_0); (try rw [Addr.add_zero'] at hx107_0); (try rw [show ((0 : Int)).toNat = 0 from rfl] at hx107_1); (try rw [show 0 * 5 = 0 from rfl] at hx107_1); (try rw [Addr.add_zero'] at hx107_1); (try rw [show ((0 : Int)).toNat = 0 from rfl] at hx107_2); (try rw [show 0 * 5 = 0 from rfl] at hx107_2); (try rw [Addr.add_zero'] at hx107_2); (try rw [show ((0 : Int)).toNat = 0 from rfl] at hx107_3); (try rw [show 0 * 5 = 0 from rfl] at hx107_3); (try rw [Addr.add_zero'] at hx107_3); (try rw [show ((0 : Int)).toNat = 0 from rfl] at hx107_4); (try rw [show 0 * 5 = 0 from rfl] at hx107_4); (try rw [Addr.add_zero'] at hx107_4); replace p107 := eq_true p107; replace q107 := eq_true q107))
        go_ret
        exact ⟨by first | rfl | (simp [errW_none, errW_some] <;> rfl) | (simp [*, errW_none, errW_some] <;> rfl), by repeat (first | (with_reducible first | exact HB.out | apply below_alloc | apply pw_below_drewN | apply below_drew1) | exact HB.out)⟩
    · rw [if_neg c4] at H
      exact absurd H (by simp)
  · rw [if_neg c3] at H
    have c3b0 : ((t101.length : Int) == 6) = false := beq_eq_false_iff_ne.mpr c3
    have c3b1 : ((t101.length : Int) != 6) = true := bne_iff_ne.mpr c3
    obtain rfl := Option.some.inj H
    go_enter Tryd.func9, Tryd.ntmps9
    go_wp2_with (first | ((with_reducible refine gate_callee (f := 10) rfl ?_); refine goesL_ (some 3) rfl rfl Tryd.func10 (by kernel_rfl) rfl #[.string (⟨#[97, 123, 98, 58, 49, 46, 53, 101, 109, 125]⟩ : ByteArray)] rfl (by (try simp only [List.map_toArray, List.map_cons, List.map_nil]); first | done | rfl | (simp only [List.length_drop, List.length_take]; rfl)) ?_; (with_reducible refine (gouachelaw02_cut.calls (⟨#[97, 123, 98, 58, 49, 46, 53, 101, 109, 125]⟩ : ByteArray) t101 _ A1.out).mono ?_); rintro e w50 ⟨v102, rfl, ho0, hb⟩; refine ⟨_, rfl, ?_⟩; have n0_ := Aside0.mk (Kd.R_lower ho0 (below_size (by repeat (first | (with_reducible first | exact HB.out | apply below_alloc | apply pw_below_drewN | apply below_drew1) | exact HB.out)))); have n1_ := Aside0.mk (below_step (by repeat (first | (with_reducible first | exact HB.out | apply below_alloc | apply pw_below_drewN | apply below_drew1) | exact HB.out)) hb); clear HB; have HO103 := n0_; have HB := n1_; clear n0_ n1_; (try clear hb); (try clear hb2); (try clear hk); (try clear hi); (try clear ho0)) | ((with_reducible refine gate_callee (f := 10) rfl ?_); refine goesL_ (some 4) rfl rfl Tryd.func10 (by kernel_rfl) rfl #[.string (⟨#[34, 97, 10]⟩ : ByteArray)] rfl (by (try simp only [List.map_toArray, List.map_cons, List.map_nil]); first | done | rfl | (simp only [List.length_drop, List.length_take]; rfl)) ?_; (with_reducible refine (gouachelaw02_cut.calls (⟨#[34, 97, 10]⟩ : ByteArray) t104 _ A2.out).mono ?_); rintro e w51 ⟨v105, rfl, ho0, hb⟩; refine ⟨_, rfl, ?_⟩; have n0_ := Aside0.mk (Kd.R_elder' (by (with_reducible repeat (first | apply Kd.R_alloc | apply Kd.R_drewN | apply Kd.R_drew)); exact HO103.out) (Kd.R_base ho0) hb); have n1_ := Aside0.mk (Kd.R_lower (Kd.R_new' ho0 (Kd.R_lt (by (with_reducible repeat (first | apply Kd.R_alloc | apply Kd.R_drewN | apply Kd.R_drew)); exact HO103.out))) (below_size (by repeat (first | (with_reducible first | exact HB.out | apply below_alloc | apply pw_below_drewN | apply below_drew1) | exact HB.out)))); have n2_ := Aside0.mk (below_step (by repeat (first | (with_reducible first | exact HB.out | apply below_alloc | apply pw_below_drewN | apply below_drew1) | exact HB.out)) hb); clear HO103; clear HB; have HO103 := n0_; have HO106 := n1_; have HB := n2_; clear n0_ n1_ n2_; (try clear hb); (try clear hb2); (try clear hk); (try clear hi); (try clear ho0); obtain ⟨Ao52, co52, eo52⟩ := Kd.R_slice HO103.out; subst eo52))
    go_ret
    exact ⟨by first | rfl | (simp [errW_none, errW_some] <;> rfl) | (simp [*, errW_none, errW_some] <;> rfl), by repeat (first | (with_reducible first | exact HB.out | apply below_alloc | apply pw_below_drewN | apply below_drew1) | exact HB.out)⟩
end Go.Proofs.YtpnlbmeeihbjaabDoor.P
end
section
set_option linter.unusedVariables false
set_option linter.unusedSimpArgs false
namespace Go.Proofs.YtpnlbmeeihbjaabDoor.P
open Go.RowKit Go.Proofs.YtpnlbmeeihbjaabDoorW.PrintWords Go.Proofs.YtpnlbmeeihbjaabDoorW.PrintLast Go.Proofs.YtpnlbmeeihbjaabDoorW.PrintMore
attribute [local go_sem] max2_int min2_int max_two min_two max_three min_three max_four min_four
set_option linter.unusedVariables false
set_option linter.unusedSimpArgs false
mutual
def gouachelaw02_TokenSpaces.l0 : Nat → ByteArray → Int → Option (Bool)
  | 0, _, _ => none
  | k + 1, x0, x3 => if x3 < (x0.size : Int) then (if 0 ≤ x3 then (if (bt x0 x3) = 47 then ((gouachelaw02_lives.f).bind fun t102 => (some t102)) else (gouachelaw02_TokenSpaces.l0 k x0 (wrap64 (x3 + 1)))) else (none)) else ((gouachelaw02_cut.f x0).bind fun t103 => (gouachelaw02_TokenSpaces.l1 k x0 t103 1))
def gouachelaw02_TokenSpaces.l1 : Nat → ByteArray → List (S26) → Int → Option (Bool)
  | 0, _, _, _ => none
  | k + 1, x0, x4, x5 => if x5 < (x4.length : Int) then (if 0 ≤ x5 then (if ((rd_T26 x4 x5).f0) = 13 then (if 0 ≤ (wrap64 (x5 - 1)) then (if (wrap64 (x5 - 1)) < (x4.length : Int) then (if ((rd_T26 x4 (wrap64 (x5 - 1))).f0) = 13 then (some false) else (gouachelaw02_TokenSpaces.l1 k x0 x4 (wrap64 (x5 + 1)))) else (none)) else (none)) else (gouachelaw02_TokenSpaces.l1 k x0 x4 (wrap64 (x5 + 1)))) else (none)) else (if 1 + x0.size ≤ 9223372036854775807 then ((gouachelaw02_cut.f ((⟨#[40]⟩ : ByteArray) ++ x0)).bind fun t108 => (if (t108.length : Int) = (wrap64 ((x4.length : Int) + 1)) then (if 0 < (t108.length : Int) then (if ((rd_T26 t108 0).f0) = 21 then (if 1 ≤ (t108.length : Int) then ((gouacheref02_Same.f k (t108.drop 1) x4).bind fun t116 => (if t116 = true then ((gouachelaw02_cut.f (⟨#[32, 9, 10, 32]⟩ : ByteArray)).bind fun t117 => (if (t117.length : Int) = 1 then ((gouachelaw02_lives.f).bind fun t120 => (some t120)) else (some false))) else (some false))) else (none)) else (some false)) else (none)) else (some false))) else (none))
end
def gouachelaw02_TokenSpaces.f (k : Nat) (a0 : ByteArray) : Option (Bool) := if (a0.size : Int) > 2000 then ((gouachelaw02_lives.f).bind fun t101 => (some t101)) else (gouachelaw02_TokenSpaces.l0 k a0 0)
set_option maxHeartbeats 8000000 in
set_option maxRecDepth 100000 in
theorem gouachelaw02_TokenSpaces.calls (k : Nat) (a0 : ByteArray) (r : Bool) (w : World) (h : gouachelaw02_TokenSpaces.f k a0 = some r) (hT : WT w) :
    Calls Tryd.prog 4 #[.string a0] w fun e w' => e = .returned (.bool r) ∧ Below w.heap.size w w' := by
  have HT := Aside0.mk hT
  clear hT
  have HB := Aside0.mk (Below.refl w.heap.size w)
  have H : (if (a0.size : Int) > 2000 then ((gouachelaw02_lives.f).bind fun t101 => (some t101)) else (gouachelaw02_TokenSpaces.l0 k a0 0)) = some r := h
  clear h
  by_cases c2 : (a0.size : Int) > 2000
  · rw [if_pos c2] at H
    have c2b0 : decide (2000 < (a0.size : Int)) = true := decide_eq_true c2
    have c2b1 : decide (2000 < a0.size) = true := decide_eq_true (by omega)
    clear c2
    replace H := Option.bind_eq_some_iff.mp H
    obtain ⟨t101, A30, H⟩ := H
    replace H : (some t101) = some r := H
    have A3 := Aside0.mk A30
    clear A30
    obtain rfl := Option.some.inj H
    go_enter Tryd.func4, Tryd.ntmps4
    go_wp2_with (first | ((with_reducible refine gate_callee (f := 9) rfl ?_); refine goesL_ (some 10) rfl rfl Tryd.func9 (by kernel_rfl) rfl #[] rfl (by (try simp only [List.map_toArray, List.map_cons, List.map_nil]); first | done | rfl | (simp only [List.length_drop, List.length_take]; rfl)) ?_; (with_reducible refine (gouachelaw02_lives.calls  t101 _ A3.out (HT.out.below (by repeat (first | (with_reducible first | exact HB.out | apply below_alloc | apply pw_below_drewN | apply below_drew1) | exact HB.out)))).mono ?_); rintro e w4 ⟨rfl, hb⟩; refine ⟨_, rfl, ?_⟩; have n0_ := Aside0.mk (below_step (by repeat (first | (with_reducible first | exact HB.out | apply below_alloc | apply pw_below_drewN | apply below_drew1) | exact HB.out)) hb); clear HB; have HB := n0_; clear n0_; (try clear hb); (try clear hb2); (try clear hk); (try clear hi)))
    go_ret
    exact ⟨by first | rfl | (simp [errW_none, errW_some] <;> rfl) | (simp [*, errW_none, errW_some] <;> rfl), by repeat (first | (with_reducible first | exact HB.out | apply below_alloc | apply pw_below_drewN | apply below_drew1) | exact HB.out)⟩
  · rw [if_neg c2] at H
    have c2b0 : decide (2000 < (a0.size : Int)) = false := decide_eq_false c2
    have c2b1 : decide (2000 < a0.size) = false := decide_eq_false (by omega)
    clear c2
    have H' := Aside0.mk H
    clear H
    go_enter Tryd.func4, Tryd.ntmps4
    go_wp2
    go_loopg [3] k (fun kq v3 w' => ∃ (x3_1 : Int), v3 = .int .i64 x3_1 ∧ Aside0 (gouachelaw02_TokenSpaces.l0 kq a0 x3_1 = some r) ∧ Aside0 (kq ≤ k) ∧ Aside0 (Below w.heap.size w w'))
    case atStart => exact ⟨(0), (by first | rfl | (simp; done) | (simp [*]; done)), H', ⟨Nat.le_refl _⟩, ⟨by repeat (first | (with_reducible first | exact HB.out | apply below_alloc | apply pw_below_drewN | apply below_drew1) | exact HB.out)⟩⟩
    case round =>
      clear H'
      try clear c2
      try clear c2b0
      try clear c2b1
      try clear p2
      try clear c4
      obtain ⟨x3_1, rfl, HA, HK1, HB⟩ := hrel
      cases gk with
      | zero => exact absurd HA.out (by simp [gouachelaw02_TokenSpaces.l0])
      | succ k1 =>
        have H := HA.out
        clear HA
        simp only [gouachelaw02_TokenSpaces.l0] at H
        by_cases c5 : x3_1 < (a0.size : Int)
        · rw [if_pos c5] at H
          have c5b0 : decide (x3_1 < (a0.size : Int)) = true := decide_eq_true c5
          clear c5
          by_cases c6 : 0 ≤ x3_1
          · rw [if_pos c6] at H
            have c6b0 : decide (0 ≤ x3_1) = true := decide_eq_true c6
            clear c6
            by_cases c8 : (bt a0 x3_1) = 47
            · rw [if_pos c8] at H
              have c8b0 : ((bt a0 x3_1) == 47) = true := beq_iff_eq.mpr c8
              have c8b1 : ((bt a0 x3_1) != 47) = false := bne_eq_false_iff_eq.mpr c8
              clear c8
              replace H := Option.bind_eq_some_iff.mp H
              obtain ⟨t102, A90, H⟩ := H
              replace H : (some t102) = some r := H
              have A9 := Aside0.mk A90
              clear A90
              obtain rfl := Option.some.inj H
              have p7 : 0 ≤ (x3_1 : Int) := of_decide_eq_true (by first | (with_reducible assumption) | assumption)
              have q7 : x3_1 < (a0.size : Int) := of_decide_eq_true (by first | (with_reducible assumption) | assumption)
              have hx7 := bt_at a0 x3_1
              replace p7 := eq_true p7
              replace q7 := eq_true q7
              go_wp2_with (first | ((with_reducible refine gate_callee (f := 9) rfl ?_); refine goesL_ (some 21) rfl rfl Tryd.func9 (by kernel_rfl) rfl #[] rfl (by (try simp only [List.map_toArray, List.map_cons, List.map_nil]); first | done | rfl | (simp only [List.length_drop, List.length_take]; rfl)) ?_; (with_reducible refine (gouachelaw02_lives.calls  t102 _ A9.out (HT.out.below (by repeat (first | (with_reducible first | exact HB.out | apply below_alloc | apply pw_below_drewN | apply below_drew1) | exact HB.out)))).mono ?_); rintro e w10 ⟨rfl, hb⟩; refine ⟨_, rfl, ?_⟩; have n0_ := Aside0.mk (below_step (by repeat (first | (with_reducible first | exact HB.out | apply below_alloc | apply pw_below_drewN | apply below_drew1) | exact HB.out)) hb); clear HB; have HB := n0_; clear n0_; (try clear hb); (try clear hb2); (try clear hk); (try clear hi)))
              go_ret
              exact ⟨by first | rfl | (simp [errW_none, errW_some] <;> rfl) | (simp [*, errW_none, errW_some] <;> rfl), by repeat (first | (with_reducible first | exact HB.out | apply below_alloc | apply pw_below_drewN | apply below_drew1) | exact HB.out)⟩
            · rw [if_neg c8] at H
              have c8b0 : ((bt a0 x3_1) == 47) = false := beq_eq_false_iff_ne.mpr c8
              have c8b1 : ((bt a0 x3_1) != 47) = true := bne_iff_ne.mpr c8
              have H' := Aside0.mk H
              clear H
              have p7 : 0 ≤ (x3_1 : Int) := of_decide_eq_true (by first | (with_reducible assumption) | assumption)
              have q7 : x3_1 < (a0.size : Int) := of_decide_eq_true (by first | (with_reducible assumption) | assumption)
              have hx7 := bt_at a0 x3_1
              replace p7 := eq_true p7
              replace q7 := eq_true q7
              go_wp2
              go_roundg k1
              case measure => have := HK1.out; omega
              case rel => exact ⟨(wrap64 (x3_1 + 1)), (by first | rfl | (simp; done) | (simp [*]; done)), H', ⟨by have := HK1.out; omega⟩, ⟨by repeat (first | (with_reducible first | exact HB.out | apply below_alloc | apply pw_below_drewN | apply below_drew1) | exact HB.out)⟩⟩
          · rw [if_neg c6] at H
            exact absurd H (by simp)
        · rw [if_neg c5] at H
          have c5b0 : decide (x3_1 < (a0.size : Int)) = false := decide_eq_false c5
          clear c5
          replace H := Option.bind_eq_some_iff.mp H
          obtain ⟨t103, A110, H⟩ := H
          replace H : (gouachelaw02_TokenSpaces.l1 k1 a0 t103 1) = some r := H
          have A11 := Aside0.mk A110
          clear A110
          have H' := Aside0.mk H
          clear H
          go_wp2_with (first | ((with_reducible refine gate_callee (f := 10) rfl ?_); refine goesL_ (some 23) rfl rfl Tryd.func10 (by kernel_rfl) rfl #[.string a0] rfl (by (try simp only [List.map_toArray, List.map_cons, List.map_nil]); first | done | rfl | (simp only [List.length_drop, List.length_take]; rfl)) ?_; (with_reducible refine (gouachelaw02_cut.calls a0 t103 _ A11.out).mono ?_); rintro e w12 ⟨v104, rfl, ho0, hb⟩; refine ⟨_, rfl, ?_⟩; have n0_ := Aside0.mk (Kd.R_lower ho0 (below_size (by repeat (first | (with_reducible first | exact HB.out | apply below_alloc | apply pw_below_drewN | apply below_drew1) | exact HB.out)))); have n1_ := Aside0.mk (below_step (by repeat (first | (with_reducible first | exact HB.out | apply below_alloc | apply pw_below_drewN | apply below_drew1) | exact HB.out)) hb); clear HB; have HO105 := n0_; have HB := n1_; clear n0_ n1_; (try clear hb); (try clear hb2); (try clear hk); (try clear hi); (try clear ho0)))
          go_loopg [5] k1 (fun kq v5 w' => ∃ (x5_2 : Int), v5 = .int .i64 x5_2 ∧ Aside0 (gouachelaw02_TokenSpaces.l1 kq a0 t103 x5_2 = some r) ∧ Aside0 (kq ≤ k1) ∧ Aside0 (Kd.R k26 26 w' w.heap.size (fun _ => True) v104 t103) ∧ Aside0 (Below w.heap.size w w'))
          case atStart => exact ⟨(1), (by first | rfl | (simp; done) | (simp [*]; done)), H', ⟨Nat.le_refl _⟩, ⟨by (with_reducible repeat (first | apply Kd.R_alloc | apply Kd.R_drewN | apply Kd.R_drew)); exact HO105.out⟩, ⟨by repeat (first | (with_reducible first | exact HB.out | apply below_alloc | apply pw_below_drewN | apply below_drew1) | exact HB.out)⟩⟩
          case round =>
            clear H'
            try clear c1
            try clear c2
            try clear c2b0
            try clear c2b1
            try clear p2
            try clear c4
            try clear c5
            try clear c5b0
            try clear c6
            try clear c6b0
            try clear p6
            try clear p7
            try clear q7
            try clear hx7
            try clear c8
            try clear c8b0
            try clear c8b1
            try clear c9
            try clear c10
            try clear p2
            try clear p7
            try clear q7
            obtain ⟨x5_2, rfl, HA, HK2, HO_4, HB⟩ := hrel
            cases gk with
            | zero => exact absurd HA.out (by simp [gouachelaw02_TokenSpaces.l1])
            | succ k2 =>
              have H := HA.out
              clear HA
              simp only [gouachelaw02_TokenSpaces.l1] at H
              by_cases c13 : x5_2 < (t103.length : Int)
              · rw [if_pos c13] at H
                have c13b0 : decide (x5_2 < (t103.length : Int)) = true := decide_eq_true c13
                clear c13
                by_cases c14 : 0 ≤ x5_2
                · rw [if_pos c14] at H
                  have c14b0 : decide (0 ≤ x5_2) = true := decide_eq_true c14
                  clear c14
                  by_cases c15 : ((rd_T26 t103 x5_2).f0) = 13
                  · rw [if_pos c15] at H
                    have c15b0 : (((rd_T26 t103 x5_2).f0) == 13) = true := beq_iff_eq.mpr c15
                    have c15b1 : (((rd_T26 t103 x5_2).f0) != 13) = false := bne_eq_false_iff_eq.mpr c15
                    clear c15
                    obtain ⟨ji16, hji16⟩ : ∃ j_ : Int, (wrap64 (x5_2 - 1)) = j_ := ⟨_, rfl⟩
                    replace H : (if 0 ≤ (ji16) then (if (ji16) < (t103.length : Int) then (if ((rd_T26 t103 (ji16)).f0) = 13 then (some false) else (gouachelaw02_TokenSpaces.l1 k2 a0 t103 (wrap64 (x5_2 + 1)))) else (none)) else (none)) = some r := by first | (rw [hji16] at H; exact H) | (simp only [hji16] at H ⊢; exact H)
                    have hji16w : (IntKind.i64.wrap (x5_2 - 1)) = ji16 := (i64_w _).trans hji16
                    by_cases c17 : 0 ≤ (ji16)
                    · rw [if_pos c17] at H
                      have c17b0 : decide (0 ≤ (ji16)) = true := decide_eq_true c17
                      clear c17
                      by_cases c18 : (ji16) < (t103.length : Int)
                      · rw [if_pos c18] at H
                        have c18b0 : decide ((ji16) < (t103.length : Int)) = true := decide_eq_true c18
                        clear c18
                        by_cases c19 : ((rd_T26 t103 (ji16)).f0) = 13
                        · rw [if_pos c19] at H
                          have c19b0 : (((rd_T26 t103 (ji16)).f0) == 13) = true := beq_iff_eq.mpr c19
                          have c19b1 : (((rd_T26 t103 (ji16)).f0) != 13) = false := bne_eq_false_iff_eq.mpr c19
                          clear c19
                          obtain rfl := Option.some.inj H
                          obtain ⟨Ao20, co20, eo20⟩ := Kd.R_slice HO_4.out
                          subst eo20
                          have p106 : 0 ≤ (x5_2 : Int) := of_decide_eq_true (by first | (with_reducible assumption) | assumption)
                          have q106 : x5_2 < (t103.length : Int) := of_decide_eq_true (by first | (with_reducible assumption) | assumption)
                          obtain ⟨ad106, e106, hx106_0, hx106_1, hx106_2, hx106_3, hx106_4⟩ := at_T26 (Kd.R_reads' HO_4.out).2.2 x5_2 p106 q106
                          cases e106
                          replace p106 := eq_true p106
                          replace q106 := eq_true q106
                          have p107 : 0 ≤ ((ji16) : Int) := of_decide_eq_true (by first | (with_reducible assumption) | assumption)
                          have q107 : (ji16) < (t103.length : Int) := of_decide_eq_true (by first | (with_reducible assumption) | assumption)
                          obtain ⟨ad107, e107, hx107_0, hx107_1, hx107_2, hx107_3, hx107_4⟩ := at_T26 (Kd.R_reads' HO_4.out).2.2 (ji16) p107 q107
                          obtain rfl : ad106 = ad107 := (by injection e107)
                          replace p107 := eq_true p107
                          replace q107 := eq_true q107
                          go_wp2
                          go_ret
                          exact ⟨by first | rfl | (simp [errW_none, errW_some] <;> rfl) | (simp only [← hji16]; first | rfl | (simp [errW_none, errW_some] <;> rfl)) | (simp [*, errW_none, errW_some] <;> rfl), by repeat (first | (with_reducible first | exact HB.out | apply below_alloc | apply pw_below_drewN | apply below_drew1) | exact HB.out)⟩
                        · rw [if_neg c19] at H
                          have c19b0 : (((rd_T26 t103 (ji16)).f0) == 13) = false := beq_eq_false_iff_ne.mpr c19
                          have c19b1 : (((rd_T26 t103 (ji16)).f0) != 13) = true := bne_iff_ne.mpr c19
                          have H' := Aside0.mk H
                          clear H
                          obtain ⟨Ao21, co21, eo21⟩ := Kd.R_slice HO_4.out
                          subst eo21
                          have p106 : 0 ≤ (x5_2 : Int) := of_decide_eq_true (by first | (with_reducible assumption) | assumption)
                          have q106 : x5_2 < (t103.length : Int) := of_decide_eq_true (by first | (with_reducible assumption) | assumption)
                          obtain ⟨ad106, e106, hx106_0, hx106_1, hx106_2, hx106_3, hx106_4⟩ := at_T26 (Kd.R_reads' HO_4.out).2.2 x5_2 p106 q106
                          cases e106
                          replace p106 := eq_true p106
                          replace q106 := eq_true q106
                          have p107 : 0 ≤ ((ji16) : Int) := of_decide_eq_true (by first | (with_reducible assumption) | assumption)
                          have q107 : (ji16) < (t103.length : Int) := of_decide_eq_true (by first | (with_reducible assumption) | assumption)
                          obtain ⟨ad107, e107, hx107_0, hx107_1, hx107_2, hx107_3, hx107_4⟩ := at_T26 (Kd.R_reads' HO_4.out).2.2 (ji16) p107 q107
                          obtain rfl : ad106 = ad107 := (by injection e107)
                          replace p107 := eq_true p107
                          replace q107 := eq_true q107
                          go_wp2
                          go_roundg k2
                          case measure => have := HK1.out; have := HK2.out; omega
                          case rel => exact ⟨(wrap64 (x5_2 + 1)), (by first | rfl | (simp; done) | (simp [*]; done)), H', ⟨by have := HK1.out; have := HK2.out; omega⟩, ⟨by (with_reducible repeat (first | apply Kd.R_alloc | apply Kd.R_drewN | apply Kd.R_drew)); exact HO_4.out⟩, ⟨by repeat (first | (with_reducible first | exact HB.out | apply below_alloc | apply pw_below_drewN | apply below_drew1) | exact HB.out)⟩⟩
                      · rw [if_neg c18] at H
                        exact absurd H (by simp)
                    · rw [if_neg c17] at H
                      exact absurd H (by simp)
                  · rw [if_neg c15] at H
                    have c15b0 : (((rd_T26 t103 x5_2).f0) == 13) = false := beq_eq_false_iff_ne.mpr c15
                    have c15b1 : (((rd_T26 t103 x5_2).f0) != 13) = true := bne_iff_ne.mpr c15
                    have H' := Aside0.mk H
                    clear H
                    obtain ⟨Ao22, co22, eo22⟩ := Kd.R_slice HO_4.out
                    subst eo22
                    have p106 : 0 ≤ (x5_2 : Int) := of_decide_eq_true (by first | (with_reducible assumption) | assumption)
                    have q106 : x5_2 < (t103.length : Int) := of_decide_eq_true (by first | (with_reducible assumption) | assumption)
                    obtain ⟨ad106, e106, hx106_0, hx106_1, hx106_2, hx106_3, hx106_4⟩ := at_T26 (Kd.R_reads' HO_4.out).2.2 x5_2 p106 q106
                    cases e106
                    replace p106 := eq_true p106
                    replace q106 := eq_true q106
                    go_wp2
                    go_roundg k2
                    case measure => have := HK1.out; have := HK2.out; omega
                    case rel => exact ⟨(wrap64 (x5_2 + 1)), (by first | rfl | (simp; done) | (simp [*]; done)), H', ⟨by have := HK1.out; have := HK2.out; omega⟩, ⟨by (with_reducible repeat (first | apply Kd.R_alloc | apply Kd.R_drewN | apply Kd.R_drew)); exact HO_4.out⟩, ⟨by repeat (first | (with_reducible first | exact HB.out | apply below_alloc | apply pw_below_drewN | apply below_drew1) | exact HB.out)⟩⟩
                · rw [if_neg c14] at H
                  exact absurd H (by simp)
              · rw [if_neg c13] at H
                have c13b0 : decide (x5_2 < (t103.length : Int)) = false := decide_eq_false c13
                clear c13
                by_cases c23 : 1 + a0.size ≤ 9223372036854775807
                · rw [if_pos c23] at H
                  have c23b0 := eq_true c23
                  have c23b1 : decide (1 + a0.size ≤ 9223372036854775807) = true := decide_eq_true c23
                  try have c23b2 : (9223372036854775807 < 1 + a0.size) = False := eq_false (Nat.not_lt.2 c23)
                  replace H := Option.bind_eq_some_iff.mp H
                  obtain ⟨t108, A240, H⟩ := H
                  replace H : (if (t108.length : Int) = (wrap64 ((t103.length : Int) + 1)) then (if 0 < (t108.length : Int) then (if ((rd_T26 t108 0).f0) = 21 then (if 1 ≤ (t108.length : Int) then ((gouacheref02_Same.f k2 (t108.drop 1) t103).bind fun t116 => (if t116 = true then ((gouachelaw02_cut.f (⟨#[32, 9, 10, 32]⟩ : ByteArray)).bind fun t117 => (if (t117.length : Int) = 1 then ((gouachelaw02_lives.f).bind fun t120 => (some t120)) else (some false))) else (some false))) else (none)) else (some false)) else (none)) else (some false)) = some r := H
                  have A24 := Aside0.mk A240
                  clear A240
                  by_cases c25 : (t108.length : Int) = (wrap64 ((t103.length : Int) + 1))
                  · rw [if_pos c25] at H
                    have c25b0 : ((t108.length : Int) == (wrap64 ((t103.length : Int) + 1))) = true := beq_iff_eq.mpr c25
                    have c25b1 : ((t108.length : Int) != (wrap64 ((t103.length : Int) + 1))) = false := bne_eq_false_iff_eq.mpr c25
                    clear c25
                    by_cases c26 : 0 < (t108.length : Int)
                    · rw [if_pos c26] at H
                      have c26b0 : decide (0 < (t108.length : Int)) = true := decide_eq_true c26
                      have c26b1 : decide (0 < t108.length) = true := decide_eq_true (by omega)
                      clear c26
                      by_cases c27 : ((rd_T26 t108 0).f0) = 21
                      · rw [if_pos c27] at H
                        have c27b0 : (((rd_T26 t108 0).f0) == 21) = true := beq_iff_eq.mpr c27
                        have c27b1 : (((rd_T26 t108 0).f0) != 21) = false := bne_eq_false_iff_eq.mpr c27
                        clear c27
                        by_cases c28 : 1 ≤ (t108.length : Int)
                        · rw [if_pos c28] at H
                          have c28b0 := eq_true c28
                          have c28b1 : decide (1 ≤ (t108.length : Int)) = true := decide_eq_true c28
                          clear c28
                          obtain ⟨y112, hy112⟩ : ∃ y_ : List (S26), y_ = (t108.drop 1) := ⟨_, rfl⟩
                          replace H : ((gouacheref02_Same.f k2 y112 t103).bind fun t116 => (if t116 = true then ((gouachelaw02_cut.f (⟨#[32, 9, 10, 32]⟩ : ByteArray)).bind fun t117 => (if (t117.length : Int) = 1 then ((gouachelaw02_lives.f).bind fun t120 => (some t120)) else (some false))) else (some false))) = some r := by first | (rw [hy112]; with_reducible exact H) | (have H2_ := (Option.bind_some _ _).symm.trans H; rw [hy112]; with_reducible exact H2_) | (have H2_ := (Option.bind_some _ _).symm.trans H; with_reducible exact H2_) | with_reducible exact H | (rw [hy112]; exact H) | exact H
                          have Ny112 := Aside0.mk hy112
                          clear hy112
                          replace H := Option.bind_eq_some_iff.mp H
                          obtain ⟨t116, A290, H⟩ := H
                          replace H : (if t116 = true then ((gouachelaw02_cut.f (⟨#[32, 9, 10, 32]⟩ : ByteArray)).bind fun t117 => (if (t117.length : Int) = 1 then ((gouachelaw02_lives.f).bind fun t120 => (some t120)) else (some false))) else (some false)) = some r := H
                          have A29 := Aside0.mk A290
                          clear A290
                          by_cases c30 : t116 = true
                          · subst c30
                            have H1 : ((gouachelaw02_cut.f (⟨#[32, 9, 10, 32]⟩ : ByteArray)).bind fun t117 => (if (t117.length : Int) = 1 then ((gouachelaw02_lives.f).bind fun t120 => (some t120)) else (some false))) = some r := by rw [if_pos rfl] at H; exact H
                            clear H
                            have H := H1
                            clear H1
                            replace H := Option.bind_eq_some_iff.mp H
                            obtain ⟨t117, A310, H⟩ := H
                            replace H : (if (t117.length : Int) = 1 then ((gouachelaw02_lives.f).bind fun t120 => (some t120)) else (some false)) = some r := H
                            have A31 := Aside0.mk A310
                            clear A310
                            by_cases c32 : (t117.length : Int) = 1
                            · rw [if_pos c32] at H
                              have c32b0 : ((t117.length : Int) == 1) = true := beq_iff_eq.mpr c32
                              have c32b1 : ((t117.length : Int) != 1) = false := bne_eq_false_iff_eq.mpr c32
                              clear c32
                              replace H := Option.bind_eq_some_iff.mp H
                              obtain ⟨t120, A330, H⟩ := H
                              replace H : (some t120) = some r := H
                              have A33 := Aside0.mk A330
                              clear A330
                              obtain rfl := Option.some.inj H
                              obtain ⟨Ao34, co34, eo34⟩ := Kd.R_slice HO_4.out
                              subst eo34
                              go_wp2_with (first | ((with_reducible refine gate_callee (f := 10) rfl ?_); refine goesL_ (some 47) rfl rfl Tryd.func10 (by kernel_rfl) rfl #[.string ((⟨#[40]⟩ : ByteArray) ++ a0)] rfl (by (try simp only [List.map_toArray, List.map_cons, List.map_nil]); first | done | rfl | (simp only [List.length_drop, List.length_take]; rfl)) ?_; (with_reducible refine (gouachelaw02_cut.calls ((⟨#[40]⟩ : ByteArray) ++ a0) t108 _ A24.out).mono ?_); rintro e w35 ⟨v109, rfl, ho0, hb⟩; refine ⟨_, rfl, ?_⟩; have n0_ := Aside0.mk (Kd.R_elder' (by (with_reducible repeat (first | apply Kd.R_alloc | apply Kd.R_drewN | apply Kd.R_drew)); exact HO_4.out) (Kd.R_base ho0) hb); have n1_ := Aside0.mk (Kd.R_lower (Kd.R_new' ho0 (Kd.R_lt (by (with_reducible repeat (first | apply Kd.R_alloc | apply Kd.R_drewN | apply Kd.R_drew)); exact HO_4.out))) (below_size (by repeat (first | (with_reducible first | exact HB.out | apply below_alloc | apply pw_below_drewN | apply below_drew1) | exact HB.out)))); have n2_ := Aside0.mk (below_step (by repeat (first | (with_reducible first | exact HB.out | apply below_alloc | apply pw_below_drewN | apply below_drew1) | exact HB.out)) hb); clear HO_4; clear HB; have HO_4 := n0_; have HO110 := n1_; have HB := n2_; clear n0_ n1_ n2_; (try clear hb); (try clear hb2); (try clear hk); (try clear hi); (try clear ho0); obtain ⟨Ao36, co36, eo36⟩ := Kd.R_slice HO110.out; subst eo36; have p111 : 0 ≤ (0 : Int) := (by omega); have q111 : 0 < (t108.length : Int) := of_decide_eq_true (by first | (with_reducible assumption) | assumption); obtain ⟨ad111, e111, hx111_0, hx111_1, hx111_2, hx111_3, hx111_4⟩ := at_T26 (Kd.R_reads' HO110.out).2.2 0 p111 q111; cases e111; have qi111 : (0 < t108.length) = True := eq_true (by omega); (try rw [show ((0 : Int)).toNat = 0 from rfl] at hx111_0); (try rw [show 0 * 5 = 0 from rfl] at hx111_0); (try rw [Addr.add_zero'] at hx111_0); (try rw [show ((0 : Int)).toNat = 0 from rfl] at hx111_1); (try rw [show 0 * 5 = 0 from rfl] at hx111_1); (try rw [Addr.add_zero'] at hx111_1); (try rw [show ((0 : Int)).toNat = 0 from rfl] at hx111_2); (try rw [show 0 * 5 = 0 from rfl] at hx111_2); (try rw [Addr.add_zero'] at hx111_2); (try rw [show ((0 : Int)).toNat = 0 from rfl] at hx111_3); (try rw [show 0 * 5 = 0 from rfl] at hx111_3); (try rw [Addr.add_zero'] at hx111_3); (try rw [show ((0 : Int)).toNat = 0 from rfl] at hx111_4); (try rw [show 0 * 5 = 0 from rfl] at hx111_4); (try rw [Addr.add_zero'] at hx111_4); replace p111 := eq_true p111; replace q111 := eq_true q111; have q37 : (1 : Int) ≤ ((t108.length : Int) : Int) := of_decide_eq_true (by first | (with_reducible assumption) | assumption); obtain ⟨i037, hi037, _, hsz37, _⟩ := info_parts info26; have hroom37 : t108.length ≤ co36 := (Kd.R_reads' HO110.out).2.1; have hC37 : Kd.C k26 _ (some ad111) t108.length t108 := (Kd.R_reads' HO110.out).2.2; have hcut37 := cut_from (P := Tryd.prog) 23 26 .i64 Tryd.underlying23 hi037 5 hsz37 (some ad111) t108.length co36 1 (by omega) q37; have hr37 := Kd.C_drop (m := (1 : Int).toNat) (c := co36) hC37 (by omega) hroom37; obtain ⟨A37, hA37⟩ : ∃ A1, A1 = (if co36 = (1 : Int).toNat then (some ad111) else ((some ad111) : Option Addr).map (·.add ((1 : Int).toNat * 5))) := ⟨_, rfl⟩; obtain ⟨c37, hc37⟩ : ∃ c1, c1 = co36 - (1 : Int).toNat := ⟨_, rfl⟩; have hy37 : y112.length = t108.length - (1 : Int).toNat := (by rw [Ny112.out, List.length_drop] <;> omega); rw [show (t108).drop (1 : Int).toNat = y112 from Ny112.out.symm] at hr37; replace hr37 : Kd.C k26 _ A37 y112.length y112 := (by rw [hA37]; exact hr37); rw [← hy37, ← hA37, ← hc37] at hcut37; have HR115 := Aside0.mk hr37; have HC115 := Aside0.mk (show y112.length ≤ c37 from by rw [hy37, hc37]; exact Nat.sub_le_sub_right hroom37 _); clear hr37 hC37 hroom37 hi037 hsz37 hc37; have KY37 := Aside0.mk hy37; have KA37 := Aside0.mk hA37; clear hy37 hA37; have KL37 := Aside0.mk (show 1 ≤ t108.length from by omega); replace q37 := eq_true q37) | (go_at_call 11; (with_reducible refine (gouacheref02_Same.calls k2 _ _ y112 _ _ t103 true _ ?side1 ?side2 ?side3 ?side4 A29.out).mono ?_); (case side1 => repeat (first | exact (by repeat (first | (with_reducible exact HR115.out) | (with_reducible refine Kd.C_alloc ?_ _) | (with_reducible refine Kd.C_drewN ?_ _) | (with_reducible refine Kd.C_drew ?_) | exact HR115.out)) | (with_reducible refine Kd.C_alloc ?_ _) | (with_reducible refine Kd.C_drewN ?_ _) | (with_reducible refine Kd.C_drew ?_))); (case side2 => exact HC115.out); (case side3 => repeat (first | exact (Kd.R_reads' HO_4.out).2.2 | (with_reducible refine Kd.C_alloc ?_ _) | (with_reducible refine Kd.C_drewN ?_ _) | (with_reducible refine Kd.C_drew ?_))); (case side4 => exact (Kd.R_reads' HO_4.out).2.1); rintro e w' ⟨rfl, ⟨nd, rfl⟩⟩) | (go_at_call 10; (with_reducible refine (gouachelaw02_cut.calls (⟨#[32, 9, 10, 32]⟩ : ByteArray) t117 _ A31.out).mono ?_); rintro e w38 ⟨v118, rfl, ho0, hb⟩; have n0_ := Aside0.mk (Kd.R_elder' (by (with_reducible repeat (first | apply Kd.R_alloc | apply Kd.R_drewN | apply Kd.R_drew)); exact HO_4.out) (Kd.R_base ho0) hb); have n1_ := Aside0.mk (Kd.R_elder' (by (with_reducible repeat (first | apply Kd.R_alloc | apply Kd.R_drewN | apply Kd.R_drew)); exact HO110.out) (Kd.R_base ho0) hb); have n2_ := Aside0.mk (Kd.R_lower (Kd.R_new' (Kd.R_new' ho0 (Kd.R_lt (by (with_reducible repeat (first | apply Kd.R_alloc | apply Kd.R_drewN | apply Kd.R_drew)); exact HO_4.out))) (Kd.R_lt (by (with_reducible repeat (first | apply Kd.R_alloc | apply Kd.R_drewN | apply Kd.R_drew)); exact HO110.out))) (below_size (by repeat (first | (with_reducible first | exact HB.out | apply below_alloc | apply pw_below_drewN | apply below_drew1) | exact HB.out)))); have n3_ := Aside0.mk (Kd.C_below (by repeat (first | (with_reducible exact HR115.out) | (with_reducible refine Kd.C_alloc ?_ _) | (with_reducible refine Kd.C_drewN ?_ _) | (with_reducible refine Kd.C_drew ?_) | exact HR115.out)) hb); have n4_ := Aside0.mk (below_step (by repeat (first | (with_reducible first | exact HB.out | apply below_alloc | apply pw_below_drewN | apply below_drew1) | exact HB.out)) hb); clear HO_4; clear HO110; clear HR115; clear HB; have HO_4 := n0_; have HO110 := n1_; have HO119 := n2_; have HR115 := n3_; have HB := n4_; clear n0_ n1_ n2_ n3_ n4_; (try clear hb); (try clear hb2); (try clear hk); (try clear hi); (try clear ho0); obtain ⟨Ao39, co39, eo39⟩ := Kd.R_slice HO119.out; subst eo39) | (go_at_call 9; (with_reducible refine (gouachelaw02_lives.calls  t120 _ A33.out (HT.out.below (by repeat (first | (with_reducible first | exact HB.out | apply below_alloc | apply pw_below_drewN | apply below_drew1) | exact HB.out)))).mono ?_); rintro e w40 ⟨rfl, hb⟩; have n0_ := Aside0.mk (Kd.R_below (by (with_reducible repeat (first | apply Kd.R_alloc | apply Kd.R_drewN | apply Kd.R_drew)); exact HO_4.out) hb); have n1_ := Aside0.mk (Kd.R_below (by (with_reducible repeat (first | apply Kd.R_alloc | apply Kd.R_drewN | apply Kd.R_drew)); exact HO110.out) hb); have n2_ := Aside0.mk (Kd.R_below (by (with_reducible repeat (first | apply Kd.R_alloc | apply Kd.R_drewN | apply Kd.R_drew)); exact HO119.out) hb); have n3_ := Aside0.mk (Kd.C_below (by repeat (first | (with_reducible exact HR115.out) | (with_reducible refine Kd.C_alloc ?_ _) | (with_reducible refine Kd.C_drewN ?_ _) | (with_reducible refine Kd.C_drew ?_) | exact HR115.out)) hb); have n4_ := Aside0.mk (below_step (by repeat (first | (with_reducible first | exact HB.out | apply below_alloc | apply pw_below_drewN | apply below_drew1) | exact HB.out)) hb); clear HO_4; clear HO110; clear HO119; clear HR115; clear HB; have HO_4 := n0_; have HO110 := n1_; have HO119 := n2_; have HR115 := n3_; have HB := n4_; clear n0_ n1_ n2_ n3_ n4_; (try clear hb); (try clear hb2); (try clear hk); (try clear hi)))
                              go_ret
                              exact ⟨by first | rfl | (simp [errW_none, errW_some] <;> rfl) | (simp [*, errW_none, errW_some] <;> rfl), by repeat (first | (with_reducible first | exact HB.out | apply below_alloc | apply pw_below_drewN | apply below_drew1) | exact HB.out)⟩
                            · rw [if_neg c32] at H
                              have c32b0 : ((t117.length : Int) == 1) = false := beq_eq_false_iff_ne.mpr c32
                              have c32b1 : ((t117.length : Int) != 1) = true := bne_iff_ne.mpr c32
                              obtain rfl := Option.some.inj H
                              obtain ⟨Ao41, co41, eo41⟩ := Kd.R_slice HO_4.out
                              subst eo41
                              go_wp2_with (first | ((with_reducible refine gate_callee (f := 10) rfl ?_); refine goesL_ (some 47) rfl rfl Tryd.func10 (by kernel_rfl) rfl #[.string ((⟨#[40]⟩ : ByteArray) ++ a0)] rfl (by (try simp only [List.map_toArray, List.map_cons, List.map_nil]); first | done | rfl | (simp only [List.length_drop, List.length_take]; rfl)) ?_; (with_reducible refine (gouachelaw02_cut.calls ((⟨#[40]⟩ : ByteArray) ++ a0) t108 _ A24.out).mono ?_); rintro e w42 ⟨v109, rfl, ho0, hb⟩; refine ⟨_, rfl, ?_⟩; have n0_ := Aside0.mk (Kd.R_elder' (by (with_reducible repeat (first | apply Kd.R_alloc | apply Kd.R_drewN | apply Kd.R_drew)); exact HO_4.out) (Kd.R_base ho0) hb); have n1_ := Aside0.mk (Kd.R_lower (Kd.R_new' ho0 (Kd.R_lt (by (with_reducible repeat (first | apply Kd.R_alloc | apply Kd.R_drewN | apply Kd.R_drew)); exact HO_4.out))) (below_size (by repeat (first | (with_reducible first | exact HB.out | apply below_alloc | apply pw_below_drewN | apply below_drew1) | exact HB.out)))); have n2_ := Aside0.mk (below_step (by repeat (first | (with_reducible first | exact HB.out | apply below_alloc | apply pw_below_drewN | apply below_drew1) | exact HB.out)) hb); clear HO_4; clear HB; have HO_4 := n0_; have HO110 := n1_; have HB := n2_; clear n0_ n1_ n2_; (try clear hb); (try clear hb2); (try clear hk); (try clear hi); (try clear ho0); obtain ⟨Ao43, co43, eo43⟩ := Kd.R_slice HO110.out; subst eo43; have p111 : 0 ≤ (0 : Int) := (by omega); have q111 : 0 < (t108.length : Int) := of_decide_eq_true (by first | (with_reducible assumption) | assumption); obtain ⟨ad111, e111, hx111_0, hx111_1, hx111_2, hx111_3, hx111_4⟩ := at_T26 (Kd.R_reads' HO110.out).2.2 0 p111 q111; cases e111; have qi111 : (0 < t108.length) = True := eq_true (by omega); (try rw [show ((0 : Int)).toNat = 0 from rfl] at hx111_0); (try rw [show 0 * 5 = 0 from rfl] at hx111_0); (try rw [Addr.add_zero'] at hx111_0); (try rw [show ((0 : Int)).toNat = 0 from rfl] at hx111_1); (try rw [show 0 * 5 = 0 from rfl] at hx111_1); (try rw [Addr.add_zero'] at hx111_1); (try rw [show ((0 : Int)).toNat = 0 from rfl] at hx111_2); (try rw [show 0 * 5 = 0 from rfl] at hx111_2); (try rw [Addr.add_zero'] at hx111_2); (try rw [show ((0 : Int)).toNat = 0 from rfl] at hx111_3); (try rw [show 0 * 5 = 0 from rfl] at hx111_3); (try rw [Addr.add_zero'] at hx111_3); (try rw [show ((0 : Int)).toNat = 0 from rfl] at hx111_4); (try rw [show 0 * 5 = 0 from rfl] at hx111_4); (try rw [Addr.add_zero'] at hx111_4); replace p111 := eq_true p111; replace q111 := eq_true q111; have q44 : (1 : Int) ≤ ((t108.length : Int) : Int) := of_decide_eq_true (by first | (with_reducible assumption) | assumption); obtain ⟨i044, hi044, _, hsz44, _⟩ := info_parts info26; have hroom44 : t108.length ≤ co43 := (Kd.R_reads' HO110.out).2.1; have hC44 : Kd.C k26 _ (some ad111) t108.length t108 := (Kd.R_reads' HO110.out).2.2; have hcut44 := cut_from (P := Tryd.prog) 23 26 .i64 Tryd.underlying23 hi044 5 hsz44 (some ad111) t108.length co43 1 (by omega) q44; have hr44 := Kd.C_drop (m := (1 : Int).toNat) (c := co43) hC44 (by omega) hroom44; obtain ⟨A44, hA44⟩ : ∃ A1, A1 = (if co43 = (1 : Int).toNat then (some ad111) else ((some ad111) : Option Addr).map (·.add ((1 : Int).toNat * 5))) := ⟨_, rfl⟩; obtain ⟨c44, hc44⟩ : ∃ c1, c1 = co43 - (1 : Int).toNat := ⟨_, rfl⟩; have hy44 : y112.length = t108.length - (1 : Int).toNat := (by rw [Ny112.out, List.length_drop] <;> omega); rw [show (t108).drop (1 : Int).toNat = y112 from Ny112.out.symm] at hr44; replace hr44 : Kd.C k26 _ A44 y112.length y112 := (by rw [hA44]; exact hr44); rw [← hy44, ← hA44, ← hc44] at hcut44; have HR115 := Aside0.mk hr44; have HC115 := Aside0.mk (show y112.length ≤ c44 from by rw [hy44, hc44]; exact Nat.sub_le_sub_right hroom44 _); clear hr44 hC44 hroom44 hi044 hsz44 hc44; have KY44 := Aside0.mk hy44; have KA44 := Aside0.mk hA44; clear hy44 hA44; have KL44 := Aside0.mk (show 1 ≤ t108.length from by omega); replace q44 := eq_true q44) | (go_at_call 11; (with_reducible refine (gouacheref02_Same.calls k2 _ _ y112 _ _ t103 true _ ?side1 ?side2 ?side3 ?side4 A29.out).mono ?_); (case side1 => repeat (first | exact (by repeat (first | (with_reducible exact HR115.out) | (with_reducible refine Kd.C_alloc ?_ _) | (with_reducible refine Kd.C_drewN ?_ _) | (with_reducible refine Kd.C_drew ?_) | exact HR115.out)) | (with_reducible refine Kd.C_alloc ?_ _) | (with_reducible refine Kd.C_drewN ?_ _) | (with_reducible refine Kd.C_drew ?_))); (case side2 => exact HC115.out); (case side3 => repeat (first | exact (Kd.R_reads' HO_4.out).2.2 | (with_reducible refine Kd.C_alloc ?_ _) | (with_reducible refine Kd.C_drewN ?_ _) | (with_reducible refine Kd.C_drew ?_))); (case side4 => exact (Kd.R_reads' HO_4.out).2.1); rintro e w' ⟨rfl, ⟨nd, rfl⟩⟩) | (go_at_call 10; (with_reducible refine (gouachelaw02_cut.calls (⟨#[32, 9, 10, 32]⟩ : ByteArray) t117 _ A31.out).mono ?_); rintro e w45 ⟨v118, rfl, ho0, hb⟩; have n0_ := Aside0.mk (Kd.R_elder' (by (with_reducible repeat (first | apply Kd.R_alloc | apply Kd.R_drewN | apply Kd.R_drew)); exact HO_4.out) (Kd.R_base ho0) hb); have n1_ := Aside0.mk (Kd.R_elder' (by (with_reducible repeat (first | apply Kd.R_alloc | apply Kd.R_drewN | apply Kd.R_drew)); exact HO110.out) (Kd.R_base ho0) hb); have n2_ := Aside0.mk (Kd.R_lower (Kd.R_new' (Kd.R_new' ho0 (Kd.R_lt (by (with_reducible repeat (first | apply Kd.R_alloc | apply Kd.R_drewN | apply Kd.R_drew)); exact HO_4.out))) (Kd.R_lt (by (with_reducible repeat (first | apply Kd.R_alloc | apply Kd.R_drewN | apply Kd.R_drew)); exact HO110.out))) (below_size (by repeat (first | (with_reducible first | exact HB.out | apply below_alloc | apply pw_below_drewN | apply below_drew1) | exact HB.out)))); have n3_ := Aside0.mk (Kd.C_below (by repeat (first | (with_reducible exact HR115.out) | (with_reducible refine Kd.C_alloc ?_ _) | (with_reducible refine Kd.C_drewN ?_ _) | (with_reducible refine Kd.C_drew ?_) | exact HR115.out)) hb); have n4_ := Aside0.mk (below_step (by repeat (first | (with_reducible first | exact HB.out | apply below_alloc | apply pw_below_drewN | apply below_drew1) | exact HB.out)) hb); clear HO_4; clear HO110; clear HR115; clear HB; have HO_4 := n0_; have HO110 := n1_; have HO119 := n2_; have HR115 := n3_; have HB := n4_; clear n0_ n1_ n2_ n3_ n4_; (try clear hb); (try clear hb2); (try clear hk); (try clear hi); (try clear ho0); obtain ⟨Ao46, co46, eo46⟩ := Kd.R_slice HO119.out; subst eo46))
                              go_ret
                              exact ⟨by first | rfl | (simp [errW_none, errW_some] <;> rfl) | (simp [*, errW_none, errW_some] <;> rfl), by repeat (first | (with_reducible first | exact HB.out | apply below_alloc | apply pw_below_drewN | apply below_drew1) | exact HB.out)⟩
                          · replace c30 := Bool.eq_false_iff.mpr c30
                            subst c30
                            have H1 : (some false) = some r := by rw [if_neg (show ¬ (false = true) by decide)] at H; exact H
                            clear H
                            have H := H1
                            clear H1
                            obtain rfl := Option.some.inj H
                            obtain ⟨Ao47, co47, eo47⟩ := Kd.R_slice HO_4.out
                            subst eo47
                            go_wp2_with (first | ((with_reducible refine gate_callee (f := 10) rfl ?_); refine goesL_ (some 47) rfl rfl Tryd.func10 (by kernel_rfl) rfl #[.string ((⟨#[40]⟩ : ByteArray) ++ a0)] rfl (by (try simp only [List.map_toArray, List.map_cons, List.map_nil]); first | done | rfl | (simp only [List.length_drop, List.length_take]; rfl)) ?_; (with_reducible refine (gouachelaw02_cut.calls ((⟨#[40]⟩ : ByteArray) ++ a0) t108 _ A24.out).mono ?_); rintro e w48 ⟨v109, rfl, ho0, hb⟩; refine ⟨_, rfl, ?_⟩; have n0_ := Aside0.mk (Kd.R_elder' (by (with_reducible repeat (first | apply Kd.R_alloc | apply Kd.R_drewN | apply Kd.R_drew)); exact HO_4.out) (Kd.R_base ho0) hb); have n1_ := Aside0.mk (Kd.R_lower (Kd.R_new' ho0 (Kd.R_lt (by (with_reducible repeat (first | apply Kd.R_alloc | apply Kd.R_drewN | apply Kd.R_drew)); exact HO_4.out))) (below_size (by repeat (first | (with_reducible first | exact HB.out | apply below_alloc | apply pw_below_drewN | apply below_drew1) | exact HB.out)))); have n2_ := Aside0.mk (below_step (by repeat (first | (with_reducible first | exact HB.out | apply below_alloc | apply pw_below_drewN | apply below_drew1) | exact HB.out)) hb); clear HO_4; clear HB; have HO_4 := n0_; have HO110 := n1_; have HB := n2_; clear n0_ n1_ n2_; (try clear hb); (try clear hb2); (try clear hk); (try clear hi); (try clear ho0); obtain ⟨Ao49, co49, eo49⟩ := Kd.R_slice HO110.out; subst eo49; have p111 : 0 ≤ (0 : Int) := (by omega); have q111 : 0 < (t108.length : Int) := of_decide_eq_true (by first | (with_reducible assumption) | assumption); obtain ⟨ad111, e111, hx111_0, hx111_1, hx111_2, hx111_3, hx111_4⟩ := at_T26 (Kd.R_reads' HO110.out).2.2 0 p111 q111; cases e111; have qi111 : (0 < t108.length) = True := eq_true (by omega); (try rw [show ((0 : Int)).toNat = 0 from rfl] at hx111_0); (try rw [show 0 * 5 = 0 from rfl] at hx111_0); (try rw [Addr.add_zero'] at hx111_0); (try rw [show ((0 : Int)).toNat = 0 from rfl] at hx111_1); (try rw [show 0 * 5 = 0 from rfl] at hx111_1); (try rw [Addr.add_zero'] at hx111_1); (try rw [show ((0 : Int)).toNat = 0 from rfl] at hx111_2); (try rw [show 0 * 5 = 0 from rfl] at hx111_2); (try rw [Addr.add_zero'] at hx111_2); (try rw [show ((0 : Int)).toNat = 0 from rfl] at hx111_3); (try rw [show 0 * 5 = 0 from rfl] at hx111_3); (try rw [Addr.add_zero'] at hx111_3); (try rw [show ((0 : Int)).toNat = 0 from rfl] at hx111_4); (try rw [show 0 * 5 = 0 from rfl] at hx111_4); (try rw [Addr.add_zero'] at hx111_4); replace p111 := eq_true p111; replace q111 := eq_true q111; have q50 : (1 : Int) ≤ ((t108.length : Int) : Int) := of_decide_eq_true (by first | (with_reducible assumption) | assumption); obtain ⟨i050, hi050, _, hsz50, _⟩ := info_parts info26; have hroom50 : t108.length ≤ co49 := (Kd.R_reads' HO110.out).2.1; have hC50 : Kd.C k26 _ (some ad111) t108.length t108 := (Kd.R_reads' HO110.out).2.2; have hcut50 := cut_from (P := Tryd.prog) 23 26 .i64 Tryd.underlying23 hi050 5 hsz50 (some ad111) t108.length co49 1 (by omega) q50; have hr50 := Kd.C_drop (m := (1 : Int).toNat) (c := co49) hC50 (by omega) hroom50; obtain ⟨A50, hA50⟩ : ∃ A1, A1 = (if co49 = (1 : Int).toNat then (some ad111) else ((some ad111) : Option Addr).map (·.add ((1 : Int).toNat * 5))) := ⟨_, rfl⟩; obtain ⟨c50, hc50⟩ : ∃ c1, c1 = co49 - (1 : Int).toNat := ⟨_, rfl⟩; have hy50 : y112.length = t108.length - (1 : Int).toNat := (by rw [Ny112.out, List.length_drop] <;> omega); rw [show (t108).drop (1 : Int).toNat = y112 from Ny112.out.symm] at hr50; replace hr50 : Kd.C k26 _ A50 y112.length y112 := (by rw [hA50]; exact hr50); rw [← hy50, ← hA50, ← hc50] at hcut50; have HR115 := Aside0.mk hr50; have HC115 := Aside0.mk (show y112.length ≤ c50 from by rw [hy50, hc50]; exact Nat.sub_le_sub_right hroom50 _); clear hr50 hC50 hroom50 hi050 hsz50 hc50; have KY50 := Aside0.mk hy50; have KA50 := Aside0.mk hA50; clear hy50 hA50; have KL50 := Aside0.mk (show 1 ≤ t108.length from by omega); replace q50 := eq_true q50) | (go_at_call 11; (with_reducible refine (gouacheref02_Same.calls k2 _ _ y112 _ _ t103 false _ ?side1 ?side2 ?side3 ?side4 A29.out).mono ?_); (case side1 => repeat (first | exact (by repeat (first | (with_reducible exact HR115.out) | (with_reducible refine Kd.C_alloc ?_ _) | (with_reducible refine Kd.C_drewN ?_ _) | (with_reducible refine Kd.C_drew ?_) | exact HR115.out)) | (with_reducible refine Kd.C_alloc ?_ _) | (with_reducible refine Kd.C_drewN ?_ _) | (with_reducible refine Kd.C_drew ?_))); (case side2 => exact HC115.out); (case side3 => repeat (first | exact (Kd.R_reads' HO_4.out).2.2 | (with_reducible refine Kd.C_alloc ?_ _) | (with_reducible refine Kd.C_drewN ?_ _) | (with_reducible refine Kd.C_drew ?_))); (case side4 => exact (Kd.R_reads' HO_4.out).2.1); rintro e w' ⟨rfl, ⟨nd, rfl⟩⟩))
                            go_ret
                            exact ⟨by first | rfl | (simp [errW_none, errW_some] <;> rfl) | (simp [*, errW_none, errW_some] <;> rfl), by repeat (first | (with_reducible first | exact HB.out | apply below_alloc | apply pw_below_drewN | apply below_drew1) | exact HB.out)⟩
                        · rw [if_neg c28] at H
                          exact absurd H (by simp)
                      · rw [if_neg c27] at H
                        have c27b0 : (((rd_T26 t108 0).f0) == 21) = false := beq_eq_false_iff_ne.mpr c27
                        have c27b1 : (((rd_T26 t108 0).f0) != 21) = true := bne_iff_ne.mpr c27
                        obtain rfl := Option.some.inj H
                        obtain ⟨Ao51, co51, eo51⟩ := Kd.R_slice HO_4.out
                        subst eo51
                        go_wp2_with (first | ((with_reducible refine gate_callee (f := 10) rfl ?_); refine goesL_ (some 47) rfl rfl Tryd.func10 (by kernel_rfl) rfl #[.string ((⟨#[40]⟩ : ByteArray) ++ a0)] rfl (by (try simp only [List.map_toArray, List.map_cons, List.map_nil]); first | done | rfl | (simp only [List.length_drop, List.length_take]; rfl)) ?_; (with_reducible refine (gouachelaw02_cut.calls ((⟨#[40]⟩ : ByteArray) ++ a0) t108 _ A24.out).mono ?_); rintro e w52 ⟨v109, rfl, ho0, hb⟩; refine ⟨_, rfl, ?_⟩; have n0_ := Aside0.mk (Kd.R_elder' (by (with_reducible repeat (first | apply Kd.R_alloc | apply Kd.R_drewN | apply Kd.R_drew)); exact HO_4.out) (Kd.R_base ho0) hb); have n1_ := Aside0.mk (Kd.R_lower (Kd.R_new' ho0 (Kd.R_lt (by (with_reducible repeat (first | apply Kd.R_alloc | apply Kd.R_drewN | apply Kd.R_drew)); exact HO_4.out))) (below_size (by repeat (first | (with_reducible first | exact HB.out | apply below_alloc | apply pw_below_drewN | apply below_drew1) | exact HB.out)))); have n2_ := Aside0.mk (below_step (by repeat (first | (with_reducible first | exact HB.out | apply below_alloc | apply pw_below_drewN | apply below_drew1) | exact HB.out)) hb); clear HO_4; clear HB; have HO_4 := n0_; have HO110 := n1_; have HB := n2_; clear n0_ n1_ n2_; (try clear hb); (try clear hb2); (try clear hk); (try clear hi); (try clear ho0); obtain ⟨Ao53, co53, eo53⟩ := Kd.R_slice HO110.out; subst eo53; have p111 : 0 ≤ (0 : Int) := (by omega); have q111 : 0 < (t108.length : Int) := of_decide_eq_true (by first | (with_reducible assumption) | assumption); obtain ⟨ad111, e111, hx111_0, hx111_1, hx111_2, hx111_3, hx111_4⟩ := at_T26 (Kd.R_reads' HO110.out).2.2 0 p111 q111; cases e111; have qi111 : (0 < t108.length) = True := eq_true (by omega); (try rw [show ((0 : Int)).toNat = 0 from rfl] at hx111_0); (try rw [show 0 * 5 = 0 from rfl] at hx111_0); (try rw [Addr.add_zero'] at hx111_0); (try rw [show ((0 : Int)).toNat = 0 from rfl] at hx111_1); (try rw [show 0 * 5 = 0 from rfl] at hx111_1); (try rw [Addr.add_zero'] at hx111_1); (try rw [show ((0 : Int)).toNat = 0 from rfl] at hx111_2); (try rw [show 0 * 5 = 0 from rfl] at hx111_2); (try rw [Addr.add_zero'] at hx111_2); (try rw [show ((0 : Int)).toNat = 0 from rfl] at hx111_3); (try rw [show 0 * 5 = 0 from rfl] at hx111_3); (try rw [Addr.add_zero'] at hx111_3); (try rw [show ((0 : Int)).toNat = 0 from rfl] at hx111_4); (try rw [show 0 * 5 = 0 from rfl] at hx111_4); (try rw [Addr.add_zero'] at hx111_4); replace p111 := eq_true p111; replace q111 := eq_true q111))
                        go_ret
                        exact ⟨by first | rfl | (simp [errW_none, errW_some] <;> rfl) | (simp [*, errW_none, errW_some] <;> rfl), by repeat (first | (with_reducible first | exact HB.out | apply below_alloc | apply pw_below_drewN | apply below_drew1) | exact HB.out)⟩
                    · rw [if_neg c26] at H
                      exact absurd H (by simp)
                  · rw [if_neg c25] at H
                    have c25b0 : ((t108.length : Int) == (wrap64 ((t103.length : Int) + 1))) = false := beq_eq_false_iff_ne.mpr c25
                    have c25b1 : ((t108.length : Int) != (wrap64 ((t103.length : Int) + 1))) = true := bne_iff_ne.mpr c25
                    obtain rfl := Option.some.inj H
                    obtain ⟨Ao54, co54, eo54⟩ := Kd.R_slice HO_4.out
                    subst eo54
                    go_wp2_with (first | ((with_reducible refine gate_callee (f := 10) rfl ?_); refine goesL_ (some 47) rfl rfl Tryd.func10 (by kernel_rfl) rfl #[.string ((⟨#[40]⟩ : ByteArray) ++ a0)] rfl (by (try simp only [List.map_toArray, List.map_cons, List.map_nil]); first | done | rfl | (simp only [List.length_drop, List.length_take]; rfl)) ?_; (with_reducible refine (gouachelaw02_cut.calls ((⟨#[40]⟩ : ByteArray) ++ a0) t108 _ A24.out).mono ?_); rintro e w55 ⟨v109, rfl, ho0, hb⟩; refine ⟨_, rfl, ?_⟩; have n0_ := Aside0.mk (Kd.R_elder' (by (with_reducible repeat (first | apply Kd.R_alloc | apply Kd.R_drewN | apply Kd.R_drew)); exact HO_4.out) (Kd.R_base ho0) hb); have n1_ := Aside0.mk (Kd.R_lower (Kd.R_new' ho0 (Kd.R_lt (by (with_reducible repeat (first | apply Kd.R_alloc | apply Kd.R_drewN | apply Kd.R_drew)); exact HO_4.out))) (below_size (by repeat (first | (with_reducible first | exact HB.out | apply below_alloc | apply pw_below_drewN | apply below_drew1) | exact HB.out)))); have n2_ := Aside0.mk (below_step (by repeat (first | (with_reducible first | exact HB.out | apply below_alloc | apply pw_below_drewN | apply below_drew1) | exact HB.out)) hb); clear HO_4; clear HB; have HO_4 := n0_; have HO110 := n1_; have HB := n2_; clear n0_ n1_ n2_; (try clear hb); (try clear hb2); (try clear hk); (try clear hi); (try clear ho0); obtain ⟨Ao56, co56, eo56⟩ := Kd.R_slice HO110.out; subst eo56))
                    go_ret
                    exact ⟨by first | rfl | (simp [errW_none, errW_some] <;> rfl) | (simp [*, errW_none, errW_some] <;> rfl), by repeat (first | (with_reducible first | exact HB.out | apply below_alloc | apply pw_below_drewN | apply below_drew1) | exact HB.out)⟩
                · rw [if_neg c23] at H
                  exact absurd H (by simp)
end Go.Proofs.YtpnlbmeeihbjaabDoor.P
end
