/- The law TokenWrites (layer 2): the row and its tied card: for every input the law returns true, and the arguments read behind the call as they read before. No condition of ours. -/
import Derived.Test.YtpnlbmeeihbjaabDoorZWT9
import Derived.Lib.OthersKept
section
set_option linter.unusedVariables false
set_option linter.unusedSimpArgs false
namespace Go.Proofs.YtpnlbmeeihbjaabDoor.P
open Go.RowKit Go.Proofs.YtpnlbmeeihbjaabDoorW.PrintWords Go.Proofs.YtpnlbmeeihbjaabDoorW.PrintLast Go.Proofs.YtpnlbmeeihbjaabDoorW.PrintMore
open Go.Lib
attribute [local go_sem] max2_int min2_int max_two min_two max_three min_three max_four min_four
set_option linter.unusedVariables false
set_option linter.unusedSimpArgs false
open Go.Lib
theorem iter_below {B : Nat} {w W : World} (h : Below B w W) {k : Nat} (hk : B ≤ k) (s : ByteArray) (pos : Nat) : Below B w (W.iterAt k s pos) := below_iterAt h hk s pos
theorem dec_pos (s : ByteArray) (pos : Nat) (h : pos < s.size) : 1 ≤ (Utf8.decode s pos).2 := by
  by_cases a : (s[pos]'h).toNat < 128
  · rw [decode_ascii s pos h a]; exact Nat.le_refl _
  · exact (decode_high s pos h (by omega)).2
def seesR (D : ByteArray) : Nat → Nat → Nat → List Int → Bool
  | 0, _, _, _ => true
  | k + 1, pos, n, s => if pos < D.size then (if pk s n = ((Utf8.decode D pos).1 : Int) then seesR D k (pos + (Utf8.decode D pos).2) (n + 1) s else false) else true
set_option maxHeartbeats 8000000 in
set_option maxRecDepth 100000 in
theorem sees_c (D : ByteArray) (hD : D.size ≤ 20) {w0 w : World} {g : Nat} {L s : List Int} (h : Rdr w0 w g L s) :
    Calls Tryd.prog 48 #[.pointer (some ⟨g, 0, none⟩), .string D] w fun e w' => e = .returned (.bool (seesR D (D.size + 1) 0 0 s)) ∧ Rdr w0 w' g L s ∧ KeepBut w w' g none := by
  obtain ⟨o, ho⟩ : ∃ o, o = seesR D (D.size + 1) 0 0 s := ⟨_, rfl⟩
  rw [← ho]
  have HO := Aside0.mk ho.symm
  have HG := Aside0.mk h.lt.2
  have HR := Aside0.mk (h.below (below_alloc (Below.refl w.heap.size w) (.stringIter D 0)))
  have HK := Aside0.mk (keep_alloc (KeepBut.refl w g none) (.stringIter D 0))
  have HD := Aside0.mk hD
  clear ho h hD
  go_enter Tryd.func48, Tryd.ntmps48
  go_wp2_with fail
  go_loopg [5, 7] (D.size + 1) (fun kq v5 v7 w' => ∃ (pos n : Nat), v5 = .int .i64 n ∧ Aside0 (n + kq = D.size + 1 ∧ n ≤ pos) ∧ Aside0 (w'.heap[w.heap.size]? = some (.stringIter D pos)) ∧ Aside0 (seesR D kq pos n s = o) ∧ Aside0 (Rdr w0 w' g L s) ∧ Aside0 (KeepBut w w' g none))
  case atStart => exact ⟨0, 0, rfl, ⟨by omega, Nat.le_refl _⟩, ⟨World.iter_heap w D 0⟩, HO, HR, HK⟩
  case round =>
    clear HR HK HO
    obtain ⟨pos, n, rfl, HN, HI, HE, HR, HK⟩ := hrel
    cases gk with
    | zero =>
      have c0 : ¬ pos < D.size := by have := HN.out; omega
      have hnx : ∀ ty, (Instr.next (.pointer (some ⟨w.heap.size, 0, none⟩)) true ty).run Tryd.prog wr = .ok (.tuple #[.bool false]) wr := fun ty => run_next_end_at wr w.heap.size D pos ty HI.out c0
      have hE := HE.out
      rw [seesR] at hE
      subst hE
      clear c0
      go_wp2_with fail
      go_ret
      exact ⟨rfl, HR.out, HK.out⟩
    | succ k =>
      have hNB : n ≤ 20 := by have := HN.out; have := HD.out; omega
      have HNB := Aside0.mk hNB
      by_cases c0 : pos < D.size
      · have hnx : ∀ ty, (Instr.next (.pointer (some ⟨w.heap.size, 0, none⟩)) true ty).run Tryd.prog wr = .ok (.tuple #[.bool true, .int .i64 pos, .int .i32 (Utf8.decode D pos).1]) (wr.iterAt w.heap.size D (pos + (Utf8.decode D pos).2)) := fun ty => run_next_any_at wr w.heap.size D pos ty HI.out c0
        have hE := HE.out
        rw [seesR, if_pos c0] at hE
        have HDP := Aside0.mk (dec_pos D pos c0)
        clear c0
        obtain ⟨c, hc⟩ : ∃ c : Int, c = ((Utf8.decode D pos).1 : Int) := ⟨_, rfl⟩
        rw [← hc] at hnx hE
        clear hc
        have hbi := iter_below (Below.refl w.heap.size wr) (Nat.le_refl _) D (pos + (Utf8.decode D pos).2)
        have HR2 := Aside0.mk (HR.out.bld hbi HG.out)
        have HK2 := Aside0.mk (keep_bld HK.out hbi (Nat.le_refl _))
        have HI2 := Aside0.mk (iterAt_heap wr w.heap.size D pos (pos + (Utf8.decode D pos).2) HI.out)
        clear hbi
        generalize wr.iterAt w.heap.size D (pos + (Utf8.decode D pos).2) = W1 at HR2 HK2 HI2 hnx
        have HR := HR2
        have HK := HK2
        have HI := HI2
        obtain ⟨p, hp⟩ : ∃ p, p = pk s n := ⟨_, rfl⟩
        have HP := Aside0.mk hp.symm
        rw [← hp] at hE
        clear hp hNB
        by_cases k1 : p = c
        · have d1 : (p != c) = false := by simp [k1]
          rw [if_pos k1] at hE
          have HE2 := Aside0.mk hE
          clear hE k1
          go_wp2_with (first | (go_at_call 62; (with_reducible refine (peek_c n (by have := HNB.out; omega) HR.out).mono ?_); rintro e W2 ⟨rfl, hr, hk⟩; rw [HP.out]; have HI := Aside0.mk (keep_blk hk HI.out (by have := HG.out; omega)); have HR := Aside0.mk hr; have HK := Aside0.mk (keep_then HK.out hk); clear hr hk) | fail)
          go_roundg k
          case measure => omega
          case rel => exact ⟨_, n + 1, (by have := HNB.out; congr 1; unfold wrap64; omega), ⟨by have := HN.out; have := HDP.out; omega⟩, HI, HE2, HR, HK⟩
        · have d1 : (p != c) = true := by simp [k1]
          rw [if_neg k1] at hE
          subst hE
          clear k1
          go_wp2_with (first | (go_at_call 62; (with_reducible refine (peek_c n (by have := HNB.out; omega) HR.out).mono ?_); rintro e W2 ⟨rfl, hr, hk⟩; rw [HP.out]; have HI := Aside0.mk (keep_blk hk HI.out (by have := HG.out; omega)); have HR := Aside0.mk hr; have HK := Aside0.mk (keep_then HK.out hk); clear hr hk) | fail)
          go_ret
          exact ⟨rfl, HR.out, HK.out⟩
      · have hnx : ∀ ty, (Instr.next (.pointer (some ⟨w.heap.size, 0, none⟩)) true ty).run Tryd.prog wr = .ok (.tuple #[.bool false]) wr := fun ty => run_next_end_at wr w.heap.size D pos ty HI.out c0
        have hE := HE.out
        rw [seesR, if_neg c0] at hE
        subst hE
        clear c0
        go_wp2_with fail
        go_ret
        exact ⟨rfl, HR.out, HK.out⟩
end Go.Proofs.YtpnlbmeeihbjaabDoor.P
end
section
set_option linter.unusedVariables false
set_option linter.unusedSimpArgs false
namespace Go.Proofs.YtpnlbmeeihbjaabDoor.P
open Go.RowKit Go.Proofs.YtpnlbmeeihbjaabDoorW.PrintWords Go.Proofs.YtpnlbmeeihbjaabDoorW.PrintLast Go.Proofs.YtpnlbmeeihbjaabDoorW.PrintMore
open Go.Lib
attribute [local go_sem] max2_int min2_int max_two min_two max_three min_three max_four min_four
set_option linter.unusedVariables false
set_option linter.unusedSimpArgs false
open Go.Lib
theorem sees_end : seesR ⟨#[42, 47]⟩ 3 0 0 = fun s => (pk s 0 == 42 && pk s 1 == 47) := by
  funext s
  have d0 : Utf8.decode ⟨#[42, 47]⟩ 0 = (42, 1) := by kernel_rfl
  have d1 : Utf8.decode ⟨#[42, 47]⟩ 1 = (47, 1) := by kernel_rfl
  simp only [seesR, show (⟨#[42, 47]⟩ : ByteArray).size = 2 from rfl, d0, d1]
  by_cases a : pk s 0 = 42 <;> by_cases b : pk s 1 = 47 <;> simp [a, b]
theorem sees_beg : seesR ⟨#[47, 42]⟩ 3 0 0 = fun s => (pk s 0 == 47 && pk s 1 == 42) := by
  funext s
  have d0 : Utf8.decode ⟨#[47, 42]⟩ 0 = (47, 1) := by kernel_rfl
  have d1 : Utf8.decode ⟨#[47, 42]⟩ 1 = (42, 1) := by kernel_rfl
  simp only [seesR, show (⟨#[47, 42]⟩ : ByteArray).size = 2 from rfl, d0, d1]
  by_cases a : pk s 0 = 47 <;> by_cases b : pk s 1 = 42 <;> simp [a, b]
theorem sees_cdc : seesR ⟨#[45, 45, 62]⟩ 4 0 0 = fun s => (pk s 0 == 45 && (pk s 1 == 45 && pk s 2 == 62)) := by
  funext s
  have d0 : Utf8.decode ⟨#[45, 45, 62]⟩ 0 = (45, 1) := by kernel_rfl
  have d1 : Utf8.decode ⟨#[45, 45, 62]⟩ 1 = (45, 1) := by kernel_rfl
  have d2 : Utf8.decode ⟨#[45, 45, 62]⟩ 2 = (62, 1) := by kernel_rfl
  simp only [seesR, show (⟨#[45, 45, 62]⟩ : ByteArray).size = 3 from rfl, d0, d1, d2]
  by_cases a : pk s 0 = 45 <;> by_cases b : pk s 1 = 45 <;> by_cases c : pk s 2 = 62 <;> simp [a, b, c]
theorem sees_cdo : seesR ⟨#[60, 33, 45, 45]⟩ 5 0 0 = fun s => (pk s 0 == 60 && (pk s 1 == 33 && (pk s 2 == 45 && pk s 3 == 45))) := by
  funext s
  have d0 : Utf8.decode ⟨#[60, 33, 45, 45]⟩ 0 = (60, 1) := by kernel_rfl
  have d1 : Utf8.decode ⟨#[60, 33, 45, 45]⟩ 1 = (33, 1) := by kernel_rfl
  have d2 : Utf8.decode ⟨#[60, 33, 45, 45]⟩ 2 = (45, 1) := by kernel_rfl
  have d3 : Utf8.decode ⟨#[60, 33, 45, 45]⟩ 3 = (45, 1) := by kernel_rfl
  simp only [seesR, show (⟨#[60, 33, 45, 45]⟩ : ByteArray).size = 4 from rfl, d0, d1, d2, d3]
  by_cases a : pk s 0 = 60 <;> by_cases b : pk s 1 = 33 <;> by_cases c : pk s 2 = 45 <;> by_cases d : pk s 3 = 45 <;> simp [a, b, c, d]
def comE (s : List Int) : Bool := pk s 0 == 42 && pk s 1 == 47
def comB (s : List Int) : Bool := pk s 0 == 47 && pk s 1 == 42
def cdcB (s : List Int) : Bool := pk s 0 == 45 && (pk s 1 == 45 && pk s 2 == 62)
def cdoB (s : List Int) : Bool := pk s 0 == 60 && (pk s 1 == 33 && (pk s 2 == 45 && pk s 3 == 45))
section
variable {w0 w : World} {g : Nat} {L s : List Int}
theorem comE_c (h : Rdr w0 w g L s) : Calls Tryd.prog 48 #[.pointer (some ⟨g, 0, none⟩), .string ⟨#[42, 47]⟩] w fun e w' => e = .returned (.bool (comE s)) ∧ Rdr w0 w' g L s ∧ KeepBut w w' g none := by
  have h1 := sees_c ⟨#[42, 47]⟩ (by decide) h
  rw [show seesR ⟨#[42, 47]⟩ ((⟨#[42, 47]⟩ : ByteArray).size + 1) 0 0 s = comE s from congrFun sees_end s] at h1
  exact h1
theorem comB_c (h : Rdr w0 w g L s) : Calls Tryd.prog 48 #[.pointer (some ⟨g, 0, none⟩), .string ⟨#[47, 42]⟩] w fun e w' => e = .returned (.bool (comB s)) ∧ Rdr w0 w' g L s ∧ KeepBut w w' g none := by
  have h1 := sees_c ⟨#[47, 42]⟩ (by decide) h
  rw [show seesR ⟨#[47, 42]⟩ ((⟨#[47, 42]⟩ : ByteArray).size + 1) 0 0 s = comB s from congrFun sees_beg s] at h1
  exact h1
theorem cdc_c (h : Rdr w0 w g L s) : Calls Tryd.prog 48 #[.pointer (some ⟨g, 0, none⟩), .string ⟨#[45, 45, 62]⟩] w fun e w' => e = .returned (.bool (cdcB s)) ∧ Rdr w0 w' g L s ∧ KeepBut w w' g none := by
  have h1 := sees_c ⟨#[45, 45, 62]⟩ (by decide) h
  rw [show seesR ⟨#[45, 45, 62]⟩ ((⟨#[45, 45, 62]⟩ : ByteArray).size + 1) 0 0 s = cdcB s from congrFun sees_cdc s] at h1
  exact h1
theorem cdo_c (h : Rdr w0 w g L s) : Calls Tryd.prog 48 #[.pointer (some ⟨g, 0, none⟩), .string ⟨#[60, 33, 45, 45]⟩] w fun e w' => e = .returned (.bool (cdoB s)) ∧ Rdr w0 w' g L s ∧ KeepBut w w' g none := by
  have h1 := sees_c ⟨#[60, 33, 45, 45]⟩ (by decide) h
  rw [show seesR ⟨#[60, 33, 45, 45]⟩ ((⟨#[60, 33, 45, 45]⟩ : ByteArray).size + 1) 0 0 s = cdoB s from congrFun sees_cdo s] at h1
  exact h1
end
def comL : Nat → List Int → List Int
  | 0, s => s
  | _ + 1, [] => []
  | n + 1, c :: t => if comE (c :: t) then t.drop 1 else comL n t
def comS (s : List Int) : List Int := comL s.length s
theorem comS_unf (c : Int) (t : List Int) : comS (c :: t) = if comE (c :: t) then t.drop 1 else comS t := rfl
set_option maxHeartbeats 8000000 in
set_option maxRecDepth 100000 in
theorem comment_c {w0 w : World} {g : Nat} {L : List Int} {a b : Int} {s : List Int} (h : Rdr w0 w g L (a :: b :: s)) :
    Calls Tryd.prog 49 #[.pointer (some ⟨g, 0, none⟩)] w fun e w' => e = .returned (.tuple #[]) ∧ Rdr w0 w' g L (comS s) ∧ KeepBut w w' g none := by
  have hu63 := Tryd.underlying63
  have HK := Aside0.mk (KeepBut.refl w g none)
  obtain ⟨A, cc, i, q0, q1, z1, hi, _⟩ := h.cells
  have HST : Aside0 (wrap64 (i + 2) = (L.length : Int) - s.length) := ⟨by have := h.len; simp only [List.length_cons] at this hi; unfold wrap64; omega⟩
  have HR := Aside0.mk (h.set (t := s) (List.IsSuffix.trans (List.suffix_cons b s) (List.suffix_cons a (b :: s))) HST.out)
  have HK := Aside0.mk (HK.out.set_ 1 (.int .i64 (wrap64 (i + 2))))
  clear hi q0 h
  go_enter Tryd.func49, Tryd.ntmps49
  go_upto_region 1 with (fail)
  clear q1 z1
  generalize w.setCell ⟨g, 1, none⟩ (.int .i64 (wrap64 (i + 2))) = W0 at HR HK ⊢
  go_loopg [] (s.length + 1) (fun kq w' => ∃ r, Aside0 (comS s = comS r) ∧ Aside0 (r.length < kq) ∧ Aside0 (Rdr w0 w' g L r) ∧ Aside0 (KeepBut w w' g none))
  case atStart => exact ⟨s, ⟨rfl⟩, ⟨by omega⟩, HR, HK⟩
  case round =>
    clear HR HK
    obtain ⟨r, HE, HG, HR, HK⟩ := hrel
    cases gk with
    | zero => exact absurd HG.out (by omega)
    | succ n =>
      cases r with
      | nil =>
        have HI : Aside0 (([] : List Int).isEmpty = true) := ⟨rfl⟩
        go_wp2_with (first | (go_at_call 47; (with_reducible refine (over_c HR.out).mono ?_); rintro e W ⟨rfl, hr, hk⟩; rw [HI.out]; have HR := Aside0.mk hr; have HK := Aside0.mk (keep_then HK.out hk); clear hr hk) | fail)
        go_end0
        exact ⟨rfl, by rw [HE.out]; exact HR.out, HK.out⟩
      | cons c t =>
        have HI : Aside0 ((c :: t).isEmpty = false) := ⟨rfl⟩
        have HU := Aside0.mk (comS_unf c t)
        obtain ⟨tc, htc⟩ : ∃ x, x = comE (c :: t) := ⟨_, rfl⟩
        have HTC := Aside0.mk htc.symm
        rw [← htc] at HU
        cases tc with
        | true =>
          have HU2 : Aside0 (comS s = t.drop 1) := ⟨by rw [HE.out, HU.out]; rfl⟩
          have HT2 : Aside0 (1 ≤ t.length) := ⟨by
            cases t with
            | nil => simp [comE, pk] at htc
            | cons x y => simp⟩
          clear htc
          go_upto_region 4 with (first | (go_at_call 47; (with_reducible refine (over_c HR.out).mono ?_); rintro e W ⟨rfl, hr, hk⟩; rw [HI.out]; have HR := Aside0.mk hr; have HK := Aside0.mk (keep_then HK.out hk); clear hr hk) | (go_at_call 48; (with_reducible refine (comE_c HR.out).mono ?_); rintro e W ⟨rfl, hr, hk⟩; rw [HTC.out]; have HR := Aside0.mk hr; have HK := Aside0.mk (keep_then HK.out hk); clear hr hk) | fail)
          obtain ⟨A, cc, i, q0, q1, z1, hi, _⟩ := HR.out.cells
          have HST : Aside0 (wrap64 (i + 2) = (L.length : Int) - (t.drop 1).length) := ⟨by have := HR.out.len; have := HT2.out; rw [List.length_drop]; simp only [List.length_cons] at *; unfold wrap64; omega⟩
          clear hi q0
          go_wp2_with fail
          refine bodyPost_ret (results_none rfl _ _ _) rfl ?_
          exact ⟨rfl, by rw [HU2.out]; exact HR.out.set ((List.drop_suffix 1 t).trans (List.suffix_cons c t)) HST.out, HK.out.set_ 1 _⟩
        | false =>
          have HU2 : Aside0 (comS s = comS t) := ⟨by rw [HE.out, HU.out]; rfl⟩
          clear htc
          go_upto_region 2 with (first | (go_at_call 47; (with_reducible refine (over_c HR.out).mono ?_); rintro e W ⟨rfl, hr, hk⟩; rw [HI.out]; have HR := Aside0.mk hr; have HK := Aside0.mk (keep_then HK.out hk); clear hr hk) | (go_at_call 48; (with_reducible refine (comE_c HR.out).mono ?_); rintro e W ⟨rfl, hr, hk⟩; rw [HTC.out]; have HR := Aside0.mk hr; have HK := Aside0.mk (keep_then HK.out hk); clear hr hk) | fail)
          obtain ⟨A, cc, i, q0, q1, z1, hi, _⟩ := HR.out.cells
          have HST : Aside0 (wrap64 (i + 1) = (L.length : Int) - t.length) := ⟨by have := HR.out.len; simp only [List.length_cons] at this hi; unfold wrap64; omega⟩
          clear hi q0
          go_wp2_with fail
          go_roundg n
          case measure => have h1 := HG.out; rw [List.length_cons] at h1; omega
          case rel => exact ⟨t, HU2, ⟨by have h1 := HG.out; rw [List.length_cons] at h1; omega⟩, ⟨HR.out.set (List.suffix_cons c t) HST.out⟩, ⟨HK.out.set_ 1 _⟩⟩
end Go.Proofs.YtpnlbmeeihbjaabDoor.P
end
section
set_option linter.unusedVariables false
set_option linter.unusedSimpArgs false
namespace Go.Proofs.YtpnlbmeeihbjaabDoor.P
open Go.RowKit Go.Proofs.YtpnlbmeeihbjaabDoorW.PrintWords Go.Proofs.YtpnlbmeeihbjaabDoorW.PrintLast Go.Proofs.YtpnlbmeeihbjaabDoorW.PrintMore
open Go.Lib
attribute [local go_sem] max2_int min2_int max_two min_two max_three min_three max_four min_four
set_option linter.unusedVariables false
set_option linter.unusedSimpArgs false
def hashB (s : List Int) : Bool := escB s 1 || (pk s 1 != -1 && partB (pk s 1))
def wayN (s : List Int) : Nat :=
  if blankB (pk s 0) = true then 64 else if (pk s 0 == 34 || pk s 0 == 39) = true then 65 else if (pk s 0 == 35 && hashB s) = true then 67
  else if cntB s = true then 69 else if cdcB s = true then 70 else if cdoB s = true then 71 else if begB s 0 = true then 73
  else if (pk s 0 == 64 && begB s 1) = true then 74 else 75
set_option maxHeartbeats 16000000 in
set_option maxRecDepth 100000 in
theorem way_c {w0 w : World} {g : Nat} {L s : List Int} (h : Rdr w0 w g L s) :
    Calls Tryd.prog 50 #[.pointer (some ⟨g, 0, none⟩)] w fun e w' => e = .returned (.func (.func (wayN s)) #[] #[]) ∧ Rdr w0 w' g L s ∧ KeepBut w w' g none := by
  have HR := Aside0.mk h
  have HK := Aside0.mk (KeepBut.refl w g none)
  have HW : Aside0 (∀ n : Nat, wayN s = n → wayN s = n) := ⟨fun _ h => h⟩
  obtain ⟨p, hp⟩ : ∃ x, x = pk s 0 := ⟨_, rfl⟩
  obtain ⟨p1, hp1⟩ : ∃ x, x = pk s 1 := ⟨_, rfl⟩
  obtain ⟨tb, htb⟩ : ∃ x, x = blankB p := ⟨_, rfl⟩
  obtain ⟨te, hte⟩ : ∃ x, x = escB s 1 := ⟨_, rfl⟩
  obtain ⟨tp, htp⟩ : ∃ x, x = partB p1 := ⟨_, rfl⟩
  obtain ⟨tc, htc⟩ : ∃ x, x = cntB s := ⟨_, rfl⟩
  obtain ⟨tx, htx⟩ : ∃ x, x = cdcB s := ⟨_, rfl⟩
  obtain ⟨tq, htq⟩ : ∃ x, x = cdoB s := ⟨_, rfl⟩
  obtain ⟨tn, htn⟩ : ∃ x, x = begB s 0 := ⟨_, rfl⟩
  obtain ⟨ta, hta⟩ : ∃ x, x = begB s 1 := ⟨_, rfl⟩
  have HP := Aside0.mk (And.intro hp.symm (And.intro hp1.symm (And.intro htb.symm (And.intro hte.symm (And.intro htp.symm (And.intro htc.symm (And.intro htx.symm (And.intro htq.symm (And.intro htn.symm hta.symm)))))))))
  have HN : Aside0 (wayN s = if tb = true then 64 else if (p == 34 || p == 39) = true then 65 else if (p == 35 && (te || (p1 != -1 && tp))) = true then 67 else if tc = true then 69 else if tx = true then 70 else if tq = true then 71 else if tn = true then 73 else if (p == 64 && ta) = true then 74 else 75) := ⟨by unfold wayN hashB; rw [← hp, ← hp1, ← htb, ← hte, ← htp, ← htc, ← htx, ← htq, ← htn, ← hta]⟩
  clear h hp hp1 htb hte htp htc htx htq htn hta HW
  have key : ∀ n : Nat, wayN s = n → n = wayN s := fun _ h => h.symm
  cases tb with
  | true =>
    have HN2 : Aside0 (wayN s = 64) := ⟨by rw [HN.out]; rfl⟩
    go_enter Tryd.func50, Tryd.ntmps50
    go_wp2_with (first
      | (go_at_call 62; (with_reducible refine (peek0_c HR.out).mono ?_); rintro e W ⟨rfl, hr, hk⟩; rw [HP.out.1]; have HR := Aside0.mk hr; have HK := Aside0.mk (keep_then HK.out hk); clear hr hk)
      | (go_at_call 63; (with_reducible refine (blank_c p _).mono ?_); rintro e W ⟨rfl, hb⟩; rw [HP.out.2.2.1]; have HR := Aside0.mk (HR.out.below hb); have HK := Aside0.mk (keep_then HK.out (KeepBut.of_below hb g none)); clear hb)
      | (go_at_call 66; (with_reducible refine (esc1_c HR.out).mono ?_); rintro e W ⟨rfl, hr, hk⟩; rw [HP.out.2.2.2.1]; have HR := Aside0.mk hr; have HK := Aside0.mk (keep_then HK.out hk); clear hr hk)
      | (go_at_call 62; (with_reducible refine (peek1_c HR.out).mono ?_); rintro e W ⟨rfl, hr, hk⟩; rw [HP.out.2.1]; have HR := Aside0.mk hr; have HK := Aside0.mk (keep_then HK.out hk); clear hr hk)
      | (go_at_call 57; (with_reducible refine (part_calls p1 _).mono ?_); rintro e W ⟨rfl, hb⟩; rw [HP.out.2.2.2.2.1]; have HR := Aside0.mk (HR.out.below hb); have HK := Aside0.mk (keep_then HK.out (KeepBut.of_below hb g none)); clear hb)
      | (go_at_call 68; (with_reducible refine (cnt_c HR.out).mono ?_); rintro e W ⟨rfl, hr, hk⟩; rw [HP.out.2.2.2.2.2.1]; have HR := Aside0.mk hr; have HK := Aside0.mk (keep_then HK.out hk); clear hr hk)
      | (go_at_call 48; (with_reducible refine (cdc_c HR.out).mono ?_); rintro e W ⟨rfl, hr, hk⟩; rw [HP.out.2.2.2.2.2.2.1]; have HR := Aside0.mk hr; have HK := Aside0.mk (keep_then HK.out hk); clear hr hk)
      | (go_at_call 48; (with_reducible refine (cdo_c HR.out).mono ?_); rintro e W ⟨rfl, hr, hk⟩; rw [HP.out.2.2.2.2.2.2.2.1]; have HR := Aside0.mk hr; have HK := Aside0.mk (keep_then HK.out hk); clear hr hk)
      | (go_at_call 72; (with_reducible refine (beg0_c HR.out).mono ?_); rintro e W ⟨rfl, hr, hk⟩; rw [HP.out.2.2.2.2.2.2.2.2.1]; have HR := Aside0.mk hr; have HK := Aside0.mk (keep_then HK.out hk); clear hr hk)
      | (go_at_call 72; (with_reducible refine (beg1_c HR.out).mono ?_); rintro e W ⟨rfl, hr, hk⟩; rw [HP.out.2.2.2.2.2.2.2.2.2]; have HR := Aside0.mk hr; have HK := Aside0.mk (keep_then HK.out hk); clear hr hk)
      | fail)
    go_ret
    exact ⟨by rw [HN2.out]; rfl, HR.out, HK.out⟩
  | false =>
    cases d1 : (p == 34) with
    | true =>
      have HN2 : Aside0 (wayN s = 65) := ⟨by rw [HN.out, d1]; rfl⟩
      go_enter Tryd.func50, Tryd.ntmps50
      go_wp2_with (first
        | (go_at_call 62; (with_reducible refine (peek0_c HR.out).mono ?_); rintro e W ⟨rfl, hr, hk⟩; rw [HP.out.1]; have HR := Aside0.mk hr; have HK := Aside0.mk (keep_then HK.out hk); clear hr hk)
        | (go_at_call 63; (with_reducible refine (blank_c p _).mono ?_); rintro e W ⟨rfl, hb⟩; rw [HP.out.2.2.1]; have HR := Aside0.mk (HR.out.below hb); have HK := Aside0.mk (keep_then HK.out (KeepBut.of_below hb g none)); clear hb)
        | (go_at_call 66; (with_reducible refine (esc1_c HR.out).mono ?_); rintro e W ⟨rfl, hr, hk⟩; rw [HP.out.2.2.2.1]; have HR := Aside0.mk hr; have HK := Aside0.mk (keep_then HK.out hk); clear hr hk)
        | (go_at_call 62; (with_reducible refine (peek1_c HR.out).mono ?_); rintro e W ⟨rfl, hr, hk⟩; rw [HP.out.2.1]; have HR := Aside0.mk hr; have HK := Aside0.mk (keep_then HK.out hk); clear hr hk)
        | (go_at_call 57; (with_reducible refine (part_calls p1 _).mono ?_); rintro e W ⟨rfl, hb⟩; rw [HP.out.2.2.2.2.1]; have HR := Aside0.mk (HR.out.below hb); have HK := Aside0.mk (keep_then HK.out (KeepBut.of_below hb g none)); clear hb)
        | (go_at_call 68; (with_reducible refine (cnt_c HR.out).mono ?_); rintro e W ⟨rfl, hr, hk⟩; rw [HP.out.2.2.2.2.2.1]; have HR := Aside0.mk hr; have HK := Aside0.mk (keep_then HK.out hk); clear hr hk)
        | (go_at_call 48; (with_reducible refine (cdc_c HR.out).mono ?_); rintro e W ⟨rfl, hr, hk⟩; rw [HP.out.2.2.2.2.2.2.1]; have HR := Aside0.mk hr; have HK := Aside0.mk (keep_then HK.out hk); clear hr hk)
        | (go_at_call 48; (with_reducible refine (cdo_c HR.out).mono ?_); rintro e W ⟨rfl, hr, hk⟩; rw [HP.out.2.2.2.2.2.2.2.1]; have HR := Aside0.mk hr; have HK := Aside0.mk (keep_then HK.out hk); clear hr hk)
        | (go_at_call 72; (with_reducible refine (beg0_c HR.out).mono ?_); rintro e W ⟨rfl, hr, hk⟩; rw [HP.out.2.2.2.2.2.2.2.2.1]; have HR := Aside0.mk hr; have HK := Aside0.mk (keep_then HK.out hk); clear hr hk)
        | (go_at_call 72; (with_reducible refine (beg1_c HR.out).mono ?_); rintro e W ⟨rfl, hr, hk⟩; rw [HP.out.2.2.2.2.2.2.2.2.2]; have HR := Aside0.mk hr; have HK := Aside0.mk (keep_then HK.out hk); clear hr hk)
        | fail)
      go_ret
      exact ⟨by rw [HN2.out]; rfl, HR.out, HK.out⟩
    | false =>
      cases d2 : (p == 39) with
      | true =>
        have HN2 : Aside0 (wayN s = 65) := ⟨by rw [HN.out, d1, d2]; rfl⟩
        go_enter Tryd.func50, Tryd.ntmps50
        go_wp2_with (first
          | (go_at_call 62; (with_reducible refine (peek0_c HR.out).mono ?_); rintro e W ⟨rfl, hr, hk⟩; rw [HP.out.1]; have HR := Aside0.mk hr; have HK := Aside0.mk (keep_then HK.out hk); clear hr hk)
          | (go_at_call 63; (with_reducible refine (blank_c p _).mono ?_); rintro e W ⟨rfl, hb⟩; rw [HP.out.2.2.1]; have HR := Aside0.mk (HR.out.below hb); have HK := Aside0.mk (keep_then HK.out (KeepBut.of_below hb g none)); clear hb)
          | (go_at_call 66; (with_reducible refine (esc1_c HR.out).mono ?_); rintro e W ⟨rfl, hr, hk⟩; rw [HP.out.2.2.2.1]; have HR := Aside0.mk hr; have HK := Aside0.mk (keep_then HK.out hk); clear hr hk)
          | (go_at_call 62; (with_reducible refine (peek1_c HR.out).mono ?_); rintro e W ⟨rfl, hr, hk⟩; rw [HP.out.2.1]; have HR := Aside0.mk hr; have HK := Aside0.mk (keep_then HK.out hk); clear hr hk)
          | (go_at_call 57; (with_reducible refine (part_calls p1 _).mono ?_); rintro e W ⟨rfl, hb⟩; rw [HP.out.2.2.2.2.1]; have HR := Aside0.mk (HR.out.below hb); have HK := Aside0.mk (keep_then HK.out (KeepBut.of_below hb g none)); clear hb)
          | (go_at_call 68; (with_reducible refine (cnt_c HR.out).mono ?_); rintro e W ⟨rfl, hr, hk⟩; rw [HP.out.2.2.2.2.2.1]; have HR := Aside0.mk hr; have HK := Aside0.mk (keep_then HK.out hk); clear hr hk)
          | (go_at_call 48; (with_reducible refine (cdc_c HR.out).mono ?_); rintro e W ⟨rfl, hr, hk⟩; rw [HP.out.2.2.2.2.2.2.1]; have HR := Aside0.mk hr; have HK := Aside0.mk (keep_then HK.out hk); clear hr hk)
          | (go_at_call 48; (with_reducible refine (cdo_c HR.out).mono ?_); rintro e W ⟨rfl, hr, hk⟩; rw [HP.out.2.2.2.2.2.2.2.1]; have HR := Aside0.mk hr; have HK := Aside0.mk (keep_then HK.out hk); clear hr hk)
          | (go_at_call 72; (with_reducible refine (beg0_c HR.out).mono ?_); rintro e W ⟨rfl, hr, hk⟩; rw [HP.out.2.2.2.2.2.2.2.2.1]; have HR := Aside0.mk hr; have HK := Aside0.mk (keep_then HK.out hk); clear hr hk)
          | (go_at_call 72; (with_reducible refine (beg1_c HR.out).mono ?_); rintro e W ⟨rfl, hr, hk⟩; rw [HP.out.2.2.2.2.2.2.2.2.2]; have HR := Aside0.mk hr; have HK := Aside0.mk (keep_then HK.out hk); clear hr hk)
          | fail)
        go_ret
        exact ⟨by rw [HN2.out]; rfl, HR.out, HK.out⟩
      | false =>
        have HN : Aside0 (wayN s = if (p == 35 && (te || (p1 != -1 && tp))) = true then 67 else if tc = true then 69 else if tx = true then 70 else if tq = true then 71 else if tn = true then 73 else if (p == 64 && ta) = true then 74 else 75) := ⟨by rw [HN.out, d1, d2]; rfl⟩
        have rest : ∀ (hh : (p == 35 && (te || (p1 != -1 && tp))) = false), wayN s = if tc = true then 69 else if tx = true then 70 else if tq = true then 71 else if tn = true then 73 else if (p == 64 && ta) = true then 74 else 75 := fun hh => by rw [HN.out, hh]; rfl
        have HREST := Aside0.mk rest
        clear rest key
        cases d3 : (p == 35) with
        | false =>
          have HN3 : Aside0 (wayN s = if tc = true then 69 else if tx = true then 70 else if tq = true then 71 else if tn = true then 73 else if (p == 64 && ta) = true then 74 else 75) := ⟨HREST.out (by simp [*])⟩
          clear HREST HN
          cases tc with
          | true =>
            have HN2 : Aside0 (wayN s = 69) := ⟨by rw [HN3.out]; rfl⟩
            go_enter Tryd.func50, Tryd.ntmps50
            go_wp2_with (first
              | (go_at_call 62; (with_reducible refine (peek0_c HR.out).mono ?_); rintro e W ⟨rfl, hr, hk⟩; rw [HP.out.1]; have HR := Aside0.mk hr; have HK := Aside0.mk (keep_then HK.out hk); clear hr hk)
              | (go_at_call 63; (with_reducible refine (blank_c p _).mono ?_); rintro e W ⟨rfl, hb⟩; rw [HP.out.2.2.1]; have HR := Aside0.mk (HR.out.below hb); have HK := Aside0.mk (keep_then HK.out (KeepBut.of_below hb g none)); clear hb)
              | (go_at_call 66; (with_reducible refine (esc1_c HR.out).mono ?_); rintro e W ⟨rfl, hr, hk⟩; rw [HP.out.2.2.2.1]; have HR := Aside0.mk hr; have HK := Aside0.mk (keep_then HK.out hk); clear hr hk)
              | (go_at_call 62; (with_reducible refine (peek1_c HR.out).mono ?_); rintro e W ⟨rfl, hr, hk⟩; rw [HP.out.2.1]; have HR := Aside0.mk hr; have HK := Aside0.mk (keep_then HK.out hk); clear hr hk)
              | (go_at_call 57; (with_reducible refine (part_calls p1 _).mono ?_); rintro e W ⟨rfl, hb⟩; rw [HP.out.2.2.2.2.1]; have HR := Aside0.mk (HR.out.below hb); have HK := Aside0.mk (keep_then HK.out (KeepBut.of_below hb g none)); clear hb)
              | (go_at_call 68; (with_reducible refine (cnt_c HR.out).mono ?_); rintro e W ⟨rfl, hr, hk⟩; rw [HP.out.2.2.2.2.2.1]; have HR := Aside0.mk hr; have HK := Aside0.mk (keep_then HK.out hk); clear hr hk)
              | (go_at_call 48; (with_reducible refine (cdc_c HR.out).mono ?_); rintro e W ⟨rfl, hr, hk⟩; rw [HP.out.2.2.2.2.2.2.1]; have HR := Aside0.mk hr; have HK := Aside0.mk (keep_then HK.out hk); clear hr hk)
              | (go_at_call 48; (with_reducible refine (cdo_c HR.out).mono ?_); rintro e W ⟨rfl, hr, hk⟩; rw [HP.out.2.2.2.2.2.2.2.1]; have HR := Aside0.mk hr; have HK := Aside0.mk (keep_then HK.out hk); clear hr hk)
              | (go_at_call 72; (with_reducible refine (beg0_c HR.out).mono ?_); rintro e W ⟨rfl, hr, hk⟩; rw [HP.out.2.2.2.2.2.2.2.2.1]; have HR := Aside0.mk hr; have HK := Aside0.mk (keep_then HK.out hk); clear hr hk)
              | (go_at_call 72; (with_reducible refine (beg1_c HR.out).mono ?_); rintro e W ⟨rfl, hr, hk⟩; rw [HP.out.2.2.2.2.2.2.2.2.2]; have HR := Aside0.mk hr; have HK := Aside0.mk (keep_then HK.out hk); clear hr hk)
              | fail)
            go_ret
            exact ⟨by rw [HN2.out]; rfl, HR.out, HK.out⟩
          | false =>
            cases tx with
            | true =>
              have HN2 : Aside0 (wayN s = 70) := ⟨by rw [HN3.out]; rfl⟩
              go_enter Tryd.func50, Tryd.ntmps50
              go_wp2_with (first
                | (go_at_call 62; (with_reducible refine (peek0_c HR.out).mono ?_); rintro e W ⟨rfl, hr, hk⟩; rw [HP.out.1]; have HR := Aside0.mk hr; have HK := Aside0.mk (keep_then HK.out hk); clear hr hk)
                | (go_at_call 63; (with_reducible refine (blank_c p _).mono ?_); rintro e W ⟨rfl, hb⟩; rw [HP.out.2.2.1]; have HR := Aside0.mk (HR.out.below hb); have HK := Aside0.mk (keep_then HK.out (KeepBut.of_below hb g none)); clear hb)
                | (go_at_call 66; (with_reducible refine (esc1_c HR.out).mono ?_); rintro e W ⟨rfl, hr, hk⟩; rw [HP.out.2.2.2.1]; have HR := Aside0.mk hr; have HK := Aside0.mk (keep_then HK.out hk); clear hr hk)
                | (go_at_call 62; (with_reducible refine (peek1_c HR.out).mono ?_); rintro e W ⟨rfl, hr, hk⟩; rw [HP.out.2.1]; have HR := Aside0.mk hr; have HK := Aside0.mk (keep_then HK.out hk); clear hr hk)
                | (go_at_call 57; (with_reducible refine (part_calls p1 _).mono ?_); rintro e W ⟨rfl, hb⟩; rw [HP.out.2.2.2.2.1]; have HR := Aside0.mk (HR.out.below hb); have HK := Aside0.mk (keep_then HK.out (KeepBut.of_below hb g none)); clear hb)
                | (go_at_call 68; (with_reducible refine (cnt_c HR.out).mono ?_); rintro e W ⟨rfl, hr, hk⟩; rw [HP.out.2.2.2.2.2.1]; have HR := Aside0.mk hr; have HK := Aside0.mk (keep_then HK.out hk); clear hr hk)
                | (go_at_call 48; (with_reducible refine (cdc_c HR.out).mono ?_); rintro e W ⟨rfl, hr, hk⟩; rw [HP.out.2.2.2.2.2.2.1]; have HR := Aside0.mk hr; have HK := Aside0.mk (keep_then HK.out hk); clear hr hk)
                | (go_at_call 48; (with_reducible refine (cdo_c HR.out).mono ?_); rintro e W ⟨rfl, hr, hk⟩; rw [HP.out.2.2.2.2.2.2.2.1]; have HR := Aside0.mk hr; have HK := Aside0.mk (keep_then HK.out hk); clear hr hk)
                | (go_at_call 72; (with_reducible refine (beg0_c HR.out).mono ?_); rintro e W ⟨rfl, hr, hk⟩; rw [HP.out.2.2.2.2.2.2.2.2.1]; have HR := Aside0.mk hr; have HK := Aside0.mk (keep_then HK.out hk); clear hr hk)
                | (go_at_call 72; (with_reducible refine (beg1_c HR.out).mono ?_); rintro e W ⟨rfl, hr, hk⟩; rw [HP.out.2.2.2.2.2.2.2.2.2]; have HR := Aside0.mk hr; have HK := Aside0.mk (keep_then HK.out hk); clear hr hk)
                | fail)
              go_ret
              exact ⟨by rw [HN2.out]; rfl, HR.out, HK.out⟩
            | false =>
              cases tq with
              | true =>
                have HN2 : Aside0 (wayN s = 71) := ⟨by rw [HN3.out]; rfl⟩
                go_enter Tryd.func50, Tryd.ntmps50
                go_wp2_with (first
                  | (go_at_call 62; (with_reducible refine (peek0_c HR.out).mono ?_); rintro e W ⟨rfl, hr, hk⟩; rw [HP.out.1]; have HR := Aside0.mk hr; have HK := Aside0.mk (keep_then HK.out hk); clear hr hk)
                  | (go_at_call 63; (with_reducible refine (blank_c p _).mono ?_); rintro e W ⟨rfl, hb⟩; rw [HP.out.2.2.1]; have HR := Aside0.mk (HR.out.below hb); have HK := Aside0.mk (keep_then HK.out (KeepBut.of_below hb g none)); clear hb)
                  | (go_at_call 66; (with_reducible refine (esc1_c HR.out).mono ?_); rintro e W ⟨rfl, hr, hk⟩; rw [HP.out.2.2.2.1]; have HR := Aside0.mk hr; have HK := Aside0.mk (keep_then HK.out hk); clear hr hk)
                  | (go_at_call 62; (with_reducible refine (peek1_c HR.out).mono ?_); rintro e W ⟨rfl, hr, hk⟩; rw [HP.out.2.1]; have HR := Aside0.mk hr; have HK := Aside0.mk (keep_then HK.out hk); clear hr hk)
                  | (go_at_call 57; (with_reducible refine (part_calls p1 _).mono ?_); rintro e W ⟨rfl, hb⟩; rw [HP.out.2.2.2.2.1]; have HR := Aside0.mk (HR.out.below hb); have HK := Aside0.mk (keep_then HK.out (KeepBut.of_below hb g none)); clear hb)
                  | (go_at_call 68; (with_reducible refine (cnt_c HR.out).mono ?_); rintro e W ⟨rfl, hr, hk⟩; rw [HP.out.2.2.2.2.2.1]; have HR := Aside0.mk hr; have HK := Aside0.mk (keep_then HK.out hk); clear hr hk)
                  | (go_at_call 48; (with_reducible refine (cdc_c HR.out).mono ?_); rintro e W ⟨rfl, hr, hk⟩; rw [HP.out.2.2.2.2.2.2.1]; have HR := Aside0.mk hr; have HK := Aside0.mk (keep_then HK.out hk); clear hr hk)
                  | (go_at_call 48; (with_reducible refine (cdo_c HR.out).mono ?_); rintro e W ⟨rfl, hr, hk⟩; rw [HP.out.2.2.2.2.2.2.2.1]; have HR := Aside0.mk hr; have HK := Aside0.mk (keep_then HK.out hk); clear hr hk)
                  | (go_at_call 72; (with_reducible refine (beg0_c HR.out).mono ?_); rintro e W ⟨rfl, hr, hk⟩; rw [HP.out.2.2.2.2.2.2.2.2.1]; have HR := Aside0.mk hr; have HK := Aside0.mk (keep_then HK.out hk); clear hr hk)
                  | (go_at_call 72; (with_reducible refine (beg1_c HR.out).mono ?_); rintro e W ⟨rfl, hr, hk⟩; rw [HP.out.2.2.2.2.2.2.2.2.2]; have HR := Aside0.mk hr; have HK := Aside0.mk (keep_then HK.out hk); clear hr hk)
                  | fail)
                go_ret
                exact ⟨by rw [HN2.out]; rfl, HR.out, HK.out⟩
              | false =>
                cases tn with
                | true =>
                  have HN2 : Aside0 (wayN s = 73) := ⟨by rw [HN3.out]; rfl⟩
                  go_enter Tryd.func50, Tryd.ntmps50
                  go_wp2_with (first
                    | (go_at_call 62; (with_reducible refine (peek0_c HR.out).mono ?_); rintro e W ⟨rfl, hr, hk⟩; rw [HP.out.1]; have HR := Aside0.mk hr; have HK := Aside0.mk (keep_then HK.out hk); clear hr hk)
                    | (go_at_call 63; (with_reducible refine (blank_c p _).mono ?_); rintro e W ⟨rfl, hb⟩; rw [HP.out.2.2.1]; have HR := Aside0.mk (HR.out.below hb); have HK := Aside0.mk (keep_then HK.out (KeepBut.of_below hb g none)); clear hb)
                    | (go_at_call 66; (with_reducible refine (esc1_c HR.out).mono ?_); rintro e W ⟨rfl, hr, hk⟩; rw [HP.out.2.2.2.1]; have HR := Aside0.mk hr; have HK := Aside0.mk (keep_then HK.out hk); clear hr hk)
                    | (go_at_call 62; (with_reducible refine (peek1_c HR.out).mono ?_); rintro e W ⟨rfl, hr, hk⟩; rw [HP.out.2.1]; have HR := Aside0.mk hr; have HK := Aside0.mk (keep_then HK.out hk); clear hr hk)
                    | (go_at_call 57; (with_reducible refine (part_calls p1 _).mono ?_); rintro e W ⟨rfl, hb⟩; rw [HP.out.2.2.2.2.1]; have HR := Aside0.mk (HR.out.below hb); have HK := Aside0.mk (keep_then HK.out (KeepBut.of_below hb g none)); clear hb)
                    | (go_at_call 68; (with_reducible refine (cnt_c HR.out).mono ?_); rintro e W ⟨rfl, hr, hk⟩; rw [HP.out.2.2.2.2.2.1]; have HR := Aside0.mk hr; have HK := Aside0.mk (keep_then HK.out hk); clear hr hk)
                    | (go_at_call 48; (with_reducible refine (cdc_c HR.out).mono ?_); rintro e W ⟨rfl, hr, hk⟩; rw [HP.out.2.2.2.2.2.2.1]; have HR := Aside0.mk hr; have HK := Aside0.mk (keep_then HK.out hk); clear hr hk)
                    | (go_at_call 48; (with_reducible refine (cdo_c HR.out).mono ?_); rintro e W ⟨rfl, hr, hk⟩; rw [HP.out.2.2.2.2.2.2.2.1]; have HR := Aside0.mk hr; have HK := Aside0.mk (keep_then HK.out hk); clear hr hk)
                    | (go_at_call 72; (with_reducible refine (beg0_c HR.out).mono ?_); rintro e W ⟨rfl, hr, hk⟩; rw [HP.out.2.2.2.2.2.2.2.2.1]; have HR := Aside0.mk hr; have HK := Aside0.mk (keep_then HK.out hk); clear hr hk)
                    | (go_at_call 72; (with_reducible refine (beg1_c HR.out).mono ?_); rintro e W ⟨rfl, hr, hk⟩; rw [HP.out.2.2.2.2.2.2.2.2.2]; have HR := Aside0.mk hr; have HK := Aside0.mk (keep_then HK.out hk); clear hr hk)
                    | fail)
                  go_ret
                  exact ⟨by rw [HN2.out]; rfl, HR.out, HK.out⟩
                | false =>
                  cases d5 : (p == 64) with
                  | true =>
                    cases ta with
                    | true =>
                      have HN2 : Aside0 (wayN s = 74) := ⟨by rw [HN3.out, d5]; rfl⟩
                      go_enter Tryd.func50, Tryd.ntmps50
                      go_wp2_with (first
                        | (go_at_call 62; (with_reducible refine (peek0_c HR.out).mono ?_); rintro e W ⟨rfl, hr, hk⟩; rw [HP.out.1]; have HR := Aside0.mk hr; have HK := Aside0.mk (keep_then HK.out hk); clear hr hk)
                        | (go_at_call 63; (with_reducible refine (blank_c p _).mono ?_); rintro e W ⟨rfl, hb⟩; rw [HP.out.2.2.1]; have HR := Aside0.mk (HR.out.below hb); have HK := Aside0.mk (keep_then HK.out (KeepBut.of_below hb g none)); clear hb)
                        | (go_at_call 66; (with_reducible refine (esc1_c HR.out).mono ?_); rintro e W ⟨rfl, hr, hk⟩; rw [HP.out.2.2.2.1]; have HR := Aside0.mk hr; have HK := Aside0.mk (keep_then HK.out hk); clear hr hk)
                        | (go_at_call 62; (with_reducible refine (peek1_c HR.out).mono ?_); rintro e W ⟨rfl, hr, hk⟩; rw [HP.out.2.1]; have HR := Aside0.mk hr; have HK := Aside0.mk (keep_then HK.out hk); clear hr hk)
                        | (go_at_call 57; (with_reducible refine (part_calls p1 _).mono ?_); rintro e W ⟨rfl, hb⟩; rw [HP.out.2.2.2.2.1]; have HR := Aside0.mk (HR.out.below hb); have HK := Aside0.mk (keep_then HK.out (KeepBut.of_below hb g none)); clear hb)
                        | (go_at_call 68; (with_reducible refine (cnt_c HR.out).mono ?_); rintro e W ⟨rfl, hr, hk⟩; rw [HP.out.2.2.2.2.2.1]; have HR := Aside0.mk hr; have HK := Aside0.mk (keep_then HK.out hk); clear hr hk)
                        | (go_at_call 48; (with_reducible refine (cdc_c HR.out).mono ?_); rintro e W ⟨rfl, hr, hk⟩; rw [HP.out.2.2.2.2.2.2.1]; have HR := Aside0.mk hr; have HK := Aside0.mk (keep_then HK.out hk); clear hr hk)
                        | (go_at_call 48; (with_reducible refine (cdo_c HR.out).mono ?_); rintro e W ⟨rfl, hr, hk⟩; rw [HP.out.2.2.2.2.2.2.2.1]; have HR := Aside0.mk hr; have HK := Aside0.mk (keep_then HK.out hk); clear hr hk)
                        | (go_at_call 72; (with_reducible refine (beg0_c HR.out).mono ?_); rintro e W ⟨rfl, hr, hk⟩; rw [HP.out.2.2.2.2.2.2.2.2.1]; have HR := Aside0.mk hr; have HK := Aside0.mk (keep_then HK.out hk); clear hr hk)
                        | (go_at_call 72; (with_reducible refine (beg1_c HR.out).mono ?_); rintro e W ⟨rfl, hr, hk⟩; rw [HP.out.2.2.2.2.2.2.2.2.2]; have HR := Aside0.mk hr; have HK := Aside0.mk (keep_then HK.out hk); clear hr hk)
                        | fail)
                      go_ret
                      exact ⟨by rw [HN2.out]; rfl, HR.out, HK.out⟩
                    | false =>
                      have HN2 : Aside0 (wayN s = 75) := ⟨by rw [HN3.out, d5]; rfl⟩
                      go_enter Tryd.func50, Tryd.ntmps50
                      go_wp2_with (first
                        | (go_at_call 62; (with_reducible refine (peek0_c HR.out).mono ?_); rintro e W ⟨rfl, hr, hk⟩; rw [HP.out.1]; have HR := Aside0.mk hr; have HK := Aside0.mk (keep_then HK.out hk); clear hr hk)
                        | (go_at_call 63; (with_reducible refine (blank_c p _).mono ?_); rintro e W ⟨rfl, hb⟩; rw [HP.out.2.2.1]; have HR := Aside0.mk (HR.out.below hb); have HK := Aside0.mk (keep_then HK.out (KeepBut.of_below hb g none)); clear hb)
                        | (go_at_call 66; (with_reducible refine (esc1_c HR.out).mono ?_); rintro e W ⟨rfl, hr, hk⟩; rw [HP.out.2.2.2.1]; have HR := Aside0.mk hr; have HK := Aside0.mk (keep_then HK.out hk); clear hr hk)
                        | (go_at_call 62; (with_reducible refine (peek1_c HR.out).mono ?_); rintro e W ⟨rfl, hr, hk⟩; rw [HP.out.2.1]; have HR := Aside0.mk hr; have HK := Aside0.mk (keep_then HK.out hk); clear hr hk)
                        | (go_at_call 57; (with_reducible refine (part_calls p1 _).mono ?_); rintro e W ⟨rfl, hb⟩; rw [HP.out.2.2.2.2.1]; have HR := Aside0.mk (HR.out.below hb); have HK := Aside0.mk (keep_then HK.out (KeepBut.of_below hb g none)); clear hb)
                        | (go_at_call 68; (with_reducible refine (cnt_c HR.out).mono ?_); rintro e W ⟨rfl, hr, hk⟩; rw [HP.out.2.2.2.2.2.1]; have HR := Aside0.mk hr; have HK := Aside0.mk (keep_then HK.out hk); clear hr hk)
                        | (go_at_call 48; (with_reducible refine (cdc_c HR.out).mono ?_); rintro e W ⟨rfl, hr, hk⟩; rw [HP.out.2.2.2.2.2.2.1]; have HR := Aside0.mk hr; have HK := Aside0.mk (keep_then HK.out hk); clear hr hk)
                        | (go_at_call 48; (with_reducible refine (cdo_c HR.out).mono ?_); rintro e W ⟨rfl, hr, hk⟩; rw [HP.out.2.2.2.2.2.2.2.1]; have HR := Aside0.mk hr; have HK := Aside0.mk (keep_then HK.out hk); clear hr hk)
                        | (go_at_call 72; (with_reducible refine (beg0_c HR.out).mono ?_); rintro e W ⟨rfl, hr, hk⟩; rw [HP.out.2.2.2.2.2.2.2.2.1]; have HR := Aside0.mk hr; have HK := Aside0.mk (keep_then HK.out hk); clear hr hk)
                        | (go_at_call 72; (with_reducible refine (beg1_c HR.out).mono ?_); rintro e W ⟨rfl, hr, hk⟩; rw [HP.out.2.2.2.2.2.2.2.2.2]; have HR := Aside0.mk hr; have HK := Aside0.mk (keep_then HK.out hk); clear hr hk)
                        | fail)
                      go_ret
                      exact ⟨by rw [HN2.out]; rfl, HR.out, HK.out⟩
                  | false =>
                    have HN2 : Aside0 (wayN s = 75) := ⟨by rw [HN3.out, d5]; rfl⟩
                    go_enter Tryd.func50, Tryd.ntmps50
                    go_wp2_with (first
                      | (go_at_call 62; (with_reducible refine (peek0_c HR.out).mono ?_); rintro e W ⟨rfl, hr, hk⟩; rw [HP.out.1]; have HR := Aside0.mk hr; have HK := Aside0.mk (keep_then HK.out hk); clear hr hk)
                      | (go_at_call 63; (with_reducible refine (blank_c p _).mono ?_); rintro e W ⟨rfl, hb⟩; rw [HP.out.2.2.1]; have HR := Aside0.mk (HR.out.below hb); have HK := Aside0.mk (keep_then HK.out (KeepBut.of_below hb g none)); clear hb)
                      | (go_at_call 66; (with_reducible refine (esc1_c HR.out).mono ?_); rintro e W ⟨rfl, hr, hk⟩; rw [HP.out.2.2.2.1]; have HR := Aside0.mk hr; have HK := Aside0.mk (keep_then HK.out hk); clear hr hk)
                      | (go_at_call 62; (with_reducible refine (peek1_c HR.out).mono ?_); rintro e W ⟨rfl, hr, hk⟩; rw [HP.out.2.1]; have HR := Aside0.mk hr; have HK := Aside0.mk (keep_then HK.out hk); clear hr hk)
                      | (go_at_call 57; (with_reducible refine (part_calls p1 _).mono ?_); rintro e W ⟨rfl, hb⟩; rw [HP.out.2.2.2.2.1]; have HR := Aside0.mk (HR.out.below hb); have HK := Aside0.mk (keep_then HK.out (KeepBut.of_below hb g none)); clear hb)
                      | (go_at_call 68; (with_reducible refine (cnt_c HR.out).mono ?_); rintro e W ⟨rfl, hr, hk⟩; rw [HP.out.2.2.2.2.2.1]; have HR := Aside0.mk hr; have HK := Aside0.mk (keep_then HK.out hk); clear hr hk)
                      | (go_at_call 48; (with_reducible refine (cdc_c HR.out).mono ?_); rintro e W ⟨rfl, hr, hk⟩; rw [HP.out.2.2.2.2.2.2.1]; have HR := Aside0.mk hr; have HK := Aside0.mk (keep_then HK.out hk); clear hr hk)
                      | (go_at_call 48; (with_reducible refine (cdo_c HR.out).mono ?_); rintro e W ⟨rfl, hr, hk⟩; rw [HP.out.2.2.2.2.2.2.2.1]; have HR := Aside0.mk hr; have HK := Aside0.mk (keep_then HK.out hk); clear hr hk)
                      | (go_at_call 72; (with_reducible refine (beg0_c HR.out).mono ?_); rintro e W ⟨rfl, hr, hk⟩; rw [HP.out.2.2.2.2.2.2.2.2.1]; have HR := Aside0.mk hr; have HK := Aside0.mk (keep_then HK.out hk); clear hr hk)
                      | (go_at_call 72; (with_reducible refine (beg1_c HR.out).mono ?_); rintro e W ⟨rfl, hr, hk⟩; rw [HP.out.2.2.2.2.2.2.2.2.2]; have HR := Aside0.mk hr; have HK := Aside0.mk (keep_then HK.out hk); clear hr hk)
                      | fail)
                    go_ret
                    exact ⟨by rw [HN2.out]; rfl, HR.out, HK.out⟩
        | true =>
          cases te with
          | true =>
            have HN2 : Aside0 (wayN s = 67) := ⟨by rw [HN.out, d3]; rfl⟩
            go_enter Tryd.func50, Tryd.ntmps50
            go_wp2_with (first
              | (go_at_call 62; (with_reducible refine (peek0_c HR.out).mono ?_); rintro e W ⟨rfl, hr, hk⟩; rw [HP.out.1]; have HR := Aside0.mk hr; have HK := Aside0.mk (keep_then HK.out hk); clear hr hk)
              | (go_at_call 63; (with_reducible refine (blank_c p _).mono ?_); rintro e W ⟨rfl, hb⟩; rw [HP.out.2.2.1]; have HR := Aside0.mk (HR.out.below hb); have HK := Aside0.mk (keep_then HK.out (KeepBut.of_below hb g none)); clear hb)
              | (go_at_call 66; (with_reducible refine (esc1_c HR.out).mono ?_); rintro e W ⟨rfl, hr, hk⟩; rw [HP.out.2.2.2.1]; have HR := Aside0.mk hr; have HK := Aside0.mk (keep_then HK.out hk); clear hr hk)
              | (go_at_call 62; (with_reducible refine (peek1_c HR.out).mono ?_); rintro e W ⟨rfl, hr, hk⟩; rw [HP.out.2.1]; have HR := Aside0.mk hr; have HK := Aside0.mk (keep_then HK.out hk); clear hr hk)
              | (go_at_call 57; (with_reducible refine (part_calls p1 _).mono ?_); rintro e W ⟨rfl, hb⟩; rw [HP.out.2.2.2.2.1]; have HR := Aside0.mk (HR.out.below hb); have HK := Aside0.mk (keep_then HK.out (KeepBut.of_below hb g none)); clear hb)
              | (go_at_call 68; (with_reducible refine (cnt_c HR.out).mono ?_); rintro e W ⟨rfl, hr, hk⟩; rw [HP.out.2.2.2.2.2.1]; have HR := Aside0.mk hr; have HK := Aside0.mk (keep_then HK.out hk); clear hr hk)
              | (go_at_call 48; (with_reducible refine (cdc_c HR.out).mono ?_); rintro e W ⟨rfl, hr, hk⟩; rw [HP.out.2.2.2.2.2.2.1]; have HR := Aside0.mk hr; have HK := Aside0.mk (keep_then HK.out hk); clear hr hk)
              | (go_at_call 48; (with_reducible refine (cdo_c HR.out).mono ?_); rintro e W ⟨rfl, hr, hk⟩; rw [HP.out.2.2.2.2.2.2.2.1]; have HR := Aside0.mk hr; have HK := Aside0.mk (keep_then HK.out hk); clear hr hk)
              | (go_at_call 72; (with_reducible refine (beg0_c HR.out).mono ?_); rintro e W ⟨rfl, hr, hk⟩; rw [HP.out.2.2.2.2.2.2.2.2.1]; have HR := Aside0.mk hr; have HK := Aside0.mk (keep_then HK.out hk); clear hr hk)
              | (go_at_call 72; (with_reducible refine (beg1_c HR.out).mono ?_); rintro e W ⟨rfl, hr, hk⟩; rw [HP.out.2.2.2.2.2.2.2.2.2]; have HR := Aside0.mk hr; have HK := Aside0.mk (keep_then HK.out hk); clear hr hk)
              | fail)
            go_ret
            exact ⟨by rw [HN2.out]; rfl, HR.out, HK.out⟩
          | false =>
            cases d4 : (p1 != -1) with
            | false =>
              have HN3 : Aside0 (wayN s = if tc = true then 69 else if tx = true then 70 else if tq = true then 71 else if tn = true then 73 else if (p == 64 && ta) = true then 74 else 75) := ⟨HREST.out (by simp [*])⟩
              clear HREST HN
              cases tc with
              | true =>
                have HN2 : Aside0 (wayN s = 69) := ⟨by rw [HN3.out]; rfl⟩
                go_enter Tryd.func50, Tryd.ntmps50
                go_wp2_with (first
                  | (go_at_call 62; (with_reducible refine (peek0_c HR.out).mono ?_); rintro e W ⟨rfl, hr, hk⟩; rw [HP.out.1]; have HR := Aside0.mk hr; have HK := Aside0.mk (keep_then HK.out hk); clear hr hk)
                  | (go_at_call 63; (with_reducible refine (blank_c p _).mono ?_); rintro e W ⟨rfl, hb⟩; rw [HP.out.2.2.1]; have HR := Aside0.mk (HR.out.below hb); have HK := Aside0.mk (keep_then HK.out (KeepBut.of_below hb g none)); clear hb)
                  | (go_at_call 66; (with_reducible refine (esc1_c HR.out).mono ?_); rintro e W ⟨rfl, hr, hk⟩; rw [HP.out.2.2.2.1]; have HR := Aside0.mk hr; have HK := Aside0.mk (keep_then HK.out hk); clear hr hk)
                  | (go_at_call 62; (with_reducible refine (peek1_c HR.out).mono ?_); rintro e W ⟨rfl, hr, hk⟩; rw [HP.out.2.1]; have HR := Aside0.mk hr; have HK := Aside0.mk (keep_then HK.out hk); clear hr hk)
                  | (go_at_call 57; (with_reducible refine (part_calls p1 _).mono ?_); rintro e W ⟨rfl, hb⟩; rw [HP.out.2.2.2.2.1]; have HR := Aside0.mk (HR.out.below hb); have HK := Aside0.mk (keep_then HK.out (KeepBut.of_below hb g none)); clear hb)
                  | (go_at_call 68; (with_reducible refine (cnt_c HR.out).mono ?_); rintro e W ⟨rfl, hr, hk⟩; rw [HP.out.2.2.2.2.2.1]; have HR := Aside0.mk hr; have HK := Aside0.mk (keep_then HK.out hk); clear hr hk)
                  | (go_at_call 48; (with_reducible refine (cdc_c HR.out).mono ?_); rintro e W ⟨rfl, hr, hk⟩; rw [HP.out.2.2.2.2.2.2.1]; have HR := Aside0.mk hr; have HK := Aside0.mk (keep_then HK.out hk); clear hr hk)
                  | (go_at_call 48; (with_reducible refine (cdo_c HR.out).mono ?_); rintro e W ⟨rfl, hr, hk⟩; rw [HP.out.2.2.2.2.2.2.2.1]; have HR := Aside0.mk hr; have HK := Aside0.mk (keep_then HK.out hk); clear hr hk)
                  | (go_at_call 72; (with_reducible refine (beg0_c HR.out).mono ?_); rintro e W ⟨rfl, hr, hk⟩; rw [HP.out.2.2.2.2.2.2.2.2.1]; have HR := Aside0.mk hr; have HK := Aside0.mk (keep_then HK.out hk); clear hr hk)
                  | (go_at_call 72; (with_reducible refine (beg1_c HR.out).mono ?_); rintro e W ⟨rfl, hr, hk⟩; rw [HP.out.2.2.2.2.2.2.2.2.2]; have HR := Aside0.mk hr; have HK := Aside0.mk (keep_then HK.out hk); clear hr hk)
                  | fail)
                go_ret
                exact ⟨by rw [HN2.out]; rfl, HR.out, HK.out⟩
              | false =>
                cases tx with
                | true =>
                  have HN2 : Aside0 (wayN s = 70) := ⟨by rw [HN3.out]; rfl⟩
                  go_enter Tryd.func50, Tryd.ntmps50
                  go_wp2_with (first
                    | (go_at_call 62; (with_reducible refine (peek0_c HR.out).mono ?_); rintro e W ⟨rfl, hr, hk⟩; rw [HP.out.1]; have HR := Aside0.mk hr; have HK := Aside0.mk (keep_then HK.out hk); clear hr hk)
                    | (go_at_call 63; (with_reducible refine (blank_c p _).mono ?_); rintro e W ⟨rfl, hb⟩; rw [HP.out.2.2.1]; have HR := Aside0.mk (HR.out.below hb); have HK := Aside0.mk (keep_then HK.out (KeepBut.of_below hb g none)); clear hb)
                    | (go_at_call 66; (with_reducible refine (esc1_c HR.out).mono ?_); rintro e W ⟨rfl, hr, hk⟩; rw [HP.out.2.2.2.1]; have HR := Aside0.mk hr; have HK := Aside0.mk (keep_then HK.out hk); clear hr hk)
                    | (go_at_call 62; (with_reducible refine (peek1_c HR.out).mono ?_); rintro e W ⟨rfl, hr, hk⟩; rw [HP.out.2.1]; have HR := Aside0.mk hr; have HK := Aside0.mk (keep_then HK.out hk); clear hr hk)
                    | (go_at_call 57; (with_reducible refine (part_calls p1 _).mono ?_); rintro e W ⟨rfl, hb⟩; rw [HP.out.2.2.2.2.1]; have HR := Aside0.mk (HR.out.below hb); have HK := Aside0.mk (keep_then HK.out (KeepBut.of_below hb g none)); clear hb)
                    | (go_at_call 68; (with_reducible refine (cnt_c HR.out).mono ?_); rintro e W ⟨rfl, hr, hk⟩; rw [HP.out.2.2.2.2.2.1]; have HR := Aside0.mk hr; have HK := Aside0.mk (keep_then HK.out hk); clear hr hk)
                    | (go_at_call 48; (with_reducible refine (cdc_c HR.out).mono ?_); rintro e W ⟨rfl, hr, hk⟩; rw [HP.out.2.2.2.2.2.2.1]; have HR := Aside0.mk hr; have HK := Aside0.mk (keep_then HK.out hk); clear hr hk)
                    | (go_at_call 48; (with_reducible refine (cdo_c HR.out).mono ?_); rintro e W ⟨rfl, hr, hk⟩; rw [HP.out.2.2.2.2.2.2.2.1]; have HR := Aside0.mk hr; have HK := Aside0.mk (keep_then HK.out hk); clear hr hk)
                    | (go_at_call 72; (with_reducible refine (beg0_c HR.out).mono ?_); rintro e W ⟨rfl, hr, hk⟩; rw [HP.out.2.2.2.2.2.2.2.2.1]; have HR := Aside0.mk hr; have HK := Aside0.mk (keep_then HK.out hk); clear hr hk)
                    | (go_at_call 72; (with_reducible refine (beg1_c HR.out).mono ?_); rintro e W ⟨rfl, hr, hk⟩; rw [HP.out.2.2.2.2.2.2.2.2.2]; have HR := Aside0.mk hr; have HK := Aside0.mk (keep_then HK.out hk); clear hr hk)
                    | fail)
                  go_ret
                  exact ⟨by rw [HN2.out]; rfl, HR.out, HK.out⟩
                | false =>
                  cases tq with
                  | true =>
                    have HN2 : Aside0 (wayN s = 71) := ⟨by rw [HN3.out]; rfl⟩
                    go_enter Tryd.func50, Tryd.ntmps50
                    go_wp2_with (first
                      | (go_at_call 62; (with_reducible refine (peek0_c HR.out).mono ?_); rintro e W ⟨rfl, hr, hk⟩; rw [HP.out.1]; have HR := Aside0.mk hr; have HK := Aside0.mk (keep_then HK.out hk); clear hr hk)
                      | (go_at_call 63; (with_reducible refine (blank_c p _).mono ?_); rintro e W ⟨rfl, hb⟩; rw [HP.out.2.2.1]; have HR := Aside0.mk (HR.out.below hb); have HK := Aside0.mk (keep_then HK.out (KeepBut.of_below hb g none)); clear hb)
                      | (go_at_call 66; (with_reducible refine (esc1_c HR.out).mono ?_); rintro e W ⟨rfl, hr, hk⟩; rw [HP.out.2.2.2.1]; have HR := Aside0.mk hr; have HK := Aside0.mk (keep_then HK.out hk); clear hr hk)
                      | (go_at_call 62; (with_reducible refine (peek1_c HR.out).mono ?_); rintro e W ⟨rfl, hr, hk⟩; rw [HP.out.2.1]; have HR := Aside0.mk hr; have HK := Aside0.mk (keep_then HK.out hk); clear hr hk)
                      | (go_at_call 57; (with_reducible refine (part_calls p1 _).mono ?_); rintro e W ⟨rfl, hb⟩; rw [HP.out.2.2.2.2.1]; have HR := Aside0.mk (HR.out.below hb); have HK := Aside0.mk (keep_then HK.out (KeepBut.of_below hb g none)); clear hb)
                      | (go_at_call 68; (with_reducible refine (cnt_c HR.out).mono ?_); rintro e W ⟨rfl, hr, hk⟩; rw [HP.out.2.2.2.2.2.1]; have HR := Aside0.mk hr; have HK := Aside0.mk (keep_then HK.out hk); clear hr hk)
                      | (go_at_call 48; (with_reducible refine (cdc_c HR.out).mono ?_); rintro e W ⟨rfl, hr, hk⟩; rw [HP.out.2.2.2.2.2.2.1]; have HR := Aside0.mk hr; have HK := Aside0.mk (keep_then HK.out hk); clear hr hk)
                      | (go_at_call 48; (with_reducible refine (cdo_c HR.out).mono ?_); rintro e W ⟨rfl, hr, hk⟩; rw [HP.out.2.2.2.2.2.2.2.1]; have HR := Aside0.mk hr; have HK := Aside0.mk (keep_then HK.out hk); clear hr hk)
                      | (go_at_call 72; (with_reducible refine (beg0_c HR.out).mono ?_); rintro e W ⟨rfl, hr, hk⟩; rw [HP.out.2.2.2.2.2.2.2.2.1]; have HR := Aside0.mk hr; have HK := Aside0.mk (keep_then HK.out hk); clear hr hk)
                      | (go_at_call 72; (with_reducible refine (beg1_c HR.out).mono ?_); rintro e W ⟨rfl, hr, hk⟩; rw [HP.out.2.2.2.2.2.2.2.2.2]; have HR := Aside0.mk hr; have HK := Aside0.mk (keep_then HK.out hk); clear hr hk)
                      | fail)
                    go_ret
                    exact ⟨by rw [HN2.out]; rfl, HR.out, HK.out⟩
                  | false =>
                    cases tn with
                    | true =>
                      have HN2 : Aside0 (wayN s = 73) := ⟨by rw [HN3.out]; rfl⟩
                      go_enter Tryd.func50, Tryd.ntmps50
                      go_wp2_with (first
                        | (go_at_call 62; (with_reducible refine (peek0_c HR.out).mono ?_); rintro e W ⟨rfl, hr, hk⟩; rw [HP.out.1]; have HR := Aside0.mk hr; have HK := Aside0.mk (keep_then HK.out hk); clear hr hk)
                        | (go_at_call 63; (with_reducible refine (blank_c p _).mono ?_); rintro e W ⟨rfl, hb⟩; rw [HP.out.2.2.1]; have HR := Aside0.mk (HR.out.below hb); have HK := Aside0.mk (keep_then HK.out (KeepBut.of_below hb g none)); clear hb)
                        | (go_at_call 66; (with_reducible refine (esc1_c HR.out).mono ?_); rintro e W ⟨rfl, hr, hk⟩; rw [HP.out.2.2.2.1]; have HR := Aside0.mk hr; have HK := Aside0.mk (keep_then HK.out hk); clear hr hk)
                        | (go_at_call 62; (with_reducible refine (peek1_c HR.out).mono ?_); rintro e W ⟨rfl, hr, hk⟩; rw [HP.out.2.1]; have HR := Aside0.mk hr; have HK := Aside0.mk (keep_then HK.out hk); clear hr hk)
                        | (go_at_call 57; (with_reducible refine (part_calls p1 _).mono ?_); rintro e W ⟨rfl, hb⟩; rw [HP.out.2.2.2.2.1]; have HR := Aside0.mk (HR.out.below hb); have HK := Aside0.mk (keep_then HK.out (KeepBut.of_below hb g none)); clear hb)
                        | (go_at_call 68; (with_reducible refine (cnt_c HR.out).mono ?_); rintro e W ⟨rfl, hr, hk⟩; rw [HP.out.2.2.2.2.2.1]; have HR := Aside0.mk hr; have HK := Aside0.mk (keep_then HK.out hk); clear hr hk)
                        | (go_at_call 48; (with_reducible refine (cdc_c HR.out).mono ?_); rintro e W ⟨rfl, hr, hk⟩; rw [HP.out.2.2.2.2.2.2.1]; have HR := Aside0.mk hr; have HK := Aside0.mk (keep_then HK.out hk); clear hr hk)
                        | (go_at_call 48; (with_reducible refine (cdo_c HR.out).mono ?_); rintro e W ⟨rfl, hr, hk⟩; rw [HP.out.2.2.2.2.2.2.2.1]; have HR := Aside0.mk hr; have HK := Aside0.mk (keep_then HK.out hk); clear hr hk)
                        | (go_at_call 72; (with_reducible refine (beg0_c HR.out).mono ?_); rintro e W ⟨rfl, hr, hk⟩; rw [HP.out.2.2.2.2.2.2.2.2.1]; have HR := Aside0.mk hr; have HK := Aside0.mk (keep_then HK.out hk); clear hr hk)
                        | (go_at_call 72; (with_reducible refine (beg1_c HR.out).mono ?_); rintro e W ⟨rfl, hr, hk⟩; rw [HP.out.2.2.2.2.2.2.2.2.2]; have HR := Aside0.mk hr; have HK := Aside0.mk (keep_then HK.out hk); clear hr hk)
                        | fail)
                      go_ret
                      exact ⟨by rw [HN2.out]; rfl, HR.out, HK.out⟩
                    | false =>
                      cases d5 : (p == 64) with
                      | true =>
                        cases ta with
                        | true =>
                          have HN2 : Aside0 (wayN s = 74) := ⟨by rw [HN3.out, d5]; rfl⟩
                          go_enter Tryd.func50, Tryd.ntmps50
                          go_wp2_with (first
                            | (go_at_call 62; (with_reducible refine (peek0_c HR.out).mono ?_); rintro e W ⟨rfl, hr, hk⟩; rw [HP.out.1]; have HR := Aside0.mk hr; have HK := Aside0.mk (keep_then HK.out hk); clear hr hk)
                            | (go_at_call 63; (with_reducible refine (blank_c p _).mono ?_); rintro e W ⟨rfl, hb⟩; rw [HP.out.2.2.1]; have HR := Aside0.mk (HR.out.below hb); have HK := Aside0.mk (keep_then HK.out (KeepBut.of_below hb g none)); clear hb)
                            | (go_at_call 66; (with_reducible refine (esc1_c HR.out).mono ?_); rintro e W ⟨rfl, hr, hk⟩; rw [HP.out.2.2.2.1]; have HR := Aside0.mk hr; have HK := Aside0.mk (keep_then HK.out hk); clear hr hk)
                            | (go_at_call 62; (with_reducible refine (peek1_c HR.out).mono ?_); rintro e W ⟨rfl, hr, hk⟩; rw [HP.out.2.1]; have HR := Aside0.mk hr; have HK := Aside0.mk (keep_then HK.out hk); clear hr hk)
                            | (go_at_call 57; (with_reducible refine (part_calls p1 _).mono ?_); rintro e W ⟨rfl, hb⟩; rw [HP.out.2.2.2.2.1]; have HR := Aside0.mk (HR.out.below hb); have HK := Aside0.mk (keep_then HK.out (KeepBut.of_below hb g none)); clear hb)
                            | (go_at_call 68; (with_reducible refine (cnt_c HR.out).mono ?_); rintro e W ⟨rfl, hr, hk⟩; rw [HP.out.2.2.2.2.2.1]; have HR := Aside0.mk hr; have HK := Aside0.mk (keep_then HK.out hk); clear hr hk)
                            | (go_at_call 48; (with_reducible refine (cdc_c HR.out).mono ?_); rintro e W ⟨rfl, hr, hk⟩; rw [HP.out.2.2.2.2.2.2.1]; have HR := Aside0.mk hr; have HK := Aside0.mk (keep_then HK.out hk); clear hr hk)
                            | (go_at_call 48; (with_reducible refine (cdo_c HR.out).mono ?_); rintro e W ⟨rfl, hr, hk⟩; rw [HP.out.2.2.2.2.2.2.2.1]; have HR := Aside0.mk hr; have HK := Aside0.mk (keep_then HK.out hk); clear hr hk)
                            | (go_at_call 72; (with_reducible refine (beg0_c HR.out).mono ?_); rintro e W ⟨rfl, hr, hk⟩; rw [HP.out.2.2.2.2.2.2.2.2.1]; have HR := Aside0.mk hr; have HK := Aside0.mk (keep_then HK.out hk); clear hr hk)
                            | (go_at_call 72; (with_reducible refine (beg1_c HR.out).mono ?_); rintro e W ⟨rfl, hr, hk⟩; rw [HP.out.2.2.2.2.2.2.2.2.2]; have HR := Aside0.mk hr; have HK := Aside0.mk (keep_then HK.out hk); clear hr hk)
                            | fail)
                          go_ret
                          exact ⟨by rw [HN2.out]; rfl, HR.out, HK.out⟩
                        | false =>
                          have HN2 : Aside0 (wayN s = 75) := ⟨by rw [HN3.out, d5]; rfl⟩
                          go_enter Tryd.func50, Tryd.ntmps50
                          go_wp2_with (first
                            | (go_at_call 62; (with_reducible refine (peek0_c HR.out).mono ?_); rintro e W ⟨rfl, hr, hk⟩; rw [HP.out.1]; have HR := Aside0.mk hr; have HK := Aside0.mk (keep_then HK.out hk); clear hr hk)
                            | (go_at_call 63; (with_reducible refine (blank_c p _).mono ?_); rintro e W ⟨rfl, hb⟩; rw [HP.out.2.2.1]; have HR := Aside0.mk (HR.out.below hb); have HK := Aside0.mk (keep_then HK.out (KeepBut.of_below hb g none)); clear hb)
                            | (go_at_call 66; (with_reducible refine (esc1_c HR.out).mono ?_); rintro e W ⟨rfl, hr, hk⟩; rw [HP.out.2.2.2.1]; have HR := Aside0.mk hr; have HK := Aside0.mk (keep_then HK.out hk); clear hr hk)
                            | (go_at_call 62; (with_reducible refine (peek1_c HR.out).mono ?_); rintro e W ⟨rfl, hr, hk⟩; rw [HP.out.2.1]; have HR := Aside0.mk hr; have HK := Aside0.mk (keep_then HK.out hk); clear hr hk)
                            | (go_at_call 57; (with_reducible refine (part_calls p1 _).mono ?_); rintro e W ⟨rfl, hb⟩; rw [HP.out.2.2.2.2.1]; have HR := Aside0.mk (HR.out.below hb); have HK := Aside0.mk (keep_then HK.out (KeepBut.of_below hb g none)); clear hb)
                            | (go_at_call 68; (with_reducible refine (cnt_c HR.out).mono ?_); rintro e W ⟨rfl, hr, hk⟩; rw [HP.out.2.2.2.2.2.1]; have HR := Aside0.mk hr; have HK := Aside0.mk (keep_then HK.out hk); clear hr hk)
                            | (go_at_call 48; (with_reducible refine (cdc_c HR.out).mono ?_); rintro e W ⟨rfl, hr, hk⟩; rw [HP.out.2.2.2.2.2.2.1]; have HR := Aside0.mk hr; have HK := Aside0.mk (keep_then HK.out hk); clear hr hk)
                            | (go_at_call 48; (with_reducible refine (cdo_c HR.out).mono ?_); rintro e W ⟨rfl, hr, hk⟩; rw [HP.out.2.2.2.2.2.2.2.1]; have HR := Aside0.mk hr; have HK := Aside0.mk (keep_then HK.out hk); clear hr hk)
                            | (go_at_call 72; (with_reducible refine (beg0_c HR.out).mono ?_); rintro e W ⟨rfl, hr, hk⟩; rw [HP.out.2.2.2.2.2.2.2.2.1]; have HR := Aside0.mk hr; have HK := Aside0.mk (keep_then HK.out hk); clear hr hk)
                            | (go_at_call 72; (with_reducible refine (beg1_c HR.out).mono ?_); rintro e W ⟨rfl, hr, hk⟩; rw [HP.out.2.2.2.2.2.2.2.2.2]; have HR := Aside0.mk hr; have HK := Aside0.mk (keep_then HK.out hk); clear hr hk)
                            | fail)
                          go_ret
                          exact ⟨by rw [HN2.out]; rfl, HR.out, HK.out⟩
                      | false =>
                        have HN2 : Aside0 (wayN s = 75) := ⟨by rw [HN3.out, d5]; rfl⟩
                        go_enter Tryd.func50, Tryd.ntmps50
                        go_wp2_with (first
                          | (go_at_call 62; (with_reducible refine (peek0_c HR.out).mono ?_); rintro e W ⟨rfl, hr, hk⟩; rw [HP.out.1]; have HR := Aside0.mk hr; have HK := Aside0.mk (keep_then HK.out hk); clear hr hk)
                          | (go_at_call 63; (with_reducible refine (blank_c p _).mono ?_); rintro e W ⟨rfl, hb⟩; rw [HP.out.2.2.1]; have HR := Aside0.mk (HR.out.below hb); have HK := Aside0.mk (keep_then HK.out (KeepBut.of_below hb g none)); clear hb)
                          | (go_at_call 66; (with_reducible refine (esc1_c HR.out).mono ?_); rintro e W ⟨rfl, hr, hk⟩; rw [HP.out.2.2.2.1]; have HR := Aside0.mk hr; have HK := Aside0.mk (keep_then HK.out hk); clear hr hk)
                          | (go_at_call 62; (with_reducible refine (peek1_c HR.out).mono ?_); rintro e W ⟨rfl, hr, hk⟩; rw [HP.out.2.1]; have HR := Aside0.mk hr; have HK := Aside0.mk (keep_then HK.out hk); clear hr hk)
                          | (go_at_call 57; (with_reducible refine (part_calls p1 _).mono ?_); rintro e W ⟨rfl, hb⟩; rw [HP.out.2.2.2.2.1]; have HR := Aside0.mk (HR.out.below hb); have HK := Aside0.mk (keep_then HK.out (KeepBut.of_below hb g none)); clear hb)
                          | (go_at_call 68; (with_reducible refine (cnt_c HR.out).mono ?_); rintro e W ⟨rfl, hr, hk⟩; rw [HP.out.2.2.2.2.2.1]; have HR := Aside0.mk hr; have HK := Aside0.mk (keep_then HK.out hk); clear hr hk)
                          | (go_at_call 48; (with_reducible refine (cdc_c HR.out).mono ?_); rintro e W ⟨rfl, hr, hk⟩; rw [HP.out.2.2.2.2.2.2.1]; have HR := Aside0.mk hr; have HK := Aside0.mk (keep_then HK.out hk); clear hr hk)
                          | (go_at_call 48; (with_reducible refine (cdo_c HR.out).mono ?_); rintro e W ⟨rfl, hr, hk⟩; rw [HP.out.2.2.2.2.2.2.2.1]; have HR := Aside0.mk hr; have HK := Aside0.mk (keep_then HK.out hk); clear hr hk)
                          | (go_at_call 72; (with_reducible refine (beg0_c HR.out).mono ?_); rintro e W ⟨rfl, hr, hk⟩; rw [HP.out.2.2.2.2.2.2.2.2.1]; have HR := Aside0.mk hr; have HK := Aside0.mk (keep_then HK.out hk); clear hr hk)
                          | (go_at_call 72; (with_reducible refine (beg1_c HR.out).mono ?_); rintro e W ⟨rfl, hr, hk⟩; rw [HP.out.2.2.2.2.2.2.2.2.2]; have HR := Aside0.mk hr; have HK := Aside0.mk (keep_then HK.out hk); clear hr hk)
                          | fail)
                        go_ret
                        exact ⟨by rw [HN2.out]; rfl, HR.out, HK.out⟩
            | true =>
              cases tp with
              | true =>
                have HN2 : Aside0 (wayN s = 67) := ⟨by rw [HN.out, d3, d4]; rfl⟩
                go_enter Tryd.func50, Tryd.ntmps50
                go_wp2_with (first
                  | (go_at_call 62; (with_reducible refine (peek0_c HR.out).mono ?_); rintro e W ⟨rfl, hr, hk⟩; rw [HP.out.1]; have HR := Aside0.mk hr; have HK := Aside0.mk (keep_then HK.out hk); clear hr hk)
                  | (go_at_call 63; (with_reducible refine (blank_c p _).mono ?_); rintro e W ⟨rfl, hb⟩; rw [HP.out.2.2.1]; have HR := Aside0.mk (HR.out.below hb); have HK := Aside0.mk (keep_then HK.out (KeepBut.of_below hb g none)); clear hb)
                  | (go_at_call 66; (with_reducible refine (esc1_c HR.out).mono ?_); rintro e W ⟨rfl, hr, hk⟩; rw [HP.out.2.2.2.1]; have HR := Aside0.mk hr; have HK := Aside0.mk (keep_then HK.out hk); clear hr hk)
                  | (go_at_call 62; (with_reducible refine (peek1_c HR.out).mono ?_); rintro e W ⟨rfl, hr, hk⟩; rw [HP.out.2.1]; have HR := Aside0.mk hr; have HK := Aside0.mk (keep_then HK.out hk); clear hr hk)
                  | (go_at_call 57; (with_reducible refine (part_calls p1 _).mono ?_); rintro e W ⟨rfl, hb⟩; rw [HP.out.2.2.2.2.1]; have HR := Aside0.mk (HR.out.below hb); have HK := Aside0.mk (keep_then HK.out (KeepBut.of_below hb g none)); clear hb)
                  | (go_at_call 68; (with_reducible refine (cnt_c HR.out).mono ?_); rintro e W ⟨rfl, hr, hk⟩; rw [HP.out.2.2.2.2.2.1]; have HR := Aside0.mk hr; have HK := Aside0.mk (keep_then HK.out hk); clear hr hk)
                  | (go_at_call 48; (with_reducible refine (cdc_c HR.out).mono ?_); rintro e W ⟨rfl, hr, hk⟩; rw [HP.out.2.2.2.2.2.2.1]; have HR := Aside0.mk hr; have HK := Aside0.mk (keep_then HK.out hk); clear hr hk)
                  | (go_at_call 48; (with_reducible refine (cdo_c HR.out).mono ?_); rintro e W ⟨rfl, hr, hk⟩; rw [HP.out.2.2.2.2.2.2.2.1]; have HR := Aside0.mk hr; have HK := Aside0.mk (keep_then HK.out hk); clear hr hk)
                  | (go_at_call 72; (with_reducible refine (beg0_c HR.out).mono ?_); rintro e W ⟨rfl, hr, hk⟩; rw [HP.out.2.2.2.2.2.2.2.2.1]; have HR := Aside0.mk hr; have HK := Aside0.mk (keep_then HK.out hk); clear hr hk)
                  | (go_at_call 72; (with_reducible refine (beg1_c HR.out).mono ?_); rintro e W ⟨rfl, hr, hk⟩; rw [HP.out.2.2.2.2.2.2.2.2.2]; have HR := Aside0.mk hr; have HK := Aside0.mk (keep_then HK.out hk); clear hr hk)
                  | fail)
                go_ret
                exact ⟨by rw [HN2.out]; rfl, HR.out, HK.out⟩
              | false =>
                have HN3 : Aside0 (wayN s = if tc = true then 69 else if tx = true then 70 else if tq = true then 71 else if tn = true then 73 else if (p == 64 && ta) = true then 74 else 75) := ⟨HREST.out (by simp [*])⟩
                clear HREST HN
                cases tc with
                | true =>
                  have HN2 : Aside0 (wayN s = 69) := ⟨by rw [HN3.out]; rfl⟩
                  go_enter Tryd.func50, Tryd.ntmps50
                  go_wp2_with (first
                    | (go_at_call 62; (with_reducible refine (peek0_c HR.out).mono ?_); rintro e W ⟨rfl, hr, hk⟩; rw [HP.out.1]; have HR := Aside0.mk hr; have HK := Aside0.mk (keep_then HK.out hk); clear hr hk)
                    | (go_at_call 63; (with_reducible refine (blank_c p _).mono ?_); rintro e W ⟨rfl, hb⟩; rw [HP.out.2.2.1]; have HR := Aside0.mk (HR.out.below hb); have HK := Aside0.mk (keep_then HK.out (KeepBut.of_below hb g none)); clear hb)
                    | (go_at_call 66; (with_reducible refine (esc1_c HR.out).mono ?_); rintro e W ⟨rfl, hr, hk⟩; rw [HP.out.2.2.2.1]; have HR := Aside0.mk hr; have HK := Aside0.mk (keep_then HK.out hk); clear hr hk)
                    | (go_at_call 62; (with_reducible refine (peek1_c HR.out).mono ?_); rintro e W ⟨rfl, hr, hk⟩; rw [HP.out.2.1]; have HR := Aside0.mk hr; have HK := Aside0.mk (keep_then HK.out hk); clear hr hk)
                    | (go_at_call 57; (with_reducible refine (part_calls p1 _).mono ?_); rintro e W ⟨rfl, hb⟩; rw [HP.out.2.2.2.2.1]; have HR := Aside0.mk (HR.out.below hb); have HK := Aside0.mk (keep_then HK.out (KeepBut.of_below hb g none)); clear hb)
                    | (go_at_call 68; (with_reducible refine (cnt_c HR.out).mono ?_); rintro e W ⟨rfl, hr, hk⟩; rw [HP.out.2.2.2.2.2.1]; have HR := Aside0.mk hr; have HK := Aside0.mk (keep_then HK.out hk); clear hr hk)
                    | (go_at_call 48; (with_reducible refine (cdc_c HR.out).mono ?_); rintro e W ⟨rfl, hr, hk⟩; rw [HP.out.2.2.2.2.2.2.1]; have HR := Aside0.mk hr; have HK := Aside0.mk (keep_then HK.out hk); clear hr hk)
                    | (go_at_call 48; (with_reducible refine (cdo_c HR.out).mono ?_); rintro e W ⟨rfl, hr, hk⟩; rw [HP.out.2.2.2.2.2.2.2.1]; have HR := Aside0.mk hr; have HK := Aside0.mk (keep_then HK.out hk); clear hr hk)
                    | (go_at_call 72; (with_reducible refine (beg0_c HR.out).mono ?_); rintro e W ⟨rfl, hr, hk⟩; rw [HP.out.2.2.2.2.2.2.2.2.1]; have HR := Aside0.mk hr; have HK := Aside0.mk (keep_then HK.out hk); clear hr hk)
                    | (go_at_call 72; (with_reducible refine (beg1_c HR.out).mono ?_); rintro e W ⟨rfl, hr, hk⟩; rw [HP.out.2.2.2.2.2.2.2.2.2]; have HR := Aside0.mk hr; have HK := Aside0.mk (keep_then HK.out hk); clear hr hk)
                    | fail)
                  go_ret
                  exact ⟨by rw [HN2.out]; rfl, HR.out, HK.out⟩
                | false =>
                  cases tx with
                  | true =>
                    have HN2 : Aside0 (wayN s = 70) := ⟨by rw [HN3.out]; rfl⟩
                    go_enter Tryd.func50, Tryd.ntmps50
                    go_wp2_with (first
                      | (go_at_call 62; (with_reducible refine (peek0_c HR.out).mono ?_); rintro e W ⟨rfl, hr, hk⟩; rw [HP.out.1]; have HR := Aside0.mk hr; have HK := Aside0.mk (keep_then HK.out hk); clear hr hk)
                      | (go_at_call 63; (with_reducible refine (blank_c p _).mono ?_); rintro e W ⟨rfl, hb⟩; rw [HP.out.2.2.1]; have HR := Aside0.mk (HR.out.below hb); have HK := Aside0.mk (keep_then HK.out (KeepBut.of_below hb g none)); clear hb)
                      | (go_at_call 66; (with_reducible refine (esc1_c HR.out).mono ?_); rintro e W ⟨rfl, hr, hk⟩; rw [HP.out.2.2.2.1]; have HR := Aside0.mk hr; have HK := Aside0.mk (keep_then HK.out hk); clear hr hk)
                      | (go_at_call 62; (with_reducible refine (peek1_c HR.out).mono ?_); rintro e W ⟨rfl, hr, hk⟩; rw [HP.out.2.1]; have HR := Aside0.mk hr; have HK := Aside0.mk (keep_then HK.out hk); clear hr hk)
                      | (go_at_call 57; (with_reducible refine (part_calls p1 _).mono ?_); rintro e W ⟨rfl, hb⟩; rw [HP.out.2.2.2.2.1]; have HR := Aside0.mk (HR.out.below hb); have HK := Aside0.mk (keep_then HK.out (KeepBut.of_below hb g none)); clear hb)
                      | (go_at_call 68; (with_reducible refine (cnt_c HR.out).mono ?_); rintro e W ⟨rfl, hr, hk⟩; rw [HP.out.2.2.2.2.2.1]; have HR := Aside0.mk hr; have HK := Aside0.mk (keep_then HK.out hk); clear hr hk)
                      | (go_at_call 48; (with_reducible refine (cdc_c HR.out).mono ?_); rintro e W ⟨rfl, hr, hk⟩; rw [HP.out.2.2.2.2.2.2.1]; have HR := Aside0.mk hr; have HK := Aside0.mk (keep_then HK.out hk); clear hr hk)
                      | (go_at_call 48; (with_reducible refine (cdo_c HR.out).mono ?_); rintro e W ⟨rfl, hr, hk⟩; rw [HP.out.2.2.2.2.2.2.2.1]; have HR := Aside0.mk hr; have HK := Aside0.mk (keep_then HK.out hk); clear hr hk)
                      | (go_at_call 72; (with_reducible refine (beg0_c HR.out).mono ?_); rintro e W ⟨rfl, hr, hk⟩; rw [HP.out.2.2.2.2.2.2.2.2.1]; have HR := Aside0.mk hr; have HK := Aside0.mk (keep_then HK.out hk); clear hr hk)
                      | (go_at_call 72; (with_reducible refine (beg1_c HR.out).mono ?_); rintro e W ⟨rfl, hr, hk⟩; rw [HP.out.2.2.2.2.2.2.2.2.2]; have HR := Aside0.mk hr; have HK := Aside0.mk (keep_then HK.out hk); clear hr hk)
                      | fail)
                    go_ret
                    exact ⟨by rw [HN2.out]; rfl, HR.out, HK.out⟩
                  | false =>
                    cases tq with
                    | true =>
                      have HN2 : Aside0 (wayN s = 71) := ⟨by rw [HN3.out]; rfl⟩
                      go_enter Tryd.func50, Tryd.ntmps50
                      go_wp2_with (first
                        | (go_at_call 62; (with_reducible refine (peek0_c HR.out).mono ?_); rintro e W ⟨rfl, hr, hk⟩; rw [HP.out.1]; have HR := Aside0.mk hr; have HK := Aside0.mk (keep_then HK.out hk); clear hr hk)
                        | (go_at_call 63; (with_reducible refine (blank_c p _).mono ?_); rintro e W ⟨rfl, hb⟩; rw [HP.out.2.2.1]; have HR := Aside0.mk (HR.out.below hb); have HK := Aside0.mk (keep_then HK.out (KeepBut.of_below hb g none)); clear hb)
                        | (go_at_call 66; (with_reducible refine (esc1_c HR.out).mono ?_); rintro e W ⟨rfl, hr, hk⟩; rw [HP.out.2.2.2.1]; have HR := Aside0.mk hr; have HK := Aside0.mk (keep_then HK.out hk); clear hr hk)
                        | (go_at_call 62; (with_reducible refine (peek1_c HR.out).mono ?_); rintro e W ⟨rfl, hr, hk⟩; rw [HP.out.2.1]; have HR := Aside0.mk hr; have HK := Aside0.mk (keep_then HK.out hk); clear hr hk)
                        | (go_at_call 57; (with_reducible refine (part_calls p1 _).mono ?_); rintro e W ⟨rfl, hb⟩; rw [HP.out.2.2.2.2.1]; have HR := Aside0.mk (HR.out.below hb); have HK := Aside0.mk (keep_then HK.out (KeepBut.of_below hb g none)); clear hb)
                        | (go_at_call 68; (with_reducible refine (cnt_c HR.out).mono ?_); rintro e W ⟨rfl, hr, hk⟩; rw [HP.out.2.2.2.2.2.1]; have HR := Aside0.mk hr; have HK := Aside0.mk (keep_then HK.out hk); clear hr hk)
                        | (go_at_call 48; (with_reducible refine (cdc_c HR.out).mono ?_); rintro e W ⟨rfl, hr, hk⟩; rw [HP.out.2.2.2.2.2.2.1]; have HR := Aside0.mk hr; have HK := Aside0.mk (keep_then HK.out hk); clear hr hk)
                        | (go_at_call 48; (with_reducible refine (cdo_c HR.out).mono ?_); rintro e W ⟨rfl, hr, hk⟩; rw [HP.out.2.2.2.2.2.2.2.1]; have HR := Aside0.mk hr; have HK := Aside0.mk (keep_then HK.out hk); clear hr hk)
                        | (go_at_call 72; (with_reducible refine (beg0_c HR.out).mono ?_); rintro e W ⟨rfl, hr, hk⟩; rw [HP.out.2.2.2.2.2.2.2.2.1]; have HR := Aside0.mk hr; have HK := Aside0.mk (keep_then HK.out hk); clear hr hk)
                        | (go_at_call 72; (with_reducible refine (beg1_c HR.out).mono ?_); rintro e W ⟨rfl, hr, hk⟩; rw [HP.out.2.2.2.2.2.2.2.2.2]; have HR := Aside0.mk hr; have HK := Aside0.mk (keep_then HK.out hk); clear hr hk)
                        | fail)
                      go_ret
                      exact ⟨by rw [HN2.out]; rfl, HR.out, HK.out⟩
                    | false =>
                      cases tn with
                      | true =>
                        have HN2 : Aside0 (wayN s = 73) := ⟨by rw [HN3.out]; rfl⟩
                        go_enter Tryd.func50, Tryd.ntmps50
                        go_wp2_with (first
                          | (go_at_call 62; (with_reducible refine (peek0_c HR.out).mono ?_); rintro e W ⟨rfl, hr, hk⟩; rw [HP.out.1]; have HR := Aside0.mk hr; have HK := Aside0.mk (keep_then HK.out hk); clear hr hk)
                          | (go_at_call 63; (with_reducible refine (blank_c p _).mono ?_); rintro e W ⟨rfl, hb⟩; rw [HP.out.2.2.1]; have HR := Aside0.mk (HR.out.below hb); have HK := Aside0.mk (keep_then HK.out (KeepBut.of_below hb g none)); clear hb)
                          | (go_at_call 66; (with_reducible refine (esc1_c HR.out).mono ?_); rintro e W ⟨rfl, hr, hk⟩; rw [HP.out.2.2.2.1]; have HR := Aside0.mk hr; have HK := Aside0.mk (keep_then HK.out hk); clear hr hk)
                          | (go_at_call 62; (with_reducible refine (peek1_c HR.out).mono ?_); rintro e W ⟨rfl, hr, hk⟩; rw [HP.out.2.1]; have HR := Aside0.mk hr; have HK := Aside0.mk (keep_then HK.out hk); clear hr hk)
                          | (go_at_call 57; (with_reducible refine (part_calls p1 _).mono ?_); rintro e W ⟨rfl, hb⟩; rw [HP.out.2.2.2.2.1]; have HR := Aside0.mk (HR.out.below hb); have HK := Aside0.mk (keep_then HK.out (KeepBut.of_below hb g none)); clear hb)
                          | (go_at_call 68; (with_reducible refine (cnt_c HR.out).mono ?_); rintro e W ⟨rfl, hr, hk⟩; rw [HP.out.2.2.2.2.2.1]; have HR := Aside0.mk hr; have HK := Aside0.mk (keep_then HK.out hk); clear hr hk)
                          | (go_at_call 48; (with_reducible refine (cdc_c HR.out).mono ?_); rintro e W ⟨rfl, hr, hk⟩; rw [HP.out.2.2.2.2.2.2.1]; have HR := Aside0.mk hr; have HK := Aside0.mk (keep_then HK.out hk); clear hr hk)
                          | (go_at_call 48; (with_reducible refine (cdo_c HR.out).mono ?_); rintro e W ⟨rfl, hr, hk⟩; rw [HP.out.2.2.2.2.2.2.2.1]; have HR := Aside0.mk hr; have HK := Aside0.mk (keep_then HK.out hk); clear hr hk)
                          | (go_at_call 72; (with_reducible refine (beg0_c HR.out).mono ?_); rintro e W ⟨rfl, hr, hk⟩; rw [HP.out.2.2.2.2.2.2.2.2.1]; have HR := Aside0.mk hr; have HK := Aside0.mk (keep_then HK.out hk); clear hr hk)
                          | (go_at_call 72; (with_reducible refine (beg1_c HR.out).mono ?_); rintro e W ⟨rfl, hr, hk⟩; rw [HP.out.2.2.2.2.2.2.2.2.2]; have HR := Aside0.mk hr; have HK := Aside0.mk (keep_then HK.out hk); clear hr hk)
                          | fail)
                        go_ret
                        exact ⟨by rw [HN2.out]; rfl, HR.out, HK.out⟩
                      | false =>
                        cases d5 : (p == 64) with
                        | true =>
                          cases ta with
                          | true =>
                            have HN2 : Aside0 (wayN s = 74) := ⟨by rw [HN3.out, d5]; rfl⟩
                            go_enter Tryd.func50, Tryd.ntmps50
                            go_wp2_with (first
                              | (go_at_call 62; (with_reducible refine (peek0_c HR.out).mono ?_); rintro e W ⟨rfl, hr, hk⟩; rw [HP.out.1]; have HR := Aside0.mk hr; have HK := Aside0.mk (keep_then HK.out hk); clear hr hk)
                              | (go_at_call 63; (with_reducible refine (blank_c p _).mono ?_); rintro e W ⟨rfl, hb⟩; rw [HP.out.2.2.1]; have HR := Aside0.mk (HR.out.below hb); have HK := Aside0.mk (keep_then HK.out (KeepBut.of_below hb g none)); clear hb)
                              | (go_at_call 66; (with_reducible refine (esc1_c HR.out).mono ?_); rintro e W ⟨rfl, hr, hk⟩; rw [HP.out.2.2.2.1]; have HR := Aside0.mk hr; have HK := Aside0.mk (keep_then HK.out hk); clear hr hk)
                              | (go_at_call 62; (with_reducible refine (peek1_c HR.out).mono ?_); rintro e W ⟨rfl, hr, hk⟩; rw [HP.out.2.1]; have HR := Aside0.mk hr; have HK := Aside0.mk (keep_then HK.out hk); clear hr hk)
                              | (go_at_call 57; (with_reducible refine (part_calls p1 _).mono ?_); rintro e W ⟨rfl, hb⟩; rw [HP.out.2.2.2.2.1]; have HR := Aside0.mk (HR.out.below hb); have HK := Aside0.mk (keep_then HK.out (KeepBut.of_below hb g none)); clear hb)
                              | (go_at_call 68; (with_reducible refine (cnt_c HR.out).mono ?_); rintro e W ⟨rfl, hr, hk⟩; rw [HP.out.2.2.2.2.2.1]; have HR := Aside0.mk hr; have HK := Aside0.mk (keep_then HK.out hk); clear hr hk)
                              | (go_at_call 48; (with_reducible refine (cdc_c HR.out).mono ?_); rintro e W ⟨rfl, hr, hk⟩; rw [HP.out.2.2.2.2.2.2.1]; have HR := Aside0.mk hr; have HK := Aside0.mk (keep_then HK.out hk); clear hr hk)
                              | (go_at_call 48; (with_reducible refine (cdo_c HR.out).mono ?_); rintro e W ⟨rfl, hr, hk⟩; rw [HP.out.2.2.2.2.2.2.2.1]; have HR := Aside0.mk hr; have HK := Aside0.mk (keep_then HK.out hk); clear hr hk)
                              | (go_at_call 72; (with_reducible refine (beg0_c HR.out).mono ?_); rintro e W ⟨rfl, hr, hk⟩; rw [HP.out.2.2.2.2.2.2.2.2.1]; have HR := Aside0.mk hr; have HK := Aside0.mk (keep_then HK.out hk); clear hr hk)
                              | (go_at_call 72; (with_reducible refine (beg1_c HR.out).mono ?_); rintro e W ⟨rfl, hr, hk⟩; rw [HP.out.2.2.2.2.2.2.2.2.2]; have HR := Aside0.mk hr; have HK := Aside0.mk (keep_then HK.out hk); clear hr hk)
                              | fail)
                            go_ret
                            exact ⟨by rw [HN2.out]; rfl, HR.out, HK.out⟩
                          | false =>
                            have HN2 : Aside0 (wayN s = 75) := ⟨by rw [HN3.out, d5]; rfl⟩
                            go_enter Tryd.func50, Tryd.ntmps50
                            go_wp2_with (first
                              | (go_at_call 62; (with_reducible refine (peek0_c HR.out).mono ?_); rintro e W ⟨rfl, hr, hk⟩; rw [HP.out.1]; have HR := Aside0.mk hr; have HK := Aside0.mk (keep_then HK.out hk); clear hr hk)
                              | (go_at_call 63; (with_reducible refine (blank_c p _).mono ?_); rintro e W ⟨rfl, hb⟩; rw [HP.out.2.2.1]; have HR := Aside0.mk (HR.out.below hb); have HK := Aside0.mk (keep_then HK.out (KeepBut.of_below hb g none)); clear hb)
                              | (go_at_call 66; (with_reducible refine (esc1_c HR.out).mono ?_); rintro e W ⟨rfl, hr, hk⟩; rw [HP.out.2.2.2.1]; have HR := Aside0.mk hr; have HK := Aside0.mk (keep_then HK.out hk); clear hr hk)
                              | (go_at_call 62; (with_reducible refine (peek1_c HR.out).mono ?_); rintro e W ⟨rfl, hr, hk⟩; rw [HP.out.2.1]; have HR := Aside0.mk hr; have HK := Aside0.mk (keep_then HK.out hk); clear hr hk)
                              | (go_at_call 57; (with_reducible refine (part_calls p1 _).mono ?_); rintro e W ⟨rfl, hb⟩; rw [HP.out.2.2.2.2.1]; have HR := Aside0.mk (HR.out.below hb); have HK := Aside0.mk (keep_then HK.out (KeepBut.of_below hb g none)); clear hb)
                              | (go_at_call 68; (with_reducible refine (cnt_c HR.out).mono ?_); rintro e W ⟨rfl, hr, hk⟩; rw [HP.out.2.2.2.2.2.1]; have HR := Aside0.mk hr; have HK := Aside0.mk (keep_then HK.out hk); clear hr hk)
                              | (go_at_call 48; (with_reducible refine (cdc_c HR.out).mono ?_); rintro e W ⟨rfl, hr, hk⟩; rw [HP.out.2.2.2.2.2.2.1]; have HR := Aside0.mk hr; have HK := Aside0.mk (keep_then HK.out hk); clear hr hk)
                              | (go_at_call 48; (with_reducible refine (cdo_c HR.out).mono ?_); rintro e W ⟨rfl, hr, hk⟩; rw [HP.out.2.2.2.2.2.2.2.1]; have HR := Aside0.mk hr; have HK := Aside0.mk (keep_then HK.out hk); clear hr hk)
                              | (go_at_call 72; (with_reducible refine (beg0_c HR.out).mono ?_); rintro e W ⟨rfl, hr, hk⟩; rw [HP.out.2.2.2.2.2.2.2.2.1]; have HR := Aside0.mk hr; have HK := Aside0.mk (keep_then HK.out hk); clear hr hk)
                              | (go_at_call 72; (with_reducible refine (beg1_c HR.out).mono ?_); rintro e W ⟨rfl, hr, hk⟩; rw [HP.out.2.2.2.2.2.2.2.2.2]; have HR := Aside0.mk hr; have HK := Aside0.mk (keep_then HK.out hk); clear hr hk)
                              | fail)
                            go_ret
                            exact ⟨by rw [HN2.out]; rfl, HR.out, HK.out⟩
                        | false =>
                          have HN2 : Aside0 (wayN s = 75) := ⟨by rw [HN3.out, d5]; rfl⟩
                          go_enter Tryd.func50, Tryd.ntmps50
                          go_wp2_with (first
                            | (go_at_call 62; (with_reducible refine (peek0_c HR.out).mono ?_); rintro e W ⟨rfl, hr, hk⟩; rw [HP.out.1]; have HR := Aside0.mk hr; have HK := Aside0.mk (keep_then HK.out hk); clear hr hk)
                            | (go_at_call 63; (with_reducible refine (blank_c p _).mono ?_); rintro e W ⟨rfl, hb⟩; rw [HP.out.2.2.1]; have HR := Aside0.mk (HR.out.below hb); have HK := Aside0.mk (keep_then HK.out (KeepBut.of_below hb g none)); clear hb)
                            | (go_at_call 66; (with_reducible refine (esc1_c HR.out).mono ?_); rintro e W ⟨rfl, hr, hk⟩; rw [HP.out.2.2.2.1]; have HR := Aside0.mk hr; have HK := Aside0.mk (keep_then HK.out hk); clear hr hk)
                            | (go_at_call 62; (with_reducible refine (peek1_c HR.out).mono ?_); rintro e W ⟨rfl, hr, hk⟩; rw [HP.out.2.1]; have HR := Aside0.mk hr; have HK := Aside0.mk (keep_then HK.out hk); clear hr hk)
                            | (go_at_call 57; (with_reducible refine (part_calls p1 _).mono ?_); rintro e W ⟨rfl, hb⟩; rw [HP.out.2.2.2.2.1]; have HR := Aside0.mk (HR.out.below hb); have HK := Aside0.mk (keep_then HK.out (KeepBut.of_below hb g none)); clear hb)
                            | (go_at_call 68; (with_reducible refine (cnt_c HR.out).mono ?_); rintro e W ⟨rfl, hr, hk⟩; rw [HP.out.2.2.2.2.2.1]; have HR := Aside0.mk hr; have HK := Aside0.mk (keep_then HK.out hk); clear hr hk)
                            | (go_at_call 48; (with_reducible refine (cdc_c HR.out).mono ?_); rintro e W ⟨rfl, hr, hk⟩; rw [HP.out.2.2.2.2.2.2.1]; have HR := Aside0.mk hr; have HK := Aside0.mk (keep_then HK.out hk); clear hr hk)
                            | (go_at_call 48; (with_reducible refine (cdo_c HR.out).mono ?_); rintro e W ⟨rfl, hr, hk⟩; rw [HP.out.2.2.2.2.2.2.2.1]; have HR := Aside0.mk hr; have HK := Aside0.mk (keep_then HK.out hk); clear hr hk)
                            | (go_at_call 72; (with_reducible refine (beg0_c HR.out).mono ?_); rintro e W ⟨rfl, hr, hk⟩; rw [HP.out.2.2.2.2.2.2.2.2.1]; have HR := Aside0.mk hr; have HK := Aside0.mk (keep_then HK.out hk); clear hr hk)
                            | (go_at_call 72; (with_reducible refine (beg1_c HR.out).mono ?_); rintro e W ⟨rfl, hr, hk⟩; rw [HP.out.2.2.2.2.2.2.2.2.2]; have HR := Aside0.mk hr; have HK := Aside0.mk (keep_then HK.out hk); clear hr hk)
                            | fail)
                          go_ret
                          exact ⟨by rw [HN2.out]; rfl, HR.out, HK.out⟩
end Go.Proofs.YtpnlbmeeihbjaabDoor.P
end
section
set_option linter.unusedVariables false
set_option linter.unusedSimpArgs false
namespace Go.Proofs.YtpnlbmeeihbjaabDoor.P
open Go.RowKit Go.Proofs.YtpnlbmeeihbjaabDoorW.PrintWords Go.Proofs.YtpnlbmeeihbjaabDoorW.PrintLast Go.Proofs.YtpnlbmeeihbjaabDoorW.PrintMore
open Go.Lib
attribute [local go_sem] max2_int min2_int max_two min_two max_three min_three max_four min_four
set_option linter.unusedVariables false
set_option linter.unusedSimpArgs false
def vk (x : S26) : Value := tokV x.f0 x.f1 x.f2 x.f3 x.f4
def kd (k : Int) : S26 := ⟨k, ⟨#[]⟩, ⟨#[]⟩, false, false⟩
def kt (k : Int) (t : ByteArray) : S26 := ⟨k, t, ⟨#[]⟩, false, false⟩
def strB (xs : List Int) : ByteArray := ⟨(strR xs).toArray⟩
def quotK (q : Int) (s : List Int) : S26 := if (quotS q s).1 then kd 6 else kt 5 (strB (quotS q s).2.1)
theorem quotT_k (q : Int) (s : List Int) : quotT q s = vk (quotK q s) := by unfold quotT quotK; split <;> rfl
def urlK (s : List Int) : S26 := if (urlS (s.dropWhile blankB)).1 then kd 8 else kt 7 (strB (urlS (s.dropWhile blankB)).2.1)
theorem urlT_k (s : List Int) : urlT s = vk (urlK s) := by unfold urlT urlK; split <;> rfl
def wordK (s : List Int) : S26 := if pk (nameS s).2 0 ≠ 40 then kt 1 (strB (nameS s).1) else if urlB s then urlK (nameS s).2.tail else kt 2 (strB (nameS s).1)
theorem wordT_k (s : List Int) : wordT s = vk (wordK s) := by
  unfold wordT wordK
  split
  · rfl
  · split
    · exact urlT_k _
    · rfl
def numK (s : List Int) : S26 := if begB (numD s) 0 = true then ⟨12, runesBytes (numX s), strB (nameS (numD s)).1, numW s, false⟩ else if pk (numD s) 0 = 37 then ⟨11, runesBytes (numX s), ⟨#[]⟩, numW s, false⟩ else ⟨10, runesBytes (numX s), ⟨#[]⟩, numW s, false⟩
theorem numT_k (s : List Int) : numT s = vk (numK s) := by
  unfold numT numK
  split
  · rfl
  · split <;> rfl
def signK (c : Int) : S26 := if 0 ≤ sgn c then kd (16 + sgn c) else kt 9 (Utf8.encode c)
def oneK (s : List Int) : S26 × List Int :=
  if wayN s = 64 then (kd 13, s.dropWhile blankB) else if wayN s = 65 then (quotK (pk s 0) s.tail, (quotS (pk s 0) s.tail).2.2)
  else if wayN s = 67 then (⟨4, strB (nameS s.tail).1, ⟨#[]⟩, false, begB s.tail 0⟩, (nameS s.tail).2)
  else if wayN s = 69 then (numK s, numR s) else if wayN s = 70 then (kd 15, s.drop 3) else if wayN s = 71 then (kd 14, s.drop 4)
  else if wayN s = 73 then (wordK s, wordR s) else if wayN s = 74 then (kt 3 (strB (nameS s.tail).1), (nameS s.tail).2) else (signK (pk s 0), s.tail)
theorem wayN_cases (s : List Int) : wayN s = 64 ∨ wayN s = 65 ∨ wayN s = 67 ∨ wayN s = 69 ∨ wayN s = 70 ∨ wayN s = 71 ∨ wayN s = 73 ∨ wayN s = 74 ∨ wayN s = 75 := by
  unfold wayN
  repeat' split
  all_goals simp
theorem pk_cons (s : List Int) (n : Nat) (v : Int) (h : pk s n = v) (hv : v ≠ -1) : n < s.length := by
  rcases Nat.lt_or_ge n s.length with h1 | h1
  · exact h1
  · rw [pk, List.getD_eq_getElem?_getD, List.getElem?_eq_none h1] at h
    exact absurd h.symm hv
theorem way_cdc {s : List Int} (h : wayN s = 70) : cdcB s = true := by
  unfold wayN at h
  repeat' split at h
  all_goals first | assumption | (exact absurd h (by decide))
theorem way_cdo {s : List Int} (h : wayN s = 71) : cdoB s = true := by
  unfold wayN at h
  repeat' split at h
  all_goals first | assumption | (exact absurd h (by decide))
section
variable {w0 w : World} {g : Nat} {L : List Int} {c : Int} {t : List Int}
theorem one64 (hw : wayN (c :: t) = 64) (h : Rdr w0 w g L (c :: t)) : Calls Tryd.prog 64 #[.pointer (some ⟨g, 0, none⟩)] w fun e w' => e = .returned (vk (oneK (c :: t)).1) ∧ Rdr w0 w' g L (oneK (c :: t)).2 ∧ KeepBut w w' g none := by
  rw [show oneK (c :: t) = (kd 13, (c :: t).dropWhile blankB) by unfold oneK; rw [if_pos hw]]
  exact space_c h
theorem one65 (hw : wayN (c :: t) = 65) (h : Rdr w0 w g L (c :: t)) : Calls Tryd.prog 65 #[.pointer (some ⟨g, 0, none⟩)] w fun e w' => e = .returned (vk (oneK (c :: t)).1) ∧ Rdr w0 w' g L (oneK (c :: t)).2 ∧ KeepBut w w' g none := by
  rw [show oneK (c :: t) = (quotK c t, (quotS c t).2.2) by unfold oneK; simp [hw]; exact ⟨rfl, rfl⟩]
  have h1 := quoted_c h
  rw [quotT_k] at h1
  exact h1
theorem one67 (hw : wayN (c :: t) = 67) (h : Rdr w0 w g L (c :: t)) : Calls Tryd.prog 67 #[.pointer (some ⟨g, 0, none⟩)] w fun e w' => e = .returned (vk (oneK (c :: t)).1) ∧ Rdr w0 w' g L (oneK (c :: t)).2 ∧ KeepBut w w' g none := by
  rw [show oneK (c :: t) = (⟨4, strB (nameS t).1, ⟨#[]⟩, false, begB t 0⟩, (nameS t).2) by unfold oneK; simp [hw]]
  exact hash_c h
theorem one69 (hw : wayN (c :: t) = 69) (h : Rdr w0 w g L (c :: t)) : Calls Tryd.prog 69 #[.pointer (some ⟨g, 0, none⟩)] w fun e w' => e = .returned (vk (oneK (c :: t)).1) ∧ Rdr w0 w' g L (oneK (c :: t)).2 ∧ KeepBut w w' g none := by
  rw [show oneK (c :: t) = (numK (c :: t), numR (c :: t)) by unfold oneK; simp [hw]]
  have h1 := number_c h (by simp)
  rw [numT_k] at h1
  exact h1
theorem one70 (hw : wayN (c :: t) = 70) (h : Rdr w0 w g L (c :: t)) : Calls Tryd.prog 70 #[.pointer (some ⟨g, 0, none⟩)] w fun e w' => e = .returned (vk (oneK (c :: t)).1) ∧ Rdr w0 w' g L (oneK (c :: t)).2 ∧ KeepBut w w' g none := by
  rw [show oneK (c :: t) = (kd 15, (c :: t).drop 3) by unfold oneK; simp [hw]]
  have h1 := way_cdc hw
  simp only [cdcB, Bool.and_eq_true, beq_iff_eq] at h1
  have h2 := pk_cons (c :: t) 2 62 h1.2.2 (by decide)
  obtain ⟨a, b, r, rfl⟩ : ∃ a b r, t = a :: b :: r := by
    match t, h2 with
    | a :: b :: r, _ => exact ⟨a, b, r, rfl⟩
  exact closes_c h
theorem one71 (hw : wayN (c :: t) = 71) (h : Rdr w0 w g L (c :: t)) : Calls Tryd.prog 71 #[.pointer (some ⟨g, 0, none⟩)] w fun e w' => e = .returned (vk (oneK (c :: t)).1) ∧ Rdr w0 w' g L (oneK (c :: t)).2 ∧ KeepBut w w' g none := by
  rw [show oneK (c :: t) = (kd 14, (c :: t).drop 4) by unfold oneK; simp [hw]]
  have h1 := way_cdo hw
  simp only [cdoB, Bool.and_eq_true, beq_iff_eq] at h1
  have h2 := pk_cons (c :: t) 3 45 h1.2.2.2 (by decide)
  obtain ⟨a, b, d, r, rfl⟩ : ∃ a b d r, t = a :: b :: d :: r := by
    match t, h2 with
    | a :: b :: d :: r, _ => exact ⟨a, b, d, r, rfl⟩
  exact opens_c h
theorem one73 (hw : wayN (c :: t) = 73) (h : Rdr w0 w g L (c :: t)) : Calls Tryd.prog 73 #[.pointer (some ⟨g, 0, none⟩)] w fun e w' => e = .returned (vk (oneK (c :: t)).1) ∧ Rdr w0 w' g L (oneK (c :: t)).2 ∧ KeepBut w w' g none := by
  rw [show oneK (c :: t) = (wordK (c :: t), wordR (c :: t)) by unfold oneK; simp [hw]]
  have h1 := word_c h
  rw [wordT_k] at h1
  exact h1
theorem one74 (hw : wayN (c :: t) = 74) (h : Rdr w0 w g L (c :: t)) : Calls Tryd.prog 74 #[.pointer (some ⟨g, 0, none⟩)] w fun e w' => e = .returned (vk (oneK (c :: t)).1) ∧ Rdr w0 w' g L (oneK (c :: t)).2 ∧ KeepBut w w' g none := by
  rw [show oneK (c :: t) = (kt 3 (strB (nameS t).1), (nameS t).2) by unfold oneK; simp [hw]]
  exact at_c h
theorem one75 (hw : wayN (c :: t) = 75) (h : Rdr w0 w g L (c :: t)) : Calls Tryd.prog 75 #[.pointer (some ⟨g, 0, none⟩)] w fun e w' => e = .returned (vk (oneK (c :: t)).1) ∧ Rdr w0 w' g L (oneK (c :: t)).2 ∧ KeepBut w w' g none := by
  rw [show oneK (c :: t) = (signK c, t) by unfold oneK; simp [hw]; rfl]
  have h1 := sign_c h
  rw [show (if 0 ≤ sgn c then tokV (16 + sgn c) ⟨#[]⟩ ⟨#[]⟩ false false else tokV 9 (Utf8.encode c) ⟨#[]⟩ false false) = vk (signK c) by unfold signK; split <;> rfl] at h1
  exact h1
end
end Go.Proofs.YtpnlbmeeihbjaabDoor.P
end
section
set_option linter.unusedVariables false
set_option linter.unusedSimpArgs false
namespace Go.Proofs.YtpnlbmeeihbjaabDoor.P
open Go.RowKit Go.Proofs.YtpnlbmeeihbjaabDoorW.PrintWords Go.Proofs.YtpnlbmeeihbjaabDoorW.PrintLast Go.Proofs.YtpnlbmeeihbjaabDoorW.PrintMore
open Go.Lib
attribute [local go_sem] max2_int min2_int max_two min_two max_three min_three max_four min_four
set_option linter.unusedVariables false
set_option linter.unusedSimpArgs false
theorem dropW_lt {P : Int → Bool} {c : Int} {t : List Int} (h : P c = true) : ((c :: t).dropWhile P).length ≤ t.length := by
  rw [List.dropWhile_cons, if_pos h]
  exact dropW_len P t
theorem nameS_lt {c : Int} {t : List Int} (h : partB c = true ∨ escB (c :: t) 0 = true) : (nameS (c :: t)).2.length ≤ t.length := by
  cases hp : partB c with
  | true => rw [nameS_part hp]; exact (nameS_suf t).length_le
  | false =>
    rcases h with h | h
    · rw [hp] at h; cases h
    · rw [nameS_esc hp h]
      exact Nat.le_trans (nameS_suf _).length_le (escd_len c t)
theorem numD_le (s : List Int) : (numD s).length ≤ (numB s).length := by
  have h1 : (numC s).length ≤ (numB s).length := by
    unfold numC
    split
    · exact Nat.le_trans (dropW_len _ _) (by rw [List.length_tail]; omega)
    · exact Nat.le_refl _
  unfold numD
  split
  · exact Nat.le_trans (dropW_len _ _) (by rw [List.length_drop]; omega)
  · exact h1
theorem numD_lt {c : Int} {t : List Int} (h : cntB (c :: t) = true) : (numD (c :: t)).length ≤ t.length := by
  by_cases hd : digB c = true
  · refine Nat.le_trans (numD_le _) ?_
    have ha : numA (c :: t) = c :: t := by
      unfold numA
      rw [if_neg (by rw [show pk (c :: t) 0 = c from rfl, hd]; simp)]
    unfold numB
    rw [ha]
    exact dropW_lt hd
  · by_cases h46 : c = 46
    · subst h46
      have ha : numA (46 :: t) = 46 :: t := by
        unfold numA
        rw [if_neg (by rw [show pk (46 :: t) 0 = 46 from rfl]; simp)]
      have hb : numB (46 :: t) = 46 :: t := by
        unfold numB
        rw [ha, List.dropWhile_cons, if_neg hd]
      have hp : numP (46 :: t) = true := by
        unfold numP
        rw [hb]
        unfold cntB at h
        rw [show pk (46 :: t) 0 = 46 from rfl] at h
        have h' : digB (pk (46 :: t) 0) = true ∨ pk (46 :: t) 0 = 46 ∧ digB (pk (46 :: t) 1) = true := by simpa using h
        rcases h' with h' | h'
        · exact absurd h' hd
        · rw [h'.1, h'.2]; rfl
      have hc : (numC (46 :: t)).length ≤ t.length := by
        unfold numC
        rw [if_pos hp, hb]
        exact dropW_len _ _
      unfold numD
      split
      · exact Nat.le_trans (dropW_len _ _) (by rw [List.length_drop]; omega)
      · exact hc
    · refine Nat.le_trans (numD_le _) ?_
      have ha : numA (c :: t) = t := by
        unfold numA
        rw [if_pos (by rw [show pk (c :: t) 0 = c from rfl]; simp [hd, h46])]
        rfl
      unfold numB
      rw [ha]
      exact dropW_len _ _
theorem startB_part {c : Int} (h : startB c = true) : partB c = true := by unfold partB; rw [h]; simp
theorem beg_name {c : Int} {t : List Int} (h : begB (c :: t) 0 = true) : partB c = true ∨ escB (c :: t) 0 = true := by
  unfold begB at h
  rw [show pk (c :: t) 0 = c from rfl] at h
  by_cases e : c = 45
  · left; subst e; decide
  · rw [if_neg e, Bool.or_eq_true] at h
    rcases h with h | h
    · exact .inl (startB_part h)
    · exact .inr h
theorem way_blank {s : List Int} (h : wayN s = 64) : blankB (pk s 0) = true := by
  unfold wayN at h
  repeat' split at h
  all_goals first | assumption | (exact absurd h (by decide))
theorem way_cnt {s : List Int} (h : wayN s = 69) : cntB s = true := by
  unfold wayN at h
  repeat' split at h
  all_goals first | assumption | (exact absurd h (by decide))
theorem way_beg {s : List Int} (h : wayN s = 73) : begB s 0 = true := by
  unfold wayN at h
  repeat' split at h
  all_goals first | assumption | (exact absurd h (by decide))
theorem quotL_len (q : Int) : ∀ (n : Nat) (s : List Int), (quotL q n s).2.2.length ≤ s.length
  | 0, s => Nat.le_refl _
  | n + 1, [] => Nat.le_refl _
  | n + 1, c :: t => by
    have h1 := quotL_len q n t
    have h2 := quotL_len q n (escd (c :: t)).2
    have h3 := quotL_len q n (t.drop 1)
    have h4 := escd_len c t
    rw [List.length_drop] at h3
    unfold quotL
    rw [List.length_cons]
    split
    · simp
    · split
      · simp
      · split
        · simp only; omega
        · split
          · omega
          · simp only; omega
theorem badL_len : ∀ (n : Nat) (s : List Int), (badL n s).length ≤ s.length
  | 0, s => Nat.le_refl _
  | n + 1, [] => Nat.le_refl _
  | n + 1, c :: t => by
    have h1 := badL_len n t
    have h2 := badL_len n (escd (c :: t)).2
    have h4 := escd_len c t
    unfold badL
    rw [List.length_cons]
    split
    · omega
    · split <;> omega
theorem urlL_len : ∀ (n : Nat) (s : List Int), (urlL n s).2.2.length ≤ s.length
  | 0, s => Nat.le_refl _
  | n + 1, [] => Nat.le_refl _
  | n + 1, c :: t => by
    have h1 := urlL_len n t
    have h2 := urlL_len n (escd (c :: t)).2
    have h3 := urlL_len n (t.dropWhile blankB)
    have h4 := escd_len c t
    have h5 := dropW_len blankB t
    have h6 := badL_len (t.dropWhile blankB).length (t.dropWhile blankB)
    have h7 := badL_len (c :: t).length (c :: t)
    rw [List.length_cons] at h7 ⊢
    unfold urlL badS
    split
    · simp
    · split
      · split
        · simp only; omega
        · omega
      · split
        · simp only; omega
        · split
          · simp only [List.length_cons]; omega
          · simp only; omega
theorem urlR_len (s : List Int) : (urlR s).length ≤ s.length := Nat.le_trans (urlL_len _ _) (dropW_len _ _)
theorem numR_le (s : List Int) : (numR s).length ≤ (numD s).length := by
  unfold numR
  split
  · exact (nameS_suf _).length_le
  · split
    · rw [List.length_tail]; omega
    · exact Nat.le_refl _
theorem wordR_le (s : List Int) : (wordR s).length ≤ (nameS s).2.length := by
  unfold wordR
  split
  · exact Nat.le_refl _
  · split
    · exact Nat.le_trans (urlR_len _) (by rw [List.length_tail]; omega)
    · rw [List.length_tail]; omega
theorem oneK_lt (c : Int) (t : List Int) : (oneK (c :: t)).2.length ≤ t.length := by
  rcases wayN_cases (c :: t) with h | h | h | h | h | h | h | h | h <;> unfold oneK <;> simp only [h] <;> simp only [List.tail_cons, reduceIte, Nat.reduceEqDiff]
  · exact dropW_lt (way_blank h)
  · exact quotL_len _ _ _
  · exact (nameS_suf _).length_le
  · exact Nat.le_trans (numR_le _) (numD_lt (way_cnt h))
  · simp
  · simp
  · exact Nat.le_trans (wordR_le _) (nameS_lt (beg_name (way_beg h)))
  · exact (nameS_suf _).length_le
  · exact Nat.le_refl _
theorem comL_len : ∀ (n : Nat) (s : List Int), (comL n s).length ≤ s.length
  | 0, s => Nat.le_refl _
  | n + 1, [] => Nat.le_refl _
  | n + 1, c :: t => by
    have := comL_len n t
    unfold comL
    rw [List.length_cons]
    split
    · rw [List.length_drop]; omega
    · omega
def toksL : Nat → List Int → List S26
  | 0, _ => []
  | _ + 1, [] => []
  | n + 1, c :: t => if comB (c :: t) then toksL n (comS (t.drop 1)) else (oneK (c :: t)).1 :: toksL n (oneK (c :: t)).2
def toksS (s : List Int) : List S26 := toksL s.length s
theorem toksL_fuel : ∀ (n m : Nat) (s : List Int), s.length ≤ n → s.length ≤ m → toksL n s = toksL m s
  | 0, 0, _, _, _ => rfl
  | 0, m + 1, s, h, _ => by
    obtain rfl := List.eq_nil_of_length_eq_zero (by omega : s.length = 0)
    rfl
  | n + 1, 0, s, _, h => by
    obtain rfl := List.eq_nil_of_length_eq_zero (by omega : s.length = 0)
    rfl
  | n + 1, m + 1, [], _, _ => rfl
  | n + 1, m + 1, c :: t, h1, h2 => by
    simp only [List.length_cons] at h1 h2
    have he := oneK_lt c t
    have hd : (comS (t.drop 1)).length ≤ t.length := Nat.le_trans (comL_len _ _) (by rw [List.length_drop]; omega)
    unfold toksL
    rw [toksL_fuel n m (comS (t.drop 1)) (by omega) (by omega), toksL_fuel n m (oneK (c :: t)).2 (by omega) (by omega)]
theorem toksS_unf (c : Int) (t : List Int) : toksS (c :: t) = if comB (c :: t) then toksS (comS (t.drop 1)) else (oneK (c :: t)).1 :: toksS (oneK (c :: t)).2 := by
  have hd : (comS (t.drop 1)).length ≤ t.length := Nat.le_trans (comL_len _ _) (by rw [List.length_drop]; omega)
  have e1 : toksL t.length (oneK (c :: t)).2 = toksS (oneK (c :: t)).2 := toksL_fuel _ _ _ (oneK_lt c t) (Nat.le_refl _)
  have e2 : toksL t.length (comS (t.drop 1)) = toksS (comS (t.drop 1)) := toksL_fuel _ _ _ hd (Nat.le_refl _)
  rw [← e1, ← e2]
  rfl
end Go.Proofs.YtpnlbmeeihbjaabDoor.P
end
