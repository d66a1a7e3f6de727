/- DomBack: for every input the law returns true, and each argument reads behind the call as it read before. -/
import Derived.Test.YtmkakofnabfinaaZDB6
import Derived.Test.YtmkakofnabfinaaZDB18
import Derived.Test.YtmkakofnabfinaaZDB21
import Derived.Test.YtmkakofnabfinaaZDB26
import Derived.Deep.LoopGhost
import Derived.Deep.QuietTactic
import Derived.BigQuiet
section
set_option linter.unusedVariables false
set_option linter.unusedSimpArgs false
namespace Go.Proofs.Ytmkakofnabfinaa.P
open Go.RowKit Go.Proofs.YtmkakofnabfinaaW.PrintWords Go.Proofs.YtmkakofnabfinaaW.PrintLast Go.Proofs.YtmkakofnabfinaaW.PrintMore
attribute [local go_sem] max2_int min2_int max_two min_two max_three min_three max_four min_four
set_option linter.unusedVariables false
set_option linter.unusedSimpArgs false
theorem light_some (l : List S44) (m : Int) (hl : l.length ≤ 9223372036854775807) : ∃ k b, gouacheref07_Light.f k l m = some b := by
  have key : ∀ (d i : Nat) (n : Int), i + d = l.length → ∃ b, gouacheref07_Light.l0 (d + 1) m n l (l.length : Int) (i : Int) = some b := by
    intro d
    induction d with
    | zero =>
      intro i n h
      refine ⟨true, ?_⟩
      simp only [gouacheref07_Light.l0]
      rw [if_neg (by omega)]
    | succ d ih =>
      intro i n h
      unfold gouacheref07_Light.l0
      rw [if_pos (by omega), if_pos (by omega), if_pos (by omega)]
      split
      · exact ⟨false, rfl⟩
      · rw [show wrap64 ((i : Int) + 1) = ((i + 1 : Nat) : Int) by unfold wrap64; omega]
        exact ih (i + 1) _ (by omega)
  obtain ⟨b, hb⟩ := key l.length 0 0 (by omega)
  exact ⟨l.length + 1, b, hb⟩
theorem light_calls (l : List S44) (A : Option Addr) (c : Nat) (w : World) (hC : Kd.C k44 w A l.length l) (hc : l.length ≤ c) : ∃ b, Calls Try.prog 20 #[.slice A l.length c] w fun e w' => e = .returned (.bool b) ∧ Below w.heap.size w w' := by
  obtain ⟨k, b, hb⟩ := light_some l 130 hC.2.1
  exact ⟨b, gouachelaw07_light.calls k A c l b w hC hc (by unfold gouachelaw07_light.f; rw [hb]; rfl)⟩
theorem int_cell {w : World} {A : Option Addr} {l : List Int} (h : Kd.C (Kd.int .i64) w A l.length l) (i : Nat) (hi : i < l.length) : ∃ ad, A = some ad ∧ w.cell? (ad.add i) = some (.int .i64 (l.getD i 0)) := by
  obtain ⟨ad, c, e, hl, hK, hc⟩ := ReadsRow.get_ h (0 : Int) (i : Int) (by omega) (by omega)
  refine ⟨ad, e, ?_⟩
  rw [Int.toNat_natCast] at hK hc
  have hk : c = [.int .i64 (l.getD i 0)] := hK
  have := hc 0 _ (by rw [hk]; rfl)
  rw [show i * (Kd.int .i64).sz + 0 = i by show i * 1 + 0 = i; omega] at this
  exact this
def runA (s : (Nat → Option S56) × Int) (l : List S44) : (Nat → Option S56) × Int := l.foldl (fun s a => (actF s.1 s.2 a, actN s.1 s.2 a)) s
theorem good_run : ∀ (l : List S44) (s : (Nat → Option S56) × Int), Good s.1 s.2 → Good (runA s l).1 (runA s l).2
  | [], _, h => h
  | a :: r, s, h => good_run r (actF s.1 s.2 a, actN s.1 s.2 a) (good_act h a)
theorem run_snoc (s : (Nat → Option S56) × Int) (l : List S44) (i : Nat) (h : i < l.length) : runA s (l.take (i + 1)) = (actF (runA s (l.take i)).1 (runA s (l.take i)).2 (rd_T44 l (i : Nat)), actN (runA s (l.take i)).1 (runA s (l.take i)).2 (rd_T44 l (i : Nat))) := by
  rw [List.take_succ_eq_append_getElem h]
  unfold runA
  rw [List.foldl_append]
  have e : rd_T44 l (i : Nat) = l[i] := by unfold rd_T44; simp [List.getD_eq_getElem?_getD, List.getElem?_eq_getElem h]
  rw [e]; rfl
def tree0 : (Nat → Option S56) × Int := (newF ⟨#[97]⟩, 2)
theorem good_tree (l : List S44) : Good (runA tree0 l).1 (runA tree0 l).2 := good_run l tree0 (good_new _)
end Go.Proofs.Ytmkakofnabfinaa.P
end
section
set_option linter.unusedVariables false
set_option linter.unusedSimpArgs false
namespace Go.Proofs.Ytmkakofnabfinaa.P
open Go.RowKit Go.Proofs.YtmkakofnabfinaaW.PrintWords Go.Proofs.YtmkakofnabfinaaW.PrintLast Go.Proofs.YtmkakofnabfinaaW.PrintMore
attribute [local go_sem] max2_int min2_int max_two min_two max_three min_three max_four min_four
set_option linter.unusedVariables false
set_option linter.unusedSimpArgs false
set_option maxHeartbeats 64000000 in
set_option maxRecDepth 100000 in
theorem back_calls (l : List S44) (A : Option Addr) (c : Nat) (p0 i0 : Int) (w : World) (hC : Kd.C k44 w A l.length l) (hc : l.length ≤ c) (hs : ∀ p, p ∈ l → p.f5.size ≤ 140737488355332) :
    Calls Try.prog 6 #[.slice A l.length c, .int .i64 p0, .int .i64 i0] w fun e w' => e = .returned (.bool true) ∧ Below w.heap.size w w' := by
  obtain ⟨b, hlight⟩ := light_calls l A c w hC hc
  have HLI := Aside0.mk hlight
  have HC := Aside0.mk hC
  have HS := Aside0.mk hs
  have hu36 := Try.underlying36
  have hu44 := Try.underlying44
  have hu56 := Try.underlying56
  have hu53 := Try.underlying53
  have hlb : l.length ≤ 9223372036854775807 := hC.2.1
  clear hlight hC hs
  cases b with
  | false =>
    go_enter Try.func6, Try.ntmps6
    go_wp2_with (first
      | (go_at_call 20; refine HLI.out.mono ?_; rintro e W1 ⟨rfl, hb1⟩; have HB1 := Aside0.mk hb1; clear hb1)
      | (go_at_call 15; refine (lives_calls _).mono ?_; rintro e W2 ⟨rfl, hb2⟩; have HB2 := Aside0.mk (below_then HB1.out HB1.out.size hb2); clear hb2)
      | fail)
    go_ret
    exact ⟨rfl, HB2.out⟩
  | true =>
    go_enter Try.func6, Try.ntmps6
    go_upto_region 6 with (first
      | (go_at_call 20; refine HLI.out.mono ?_; rintro e W1 ⟨rfl, hb1⟩; have HB1 := Aside0.mk hb1; clear hb1)
      | (go_at_call 13; refine (dnew_calls (fun _ => True) 3 ⟨#[97]⟩ true _ (fun _ _ => trivial) lives_n1).mono ?_; rintro e W2 ⟨v1, rfl, hD1, hb2⟩; have HD1 := Aside0.mk (show DocO (fun _ => True) W2 v1 (newF ⟨#[97]⟩) 2 from hD1); have HB2 := Aside0.mk (below_then HB1.out HB1.out.size hb2); clear hD1 hb2)
      | fail)
    go_wp2_with fail
    go_loopg [7, 10, 38] (l.length + 1) (fun kq vd vb vi w' => ∃ (i : Nat) (v : Value), vi = .int .i64 i ∧ v = vd ∧ Aside0 (i + kq = l.length + 1) ∧ Aside0 (i ≤ l.length) ∧ Aside0 (DocO (fun _ => True) w' v (runA tree0 (l.take i)).1 (runA tree0 (l.take i)).2) ∧ Aside0 (Below w.heap.size w w'))
    case atStart => exact ⟨0, v1, rfl, rfl, ⟨by omega⟩, ⟨Nat.zero_le _⟩, HD1, HB2⟩
    case round =>
      clear HD1 HB2 HB1
      obtain ⟨i, v3, rfl, rfl, HK, HI, HD, HB⟩ := hrel
      cases gk with
      | zero => exact absurd HK.out (by have := HI.out; omega)
      | succ g0 =>
        by_cases c0 : i < l.length
        · have HST := Aside0.mk (run_snoc tree0 l i c0)
          have HG := Aside0.mk (good_tree (l.take i))
          obtain ⟨ad, rfl, k0, k1, k2, k3, k4, k5⟩ := at_T44 (Kd.C_below HC.out HB.out) (i : Int) (by omega) (by omega)
          rw [Int.toNat_natCast] at k0 k1 k2 k3 k4 k5
          have HSI : Aside0 ((rd_T44 l (i : Nat)).f5.size ≤ 140737488355332) := ⟨by
            have e : rd_T44 l (i : Nat) = l[i] := by unfold rd_T44; simp [List.getD_eq_getElem?_getD, List.getElem?_eq_getElem c0]
            rw [e]; exact HS.out _ (List.getElem_mem c0)⟩
          generalize rd_T44 l (i : Nat) = a at k0 k1 k2 k3 k4 k5 HST HSI
          have HI0 := Aside0.mk c0
          have c1 : decide (i < l.length) = true := decide_eq_true c0
          have z0 : (0 ≤ (i : Int)) = True := eq_true (by omega)
          have z1 : ((i : Int) < (l.length : Int)) = True := eq_true (by omega)
          have HBA : Aside0 (Below w.heap.size w (wr.alloc (.cells #[.int .i64 a.f0, .int .i64 a.f1, .int .i64 a.f2, .int .i64 a.f3, .string a.f4, .string a.f5] 44))) := ⟨below_alloc HB.out _⟩
          have HDA : Aside0 (DocO (fun _ => True) (wr.alloc (.cells #[.int .i64 a.f0, .int .i64 a.f1, .int .i64 a.f2, .int .i64 a.f3, .string a.f4, .string a.f5] 44)) v3 (runA tree0 (l.take i)).1 (runA tree0 (l.take i)).2) := ⟨HD.out.below (below_alloc (Below.refl _ _) _)⟩
          have q0 := (blk_cell (blk_new wr (.cells #[.int .i64 a.f0, .int .i64 a.f1, .int .i64 a.f2, .int .i64 a.f3, .string a.f4, .string a.f5] 44)) 0).trans (show _ = some (.int .i64 a.f0) from rfl)
          have q1 := (blk_cell (blk_new wr (.cells #[.int .i64 a.f0, .int .i64 a.f1, .int .i64 a.f2, .int .i64 a.f3, .string a.f4, .string a.f5] 44)) 1).trans (show _ = some (.int .i64 a.f1) from rfl)
          have q2 := (blk_cell (blk_new wr (.cells #[.int .i64 a.f0, .int .i64 a.f1, .int .i64 a.f2, .int .i64 a.f3, .string a.f4, .string a.f5] 44)) 2).trans (show _ = some (.int .i64 a.f2) from rfl)
          have q3 := (blk_cell (blk_new wr (.cells #[.int .i64 a.f0, .int .i64 a.f1, .int .i64 a.f2, .int .i64 a.f3, .string a.f4, .string a.f5] 44)) 3).trans (show _ = some (.int .i64 a.f3) from rfl)
          have q4 := (blk_cell (blk_new wr (.cells #[.int .i64 a.f0, .int .i64 a.f1, .int .i64 a.f2, .int .i64 a.f3, .string a.f4, .string a.f5] 44)) 4).trans (show _ = some (.string a.f4) from rfl)
          have q5 := (blk_cell (blk_new wr (.cells #[.int .i64 a.f0, .int .i64 a.f1, .int .i64 a.f2, .int .i64 a.f3, .string a.f4, .string a.f5] 44)) 5).trans (show _ = some (.string a.f5) from rfl)
          have HACT : Aside0 (∀ W, Below wr.heap.size wr W → Calls Try.prog 22 #[v3, .agg #[.int .i64 a.f0, .int .i64 a.f1, .int .i64 a.f2, .int .i64 a.f3, .string a.f4, .string a.f5]] W (Act3 (fun _ => True) W v3 (runA tree0 (l.take (i + 1))).1 (runA tree0 (l.take (i + 1))).2 (actI (runA tree0 (l.take i)).1 (runA tree0 (l.take i)).2 a) (actE (runA tree0 (l.take i)).1 (runA tree0 (l.take i)).2 a))) := ⟨fun W hW => by
            rw [HST.out]
            exact act_calls (fun _ => True) v3 a.f0 a.f1 a.f2 a.f3 a.f4 a.f5 W (fun _ _ => trivial) (HD.out.below hW) HG.out HSI.out⟩
          clear c0
          go_wp2_with (first
            | (go_at_call 22; (with_reducible refine (HACT.out _ (by repeat (first | exact Below.refl _ _ | apply below_alloc | apply below_drew1 | apply pw_below_drewN))).mono ?_); rintro e W3 ⟨v', rfl, hd, hb, hv⟩; have HD3 := Aside0.mk hd; have HB3 := Aside0.mk (below_then HBA.out HBA.out.size hb); clear hd hb hv)
            | fail)
          go_roundg g0
          case measure => have := HK.out; omega
          case rel => exact ⟨i + 1, v', (by have := HI0.out; congr 1; unfold wrap64; omega), rfl, ⟨by have := HK.out; omega⟩, ⟨HI0.out⟩, HD3, HB3⟩
        · have c1 : decide (i < l.length) = false := decide_eq_false c0
          have HI2 : l.take i = l := List.take_of_length_le (by omega)
          have HG := Aside0.mk (good_tree l)
          rw [HI2] at HD
          have hlo := HG.out.lo
          have hhi := HG.out.hi
          generalize (runA tree0 l).1 = f at HD HG
          generalize (runA tree0 l).2 = next at HD HG hlo hhi
          have HDF := Aside0.mk HD.out.doc
          clear HI2 c0 HK HI
          have HINS : Aside0 (∀ W : World, Below wr.heap.size wr W → Calls Try.prog 14 #[v3, .int .i64 p0, .int .i64 i0, .string ⟨#[113]⟩] W (Act3 (fun _ => True) W v3 (if insE f next p0 i0 (nameB ⟨#[113]⟩) (ch f p0).length ≠ 0 then f else insF f next p0 i0.toNat ⟨#[113]⟩) (if insE f next p0 i0 (nameB ⟨#[113]⟩) (ch f p0).length = 0 then next + 1 else next) (if insE f next p0 i0 (nameB ⟨#[113]⟩) (ch f p0).length = 0 then next else 0) (insE f next p0 i0 (nameB ⟨#[113]⟩) (ch f p0).length))) := ⟨fun W hW => ins_act (fun _ => True) v3 p0 i0 ⟨#[113]⟩ W (fun _ _ => trivial) (HD.out.below hW) HG.out _ rfl⟩
          by_cases hE : insE f next p0 i0 (nameB ⟨#[113]⟩) (ch f p0).length = 0
          · rw [hE] at HINS
            simp only [ne_eq, not_true_eq_false, if_false, if_true] at HINS
            have HE := Aside0.mk hE
            clear hE
            have HIR := Aside0.mk (ins_rem HG.out HE.out)
            obtain ⟨y, hy, _, _, _, hn1, hn2⟩ := insE_zero HE.out
            have HG1 := Aside0.mk (good_ins HG.out hy hn1 (by omega) i0.toNat ⟨#[113]⟩)
            clear hy hn2
            have hnx : (next + 1 != wrap64 (next + 1)) = false := by rw [show wrap64 (next + 1) = next + 1 by unfold wrap64; omega]; simp
            go_wp2_with fail
            refine (HINS.out _ (by repeat (first | exact Below.refl _ _ | apply below_alloc | apply below_drew1 | apply pw_below_drewN))).mono ?_
            rintro e W4 ⟨v4, rfl, hd4, hb4, _⟩
            have HD4 := Aside0.mk hd4
            have HB4 := Aside0.mk hb4
            clear hd4 hb4
            go_wp2_with fail
            refine (rem_act (fun _ => True) v4 next W4 (fun _ _ => trivial) HD4.out HG1.out 0 HIR.out.1.symm).mono ?_
            rintro e W5 ⟨v5, rfl, hd5, hb5, _⟩
            simp only [ne_eq, not_true_eq_false, if_false] at hd5
            have HD5 := Aside0.mk hd5
            have HB5 := Aside0.mk (below_then HB4.out HB4.out.size hb5)
            clear hd5 hb5
            obtain ⟨F, hF⟩ : ∃ F, F = remF (insF f next p0 i0.toNat ⟨#[113]⟩) next ((look (insF f next p0 i0.toNat ⟨#[113]⟩) next).getD z56).f2 (belR (insF f next p0 i0.toNat ⟨#[113]⟩) next) := ⟨_, rfl⟩
            have HSAME : Aside0 (∀ j, look F j = look f j) := ⟨by rw [hF]; exact HIR.out.2⟩
            rw [← hF] at HD5
            have HCNT : Aside0 (cnt 1048576 F = cnt 1048576 f) := ⟨cnt_same _ _ _ (fun j hj => by have := HSAME.out (j : Int); rwa [look_nat _ _ hj, look_nat _ _ hj] at this)⟩
            clear hF
            go_wp2_with fail
            refine (dlen_calls v5 F (next + 1) W5 HD5.out.doc).mono ?_
            rintro e W6 ⟨rfl, hb6⟩
            rw [HCNT.out]
            have HB6 := Aside0.mk (below_then HB5.out HB5.out.size hb6)
            have HD6 := Aside0.mk (HD5.out.below hb6)
            clear hb6
            go_wp2_with fail
            refine (dlen_calls v3 f next W6 (HDF.out.below HB6.out)).mono ?_
            rintro e W7 ⟨rfl, hb7⟩
            have HB7 := Aside0.mk (below_then HB6.out HB6.out.size hb7)
            have HD7 := Aside0.mk (HD6.out.below hb7)
            clear hb7
            go_wp2_with fail
            refine (dnext_calls v5 F (next + 1) W7 HD7.out.doc).mono ?_
            rintro e W8 ⟨rfl, hb8⟩
            have HB8 := Aside0.mk (below_then HB7.out HB7.out.size hb8)
            have HD8 := Aside0.mk (HD7.out.below hb8)
            clear hb8
            go_wp2_with fail
            refine (dnext_calls v3 f next W8 (HDF.out.below HB8.out)).mono ?_
            rintro e W9 ⟨rfl, hb9⟩
            have HB9 := Aside0.mk (below_then HB8.out HB8.out.size hb9)
            have HD9 := Aside0.mk (HD8.out.below hb9)
            clear hb9
            go_wp2_with fail
            refine (equal_calls v3 v5 f F next (next + 1) W9 (HDF.out.below HB9.out) HD9.out.doc HG.out (fun j _ _ => HSAME.out j)).mono ?_
            rintro e W10 ⟨rfl, hb10⟩
            have HB10 := Aside0.mk (below_then HB9.out HB9.out.size hb10)
            clear hb10 HD4 HD5 HD6 HD7 HD8 HD9 HB4 HB5 HB6 HB7 HB8 HB9 HSAME HCNT HIR HG1 HINS hnx
            go_wp2_with fail
            go_loopg [16] (next.toNat + 1) (fun kq v16 w' => ∃ (k : Nat), v16 = .int .i64 k ∧ Aside0 (k + kq = next.toNat + 3) ∧ Aside0 (2 ≤ k ∧ k ≤ next.toNat) ∧ Aside0 (Below wr.heap.size wr w'))
            case atStart => exact ⟨2, rfl, ⟨by omega⟩, ⟨by omega⟩, HB10⟩
            case round =>
              obtain ⟨k, rfl, HK, HI, HB2⟩ := hrel
              cases gk with
              | zero => exact absurd HK.out (by have := HI.out; omega)
              | succ g0 =>
                have HDW := Aside0.mk (HDF.out.below HB2.out)
                have HBW := Aside0.mk (below_then HB.out HB.out.size HB2.out)
                by_cases c0 : (k : Int) < next
                · have c1 : decide ((k : Int) < next) = true := decide_eq_true c0
                  have HI0 := Aside0.mk c0
                  have HCOPY : Aside0 (∀ (j : Int) (W : World), Below wr.heap.size wr W → Calls Try.prog 29 #[v3, .int .i64 j] W (CopyPost W (look f j))) := ⟨fun j W hW => copy_calls v3 f next j wr W HDW.out hW (HG.out.sizes j).1 (HG.out.sizes j).2⟩
                  clear c0
                  cases hl : look f (k : Int) with
                  | none =>
                    have HL := Aside0.mk hl
                    clear hl
                    go_wp2_with (first
                      | (go_at_call 27; refine (dnext_calls v3 f next wr HDW.out).mono ?_; rintro e W1 ⟨rfl, hb1⟩; have HB1 := Aside0.mk hb1; clear hb1)
                      | (go_at_call 29; refine (HCOPY.out (k : Int) _ HB1.out).mono ?_; rintro e W2 ⟨cs, rfl, hM, hb2⟩; rw [HL.out] at hM ⊢; obtain ⟨A3, c3, A4, c4, rfl⟩ := k56_cellsM (x := z56) hM; have HB3 := Aside0.mk (below_alloc (below_then HB1.out HB1.out.size hb2) (.cells #[.int .i64 z56.f0, .string z56.f1, .int .i64 z56.f2, .slice A3 z56.f3.length c3, .slice A4 z56.f4.length c4] 56)); clear hM hb2)
                      | fail)
                    go_roundg g0
                    case measure => have := HK.out; omega
                    case rel => exact ⟨k + 1, (by have := HI0.out; congr 1; unfold wrap64; omega), ⟨by have := HK.out; omega⟩, ⟨by have := HI.out; have := HI0.out; omega⟩, ⟨below_then HB2.out HB2.out.size HB3.out⟩⟩
                  | some x =>
                    have hk1 : (k : Int) ≠ 1 := by have := HI.out; omega
                    obtain ⟨y, hy, hym⟩ := HG.out.par _ x hl hk1
                    obtain ⟨at0, hat, hae⟩ := List.getElem_of_mem hym
                    have HL := Aside0.mk hl
                    have HY := Aside0.mk hy
                    have HAT := Aside0.mk (And.intro hat (HG.out.kids_le hy))
                    obtain ⟨m1, m2, m3, m4, m5⟩ := mov_back HG.out hl hk1 hy at0 hat hae
                    have hnd := HG.out.nodup _ y hy
                    have HNE : Aside0 (∀ a, a ≤ at0 → (y.f3.getD a 0 == (k : Int)) = decide (a = at0)) := ⟨fun a ha => by
                      have h2 : a < y.f3.length := by omega
                      rw [List.getD_eq_getElem?_getD, List.getElem?_eq_getElem h2]
                      by_cases e : a = at0
                      · subst e; simp [hae]
                      · rw [decide_eq_false e]
                        simp only [Option.getD_some, beq_eq_false_iff_ne, ne_eq]
                        intro h3
                        rw [← hae] at h3
                        exact e ((List.getElem_inj hnd).1 h3)⟩
                    obtain ⟨F, hF⟩ : ∃ F, F = movF f k x.f2 1 0 := ⟨_, rfl⟩
                    rw [← hF] at m2 m3 m4 m5
                    have HM1 : Aside0 (∀ W : World, Below wr.heap.size wr W → Calls Try.prog 16 #[v3, .int .i64 (k : Int), .int .i64 1, .int .i64 0] W (Act2 (fun _ => True) W v3 F next 0)) := ⟨fun W hW => by
                      have h := mov_act (fun _ => True) v3 (k : Int) 1 0 W (fun _ _ => trivial) (HD.out.below (below_then HB2.out HB2.out.size hW)) HG.out 0 m1.symm
                      rw [hl] at h
                      rw [hF]
                      simpa only [ne_eq, not_true_eq_false, if_false, Option.getD_some, Int.toNat_zero] using h⟩
                    have HM2 : Aside0 (∀ (v : Value) (W : World), DocO (fun _ => True) W v F next → Calls Try.prog 16 #[v, .int .i64 (k : Int), .int .i64 x.f2, .int .i64 (at0 : Int)] W (Act2 (fun _ => True) W v (movF F k 1 x.f2 at0) next 0)) := ⟨fun v W hd => by
                      have h := mov_act (fun _ => True) v (k : Int) x.f2 (at0 : Int) W (fun _ _ => trivial) hd m3 0 m2.symm
                      rw [m4] at h
                      simpa only [ne_eq, not_true_eq_false, if_false, Int.toNat_natCast] using h⟩
                    have HEQ := Aside0.mk m5
                    have HGF := Aside0.mk m3
                    clear m1 m2 m3 m4 m5 hF hnd hat hae hy hym hl hk1
                    go_upto_region 21 with (first
                      | (go_at_call 27; refine (dnext_calls v3 f next wr HDW.out).mono ?_; rintro e W1 ⟨rfl, hb1⟩; have HB1 := Aside0.mk hb1; clear hb1)
                      | (go_at_call 29; refine (HCOPY.out (k : Int) _ HB1.out).mono ?_; rintro e W2 ⟨cs, rfl, hM, hb2⟩; rw [HL.out] at hM ⊢; obtain ⟨A3, c3, A4, c4, rfl⟩ := k56_cellsM (x := x) hM; have HB2c := Aside0.mk (below_then HB1.out HB1.out.size hb2); clear hM hb2)
                      | fail)
                    have HB3 : Aside0 (Below wr.heap.size wr (W2.alloc (.cells #[.int .i64 x.f0, .string x.f1, .int .i64 x.f2, .slice A3 x.f3.length c3, .slice A4 x.f4.length c4] 56))) := ⟨below_alloc HB2c.out _⟩
                    have q2 : (W2.alloc (.cells #[.int .i64 x.f0, .string x.f1, .int .i64 x.f2, .slice A3 x.f3.length c3, .slice A4 x.f4.length c4] 56)).cell? ⟨W2.heap.size, 2, none⟩ = some (.int .i64 x.f2) := (blk_cell (blk_new W2 _) 2).trans rfl
                    generalize W2.alloc (.cells #[.int .i64 x.f0, .string x.f1, .int .i64 x.f2, .slice A3 x.f3.length c3, .slice A4 x.f4.length c4] 56) = W3 at HB3 q2 ⊢
                    generalize W2.heap.size = g17 at q2 ⊢
                    have HQ2 := Aside0.mk q2
                    go_upto_region 22 with (first
                      | (go_at_call 29; refine (HCOPY.out x.f2 _ HB3.out).mono ?_; rintro e W4 ⟨cs, rfl, hM, hb4⟩; rw [HY.out] at hM ⊢; obtain ⟨B3, d3, B4, d4, hcs, l3, g3, l4, g4⟩ := k56_open (k56.K_of_M hM); obtain ⟨cl⟩ := cs; simp only at hcs; subst hcs; have HC3 := Aside0.mk g3; have HB4 := Aside0.mk hb4; clear hM hb4 g3 g4 l3 l4)
                      | fail)
                    have HB5 : Aside0 (Below W3.heap.size W3 (W4.alloc (.cells #[.int .i64 y.f0, .string y.f1, .int .i64 y.f2, .slice B3 y.f3.length d3, .slice B4 y.f4.length d4] 56))) := ⟨below_alloc HB4.out _⟩
                    have q3 : (W4.alloc (.cells #[.int .i64 y.f0, .string y.f1, .int .i64 y.f2, .slice B3 y.f3.length d3, .slice B4 y.f4.length d4] 56)).cell? ⟨W4.heap.size, 3, none⟩ = some (.slice B3 y.f3.length d3) := (blk_cell (blk_new W4 _) 3).trans rfl
                    have HC5 : Aside0 (Kd.C (Kd.int .i64) (W4.alloc (.cells #[.int .i64 y.f0, .string y.f1, .int .i64 y.f2, .slice B3 y.f3.length d3, .slice B4 y.f4.length d4] 56)) B3 y.f3.length y.f3) := ⟨Kd.C_below HC3.out (below_alloc (Below.refl _ _) _)⟩
                    clear HC3 q2
                    generalize W4.alloc (.cells #[.int .i64 y.f0, .string y.f1, .int .i64 y.f2, .slice B3 y.f3.length d3, .slice B4 y.f4.length d4] 56) = W5 at HB5 q3 HC5 ⊢
                    generalize W4.heap.size = g19 at q3 ⊢
                    have q25 := pw_cell_below HB5.out HQ2.out
                    have HB35 := Aside0.mk (below_then HB3.out HB3.out.size HB5.out)
                    go_wp2_with fail
                    go_loopg [21] (at0 + 1) (fun kq v21 w' => ∃ (a : Nat), v21 = .int .i64 a ∧ Aside0 (a + kq = at0 + 1) ∧ Aside0 (a ≤ at0) ∧ w' = W5)
                    case atStart => exact ⟨0, rfl, ⟨by omega⟩, ⟨Nat.zero_le _⟩, rfl⟩
                    case round =>
                      obtain ⟨a, rfl, HKA, HIA, rfl⟩ := hrel
                      cases gk with
                      | zero => exact absurd HKA.out (by have := HIA.out; omega)
                      | succ g1 =>
                        obtain ⟨ad2, rfl, ka⟩ := int_cell HC5.out a (by have := HIA.out; have := HAT.out.1; omega)
                        have hne := HNE.out a HIA.out
                        generalize y.f3.getD a 0 = z at ka hne
                        have e1 : decide (a < y.f3.length) = true := decide_eq_true (by have := HIA.out; have := HAT.out.1; omega)
                        have e2 : decide ((a : Int) < (y.f3.length : Int)) = true := decide_eq_true (by have := HIA.out; have := HAT.out.1; omega)
                        have y0 : (0 ≤ (a : Int)) = True := eq_true (by omega)
                        have y1 : ((a : Int) < (y.f3.length : Int)) = True := eq_true (by have := HIA.out; have := HAT.out.1; omega)
                        by_cases ea : a = at0
                        · subst ea
                          rw [decide_eq_true rfl] at hne
                          have h25 : ((a : Int) == (y.f3.length : Int)) = false := by have := HAT.out.1; simp; omega
                          have h25' : (a == y.f3.length) = false := by have := HAT.out.1; simp; omega
                          have h25'' : ¬ (a = y.f3.length) := by have := HAT.out.1; omega
                          have HB6 := HB35
                          go_wp2_with fail
                          refine (HM1.out _ (by repeat (first | exact HB6.out | exact Below.refl _ _))).mono ?_
                          rintro e W6 ⟨v6, rfl, hd6, hb6, _⟩
                          have HD6 := Aside0.mk hd6
                          have q26 := pw_cell_below hb6 q25
                          have HB7 := Aside0.mk (below_then HB6.out HB6.out.size hb6)
                          clear hd6 hb6
                          go_wp2_with fail
                          refine (HM2.out v6 _ HD6.out).mono ?_
                          rintro e W7 ⟨v7, rfl, hd7, hb7, _⟩
                          have HD7 := Aside0.mk hd7
                          have HB8 := Aside0.mk (below_then HB7.out HB7.out.size hb7)
                          clear hd7 hb7
                          go_wp2_with fail
                          refine (equal_calls v3 v7 f _ next next W7 (HDW.out.below HB8.out) HD7.out.doc HG.out (fun j _ _ => HEQ.out j)).mono ?_
                          rintro e W8 ⟨rfl, hb8⟩
                          have HB9 := Aside0.mk (below_then HB8.out HB8.out.size hb8)
                          clear hb8
                          go_wp2_with fail
                          go_roundg g0
                          case measure => have := HK.out; omega
                          case rel => exact ⟨k + 1, (by have := HI0.out; congr 1; unfold wrap64; omega), ⟨by have := HK.out; omega⟩, ⟨by have := HI.out; have := HI0.out; omega⟩, ⟨below_then HB2.out HB2.out.size HB9.out⟩⟩
                        · have hne2 : (z == (k : Int)) = false := by rw [hne]; exact decide_eq_false ea
                          have HA0 : Aside0 (a < at0) := ⟨by have := HIA.out; omega⟩
                          clear ea hne
                          go_wp2_with fail
                          go_roundg g1
                          case measure => have := HKA.out; omega
                          case rel => exact ⟨a + 1, (by have := HA0.out; have := HAT.out; congr 1; unfold wrap64; omega), ⟨by have := HKA.out; omega⟩, ⟨HA0.out⟩, rfl⟩
                · have c1 : decide ((k : Int) < next) = false := decide_eq_false c0
                  clear c0
                  go_wp2_with (first
                    | (go_at_call 27; refine (dnext_calls v3 f next wr HDW.out).mono ?_; rintro e W1 ⟨rfl, hb1⟩; have HB1 := Aside0.mk hb1; clear hb1)
                    | (go_at_call 15; refine (lives_calls _).mono ?_; rintro e W3 ⟨rfl, hb3⟩; have HB3x := Aside0.mk (below_then HBW.out HBW.out.size (below_then HB1.out HB1.out.size hb3)); clear hb3)
                    | fail)
                  go_ret
                  exact ⟨rfl, HB3x.out⟩
          · rw [if_pos hE, if_neg hE, if_neg hE] at HINS
            have hE0 : (insE f next p0 i0 (nameB ⟨#[113]⟩) (ch f p0).length == 0) = false := by simpa using hE
            generalize insE f next p0 i0 (nameB ⟨#[113]⟩) (ch f p0).length = E at HINS hE0
            clear hE
            go_wp2_with fail
            refine (HINS.out _ (by repeat (first | exact Below.refl _ _ | apply below_alloc | apply below_drew1 | apply pw_below_drewN))).mono ?_
            rintro e W4 ⟨v4, rfl, hd4, hb4, _⟩
            have HB10 := Aside0.mk hb4
            clear hd4 hb4
            go_wp2_with fail
            go_loopg [16] (next.toNat + 1) (fun kq v16 w' => ∃ (k : Nat), v16 = .int .i64 k ∧ Aside0 (k + kq = next.toNat + 3) ∧ Aside0 (2 ≤ k ∧ k ≤ next.toNat) ∧ Aside0 (Below wr.heap.size wr w'))
            case atStart => exact ⟨2, rfl, ⟨by omega⟩, ⟨by omega⟩, HB10⟩
            case round =>
              obtain ⟨k, rfl, HK, HI, HB2⟩ := hrel
              cases gk with
              | zero => exact absurd HK.out (by have := HI.out; omega)
              | succ g0 =>
                have HDW := Aside0.mk (HDF.out.below HB2.out)
                have HBW := Aside0.mk (below_then HB.out HB.out.size HB2.out)
                by_cases c0 : (k : Int) < next
                · have c1 : decide ((k : Int) < next) = true := decide_eq_true c0
                  have HI0 := Aside0.mk c0
                  have HCOPY : Aside0 (∀ (j : Int) (W : World), Below wr.heap.size wr W → Calls Try.prog 29 #[v3, .int .i64 j] W (CopyPost W (look f j))) := ⟨fun j W hW => copy_calls v3 f next j wr W HDW.out hW (HG.out.sizes j).1 (HG.out.sizes j).2⟩
                  clear c0
                  cases hl : look f (k : Int) with
                  | none =>
                    have HL := Aside0.mk hl
                    clear hl
                    go_wp2_with (first
                      | (go_at_call 27; refine (dnext_calls v3 f next wr HDW.out).mono ?_; rintro e W1 ⟨rfl, hb1⟩; have HB1 := Aside0.mk hb1; clear hb1)
                      | (go_at_call 29; refine (HCOPY.out (k : Int) _ HB1.out).mono ?_; rintro e W2 ⟨cs, rfl, hM, hb2⟩; rw [HL.out] at hM ⊢; obtain ⟨A3, c3, A4, c4, rfl⟩ := k56_cellsM (x := z56) hM; have HB3 := Aside0.mk (below_alloc (below_then HB1.out HB1.out.size hb2) (.cells #[.int .i64 z56.f0, .string z56.f1, .int .i64 z56.f2, .slice A3 z56.f3.length c3, .slice A4 z56.f4.length c4] 56)); clear hM hb2)
                      | fail)
                    go_roundg g0
                    case measure => have := HK.out; omega
                    case rel => exact ⟨k + 1, (by have := HI0.out; congr 1; unfold wrap64; omega), ⟨by have := HK.out; omega⟩, ⟨by have := HI.out; have := HI0.out; omega⟩, ⟨below_then HB2.out HB2.out.size HB3.out⟩⟩
                  | some x =>
                    have hk1 : (k : Int) ≠ 1 := by have := HI.out; omega
                    obtain ⟨y, hy, hym⟩ := HG.out.par _ x hl hk1
                    obtain ⟨at0, hat, hae⟩ := List.getElem_of_mem hym
                    have HL := Aside0.mk hl
                    have HY := Aside0.mk hy
                    have HAT := Aside0.mk (And.intro hat (HG.out.kids_le hy))
                    obtain ⟨m1, m2, m3, m4, m5⟩ := mov_back HG.out hl hk1 hy at0 hat hae
                    have hnd := HG.out.nodup _ y hy
                    have HNE : Aside0 (∀ a, a ≤ at0 → (y.f3.getD a 0 == (k : Int)) = decide (a = at0)) := ⟨fun a ha => by
                      have h2 : a < y.f3.length := by omega
                      rw [List.getD_eq_getElem?_getD, List.getElem?_eq_getElem h2]
                      by_cases e : a = at0
                      · subst e; simp [hae]
                      · rw [decide_eq_false e]
                        simp only [Option.getD_some, beq_eq_false_iff_ne, ne_eq]
                        intro h3
                        rw [← hae] at h3
                        exact e ((List.getElem_inj hnd).1 h3)⟩
                    obtain ⟨F, hF⟩ : ∃ F, F = movF f k x.f2 1 0 := ⟨_, rfl⟩
                    rw [← hF] at m2 m3 m4 m5
                    have HM1 : Aside0 (∀ W : World, Below wr.heap.size wr W → Calls Try.prog 16 #[v3, .int .i64 (k : Int), .int .i64 1, .int .i64 0] W (Act2 (fun _ => True) W v3 F next 0)) := ⟨fun W hW => by
                      have h := mov_act (fun _ => True) v3 (k : Int) 1 0 W (fun _ _ => trivial) (HD.out.below (below_then HB2.out HB2.out.size hW)) HG.out 0 m1.symm
                      rw [hl] at h
                      rw [hF]
                      simpa only [ne_eq, not_true_eq_false, if_false, Option.getD_some, Int.toNat_zero] using h⟩
                    have HM2 : Aside0 (∀ (v : Value) (W : World), DocO (fun _ => True) W v F next → Calls Try.prog 16 #[v, .int .i64 (k : Int), .int .i64 x.f2, .int .i64 (at0 : Int)] W (Act2 (fun _ => True) W v (movF F k 1 x.f2 at0) next 0)) := ⟨fun v W hd => by
                      have h := mov_act (fun _ => True) v (k : Int) x.f2 (at0 : Int) W (fun _ _ => trivial) hd m3 0 m2.symm
                      rw [m4] at h
                      simpa only [ne_eq, not_true_eq_false, if_false, Int.toNat_natCast] using h⟩
                    have HEQ := Aside0.mk m5
                    have HGF := Aside0.mk m3
                    clear m1 m2 m3 m4 m5 hF hnd hat hae hy hym hl hk1
                    go_upto_region 21 with (first
                      | (go_at_call 27; refine (dnext_calls v3 f next wr HDW.out).mono ?_; rintro e W1 ⟨rfl, hb1⟩; have HB1 := Aside0.mk hb1; clear hb1)
                      | (go_at_call 29; refine (HCOPY.out (k : Int) _ HB1.out).mono ?_; rintro e W2 ⟨cs, rfl, hM, hb2⟩; rw [HL.out] at hM ⊢; obtain ⟨A3, c3, A4, c4, rfl⟩ := k56_cellsM (x := x) hM; have HB2c := Aside0.mk (below_then HB1.out HB1.out.size hb2); clear hM hb2)
                      | fail)
                    have HB3 : Aside0 (Below wr.heap.size wr (W2.alloc (.cells #[.int .i64 x.f0, .string x.f1, .int .i64 x.f2, .slice A3 x.f3.length c3, .slice A4 x.f4.length c4] 56))) := ⟨below_alloc HB2c.out _⟩
                    have q2 : (W2.alloc (.cells #[.int .i64 x.f0, .string x.f1, .int .i64 x.f2, .slice A3 x.f3.length c3, .slice A4 x.f4.length c4] 56)).cell? ⟨W2.heap.size, 2, none⟩ = some (.int .i64 x.f2) := (blk_cell (blk_new W2 _) 2).trans rfl
                    generalize W2.alloc (.cells #[.int .i64 x.f0, .string x.f1, .int .i64 x.f2, .slice A3 x.f3.length c3, .slice A4 x.f4.length c4] 56) = W3 at HB3 q2 ⊢
                    generalize W2.heap.size = g17 at q2 ⊢
                    have HQ2 := Aside0.mk q2
                    go_upto_region 22 with (first
                      | (go_at_call 29; refine (HCOPY.out x.f2 _ HB3.out).mono ?_; rintro e W4 ⟨cs, rfl, hM, hb4⟩; rw [HY.out] at hM ⊢; obtain ⟨B3, d3, B4, d4, hcs, l3, g3, l4, g4⟩ := k56_open (k56.K_of_M hM); obtain ⟨cl⟩ := cs; simp only at hcs; subst hcs; have HC3 := Aside0.mk g3; have HB4 := Aside0.mk hb4; clear hM hb4 g3 g4 l3 l4)
                      | fail)
                    have HB5 : Aside0 (Below W3.heap.size W3 (W4.alloc (.cells #[.int .i64 y.f0, .string y.f1, .int .i64 y.f2, .slice B3 y.f3.length d3, .slice B4 y.f4.length d4] 56))) := ⟨below_alloc HB4.out _⟩
                    have q3 : (W4.alloc (.cells #[.int .i64 y.f0, .string y.f1, .int .i64 y.f2, .slice B3 y.f3.length d3, .slice B4 y.f4.length d4] 56)).cell? ⟨W4.heap.size, 3, none⟩ = some (.slice B3 y.f3.length d3) := (blk_cell (blk_new W4 _) 3).trans rfl
                    have HC5 : Aside0 (Kd.C (Kd.int .i64) (W4.alloc (.cells #[.int .i64 y.f0, .string y.f1, .int .i64 y.f2, .slice B3 y.f3.length d3, .slice B4 y.f4.length d4] 56)) B3 y.f3.length y.f3) := ⟨Kd.C_below HC3.out (below_alloc (Below.refl _ _) _)⟩
                    clear HC3 q2
                    generalize W4.alloc (.cells #[.int .i64 y.f0, .string y.f1, .int .i64 y.f2, .slice B3 y.f3.length d3, .slice B4 y.f4.length d4] 56) = W5 at HB5 q3 HC5 ⊢
                    generalize W4.heap.size = g19 at q3 ⊢
                    have q25 := pw_cell_below HB5.out HQ2.out
                    have HB35 := Aside0.mk (below_then HB3.out HB3.out.size HB5.out)
                    go_wp2_with fail
                    go_loopg [21] (at0 + 1) (fun kq v21 w' => ∃ (a : Nat), v21 = .int .i64 a ∧ Aside0 (a + kq = at0 + 1) ∧ Aside0 (a ≤ at0) ∧ w' = W5)
                    case atStart => exact ⟨0, rfl, ⟨by omega⟩, ⟨Nat.zero_le _⟩, rfl⟩
                    case round =>
                      obtain ⟨a, rfl, HKA, HIA, rfl⟩ := hrel
                      cases gk with
                      | zero => exact absurd HKA.out (by have := HIA.out; omega)
                      | succ g1 =>
                        obtain ⟨ad2, rfl, ka⟩ := int_cell HC5.out a (by have := HIA.out; have := HAT.out.1; omega)
                        have hne := HNE.out a HIA.out
                        generalize y.f3.getD a 0 = z at ka hne
                        have e1 : decide (a < y.f3.length) = true := decide_eq_true (by have := HIA.out; have := HAT.out.1; omega)
                        have e2 : decide ((a : Int) < (y.f3.length : Int)) = true := decide_eq_true (by have := HIA.out; have := HAT.out.1; omega)
                        have y0 : (0 ≤ (a : Int)) = True := eq_true (by omega)
                        have y1 : ((a : Int) < (y.f3.length : Int)) = True := eq_true (by have := HIA.out; have := HAT.out.1; omega)
                        by_cases ea : a = at0
                        · subst ea
                          rw [decide_eq_true rfl] at hne
                          have h25 : ((a : Int) == (y.f3.length : Int)) = false := by have := HAT.out.1; simp; omega
                          have h25' : (a == y.f3.length) = false := by have := HAT.out.1; simp; omega
                          have h25'' : ¬ (a = y.f3.length) := by have := HAT.out.1; omega
                          have HB6 := HB35
                          go_wp2_with fail
                          refine (HM1.out _ (by repeat (first | exact HB6.out | exact Below.refl _ _))).mono ?_
                          rintro e W6 ⟨v6, rfl, hd6, hb6, _⟩
                          have HD6 := Aside0.mk hd6
                          have q26 := pw_cell_below hb6 q25
                          have HB7 := Aside0.mk (below_then HB6.out HB6.out.size hb6)
                          clear hd6 hb6
                          go_wp2_with fail
                          refine (HM2.out v6 _ HD6.out).mono ?_
                          rintro e W7 ⟨v7, rfl, hd7, hb7, _⟩
                          have HD7 := Aside0.mk hd7
                          have HB8 := Aside0.mk (below_then HB7.out HB7.out.size hb7)
                          clear hd7 hb7
                          go_wp2_with fail
                          refine (equal_calls v3 v7 f _ next next W7 (HDW.out.below HB8.out) HD7.out.doc HG.out (fun j _ _ => HEQ.out j)).mono ?_
                          rintro e W8 ⟨rfl, hb8⟩
                          have HB9 := Aside0.mk (below_then HB8.out HB8.out.size hb8)
                          clear hb8
                          go_wp2_with fail
                          go_roundg g0
                          case measure => have := HK.out; omega
                          case rel => exact ⟨k + 1, (by have := HI0.out; congr 1; unfold wrap64; omega), ⟨by have := HK.out; omega⟩, ⟨by have := HI.out; have := HI0.out; omega⟩, ⟨below_then HB2.out HB2.out.size HB9.out⟩⟩
                        · have hne2 : (z == (k : Int)) = false := by rw [hne]; exact decide_eq_false ea
                          have HA0 : Aside0 (a < at0) := ⟨by have := HIA.out; omega⟩
                          clear ea hne
                          go_wp2_with fail
                          go_roundg g1
                          case measure => have := HKA.out; omega
                          case rel => exact ⟨a + 1, (by have := HA0.out; have := HAT.out; congr 1; unfold wrap64; omega), ⟨by have := HKA.out; omega⟩, ⟨HA0.out⟩, rfl⟩
                · have c1 : decide ((k : Int) < next) = false := decide_eq_false c0
                  clear c0
                  go_wp2_with (first
                    | (go_at_call 27; refine (dnext_calls v3 f next wr HDW.out).mono ?_; rintro e W1 ⟨rfl, hb1⟩; have HB1 := Aside0.mk hb1; clear hb1)
                    | (go_at_call 15; refine (lives_calls _).mono ?_; rintro e W3 ⟨rfl, hb3⟩; have HB3x := Aside0.mk (below_then HBW.out HBW.out.size (below_then HB1.out HB1.out.size hb3)); clear hb3)
                    | fail)
                  go_ret
                  exact ⟨rfl, HB3x.out⟩
end Go.Proofs.Ytmkakofnabfinaa.P
end
section
set_option linter.unusedVariables false
set_option linter.unusedSimpArgs false
namespace Go.Proofs.Ytmkakofnabfinaa.P
open Go.RowKit Go.Proofs.YtmkakofnabfinaaW.PrintWords Go.Proofs.YtmkakofnabfinaaW.PrintLast Go.Proofs.YtmkakofnabfinaaW.PrintMore
attribute [local go_sem] max2_int min2_int max_two min_two max_three min_three max_four min_four
set_option linter.unusedVariables false
set_option linter.unusedSimpArgs false
theorem lawDomBack.calls (k : Unit) (A : Option Addr) (c : Nat) (l : List S44) (p0 i0 : Int) (r : Bool) (w : World) (hC : Kd.C k44 w A l.length l) (hc : l.length ≤ c) (h : ∀ p, p ∈ l → p.f4.size ≤ 140737488351232 ∧ p.f5.size ≤ 140737488351232) :
    Calls Try.prog 6 #[.slice A l.length c, .int .i64 p0, .int .i64 i0] w fun e w' => e = .returned (.bool true) ∧ Below w.heap.size w w' :=
  back_calls l A c p0 i0 w hC hc (fun p hp => by have := (h p hp).2; omega)
theorem pure_DomBack (l : List S44) (p0 i0 : Int) (h : ∀ p, p ∈ l → p.f4.size ≤ 140737488351232 ∧ p.f5.size ≤ 140737488351232) : ∃ k : Unit, ∀ p, p ∈ l → p.f4.size ≤ 140737488351232 ∧ p.f5.size ≤ 140737488351232 := ⟨(), h⟩
end Go.Proofs.Ytmkakofnabfinaa.P
end
