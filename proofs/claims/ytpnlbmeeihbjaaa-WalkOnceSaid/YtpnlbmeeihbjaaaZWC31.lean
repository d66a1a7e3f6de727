/- WalkOnce: for every input the law returns true, and each argument reads behind the call as it read before. -/
import Derived.Test.YtpnlbmeeihbjaaaZWC1
import Derived.Test.YtpnlbmeeihbjaaaZWC30
import Derived.RangeFuncNested
import Derived.RangeFuncLeaves
import Derived.Shelf.Abstract
import Derived.Shelf.RegionOpen
import Derived.WalkKit
import Derived.WalkMore
import Derived.OwnWalkIn
import Derived.TacticsInMore
import Derived.LoopNIn
import Derived.LoopIn
import Derived.Deep.LoopGhost
import Derived.Deep.QuietTactic
import Derived.BigQuiet
section
set_option linter.unusedVariables false
set_option linter.unusedSimpArgs false
namespace Go.Proofs.Ytpnlbmeeihbjaaa.P
open Go.RowKit Go.Shelf Go.Proofs.YtpnlbmeeihbjaaaW.PrintWords Go.Proofs.YtpnlbmeeihbjaaaW.PrintLast Go.Proofs.YtpnlbmeeihbjaaaW.PrintMore
attribute [local go_sem] max2_int min2_int max_two min_two max_three min_three max_four min_four
set_option linter.unusedVariables false
set_option linter.unusedSimpArgs false
theorem ostep_trans {O O' : Nat → Prop} {A B C : World} (h : OStep O A B) (k : OStep O' B C) (hO : ∀ j, O' j → O j ∨ A.heap.size ≤ j) : OStep O A C :=
  ⟨k.os.trans h.os, k.tape.trans h.tape, k.output.trans h.output, Nat.le_trans h.size k.size, fun j hj hn => (k.block j (Nat.lt_of_lt_of_le hj h.size) (fun hh => by rcases hO j hh with h1 | h1; exact hn h1; omega)).trans (h.block j hj hn)⟩
theorem ostep_grown {O : Nat → Prop} {A B : World} {row : Option Nat} (h : A.grownBy B row) (hO : ∀ j, row = some j → O j) : OStep O A B :=
  ⟨h.os, h.tape, h.output, h.size, fun j hj hn => h.block j hj (fun e => hn (hO j e.symm))⟩
set_option maxHeartbeats 16000000 in
set_option maxRecDepth 100000 in
theorem under1_in (n : Nat) (hn : 1 ≤ n) (v : Value) (f : Nat → Option S40) (next id : Int) (Bd Bi : Nat) (w0 w : World) (hD : DocF w0 v f next) (hg : Good f next) (hb0 : Below w0.heap.size w0 w)
    (hBd : w.cell? ⟨Bd, 0, none⟩ = some v) (hBi : w.cell? ⟨Bi, 0, none⟩ = some (.int .i64 id)) (hltd : Bd < w.heap.size) (hlti : Bi < w.heap.size) :
    SeqStopsO Fence.wide n Try.prog 74 #[.pointer (some ⟨Bi, 0, none⟩), .pointer (some ⟨Bd, 0, none⟩)] (fun x : Int => #[.int .i64 x]) w0.heap.size (fun k => k = Bi ∨ k = Bd) (fun xs => xs = pre f id) (fun p => p <+: pre f id) (pre f id).length w := by
  intro l J Jx W hW hJ hJx hY h0
  refine callsIn_wide.2 ?_
  show Calls Try.prog 74 #[.func (.yield l) #[] #[], .pointer (some ⟨Bi, 0, none⟩), .pointer (some ⟨Bd, 0, none⟩)] W _
  have HD := Aside0.mk hD
  have HG := Aside0.mk hg
  have HBW := Aside0.mk (below_then hb0 hb0.size hW)
  have HJ := Aside0.mk hJ
  have HJX := Aside0.mk hJx
  have HY := Aside0.mk hY
  have H0 := Aside0.mk h0
  have cBi : W.cell? ⟨Bi, 0, none⟩ = some (.int .i64 id) := (hW.cell (p := ⟨Bi, 0, none⟩) hlti).trans hBi
  have cBd : Aside0 (W.cell? ⟨Bd, 0, none⟩ = some v) := ⟨(hW.cell (p := ⟨Bd, 0, none⟩) hltd).trans hBd⟩
  have hszW := hW.size
  have HLT : Aside0 (Bi < W.heap.size ∧ Bd < W.heap.size) := ⟨by omega, by omega⟩
  have hu40 := Try.underlying40
  have hu29 := Try.underlying29
  clear hD hg hb0 hBd hBi hW hJ hJx hY h0 hszW hltd hlti
  go_enter Try.func74, Try.ntmps74
  go_step3
  go_wp2_with fail
  go_step3
  go_wp2_with fail
  go_loopg [4] 1048578 (fun kq v4 w' => ∃ (p t : List Int) (O : Nat → Prop), Aside0 (cost f t < kq) ∧ Aside0 (cost f t ≤ 1048577) ∧ Aside0 (pre f id = p ++ rest f t) ∧ Aside0 (Kd.R (Kd.int .i64) 3 w' W.heap.size (fun _ => True) v4 t) ∧ Aside0 (J p O w') ∧ Aside0 (∀ k, O k → W.heap.size ≤ k ∧ k < w'.heap.size) ∧ Aside0 (∀ k, v4.ownBlock = some k → O k) ∧ Aside0 (Below w0.heap.size w0 w') ∧ Aside0 (w'.cell? ⟨Bd, 0, none⟩ = some v) ∧ Aside0 (W.heap.size ≤ w'.heap.size))
  case atStart =>
    have hb1 : Below W.heap.size W (W.alloc (.cells #[.int .i64 id] 3)) := below_alloc (Below.refl _ _) _
    refine ⟨[], [id], fun k => k = W.heap.size, ⟨by have := cost_one HG.out id; omega⟩, ⟨cost_one HG.out id⟩, ⟨(rest_one id).symm⟩, ⟨own_laid (xs := [id]) (n := 1) (cap := 1) (Nat.le_refl _) (blk_new _ _) rfl (Nat.le_refl _) (show 1 ≤ maxLen by decide) rfl rfl (fun _ => True) trivial⟩, ⟨HJ.out [] _ _ _ _ H0.out (OStep.of_below hb1) (fun _ h => h.elim) (fun k h => ⟨.inr (by omega), by simp; omega⟩)⟩, ⟨fun k h => ⟨by omega, by simp; omega⟩⟩, ⟨fun k h => by simp [Value.ownBlock] at h; omega⟩, ⟨below_then HBW.out HBW.out.size hb1⟩, ⟨(hb1.cell (p := ⟨Bd, 0, none⟩) HLT.out.2).trans cBd.out⟩, ⟨hb1.size⟩⟩
  case round =>
    clear cBi cBd H0
    obtain ⟨p, t0, O, HK, HC, HP, HR, HJ1, HO, HOW, HB, HcBd, HSZ⟩ := hrel
    cases gk with
    | zero => exact absurd HK.out (by omega)
    | succ g0 =>
      rcases List.eq_nil_or_concat t0 with rfl | ⟨t, k, e⟩
      · obtain ⟨A, c, rfl, hc, hC⟩ := Kd.R_reads HR.out
        clear hc hC
        go_wp2_with fail
        refine (show ∀ {Q : Exit → Act → World → Prop} {a : Act} {w : World}, Q .normal a w → Exit.noGoto Q .normal a w from fun h => h) ?_
        go_end0
        exact ⟨⟨_, rfl⟩, .inl ⟨p, O, by rw [HP.out, rest_nil, List.append_nil], HJ1.out⟩⟩
      · rw [List.concat_eq_append] at e
        subst e
        obtain ⟨A, c, rfl, hc, hC⟩ := Kd.R_reads HR.out
        obtain ⟨n1, hn1⟩ : ∃ n1, n1 = (t ++ [k]).length := ⟨_, rfl⟩
        obtain ⟨m, hm⟩ : ∃ m, m = t.length := ⟨_, rfl⟩
        rw [← hn1] at HR HOW hc ⊢
        obtain ⟨hnm, g, rfl, hgb, hgl, hmc, hcm, hck, hRt⟩ := R_pop HR.out hm
        have HOG : Aside0 (O g) := ⟨HOW.out g rfl⟩
        have HRT := Aside0.mk hRt
        have HM := Aside0.mk (And.intro hm (And.intro hgb hgl))
        have e1 : wrap64 ((n1 : Int) - 1) = (m : Int) := by unfold wrap64; omega
        have z0 : (0 ≤ (m : Int)) = True := eq_true (by omega)
        have z1 : ((m : Int) < (n1 : Int)) = True := eq_true (by omega)
        have z1' : (m < n1) = True := eq_true (by omega)
        have z2 : ((m : Int) ≤ (c : Int)) = True := eq_true (by omega)
        have z2' : (m ≤ c) = True := eq_true (by omega)
        have d0 : decide (0 < n1) = true := decide_eq_true (by omega)
        have d1 : decide ((0 : Int) < (n1 : Int)) = true := decide_eq_true (by omega)
        have cBd := HcBd.out
        clear hC hc HR hn1 hm hgb hgl hRt HOW
        have HN : Aside0 (n1 = m + 1 ∧ m ≤ c) := ⟨hnm, hmc⟩
        clear hnm hmc hcm
        cases hl : look f k with
        | none =>
          have HL := Aside0.mk hl
          clear hl
          go_wp2_with (first
            | (go_at_call 20; refine (copy_calls v f next k w0 _ HD.out HB.out (HG.out.sizes k).1 (HG.out.sizes k).2).mono ?_; rintro e W2 ⟨cs, rfl, hM, hb2⟩; rw [HL.out] at hM ⊢; obtain ⟨A3, c3, A4, c4, rfl⟩ := k40_cellsM (x := z40) hM; have HB2 := Aside0.mk (below_alloc hb2 (.cells #[.int .i64 z40.f0, .string z40.f1, .int .i64 z40.f2, .slice A3 z40.f3.length c3, .slice A4 z40.f4.length c4] 40)); clear hM hb2)
            | fail)
          go_roundg g0
          case measure => omega
          case rel =>
            have hst : OStep O wr _ := OStep.of_below HB2.out
            have hsz := HB2.out.size
            exact ⟨p, t, O, ⟨by have := HK.out; have := cost_none (t := t) HL.out; omega⟩, ⟨by have := HC.out; have := cost_none (t := t) HL.out; omega⟩, ⟨by rw [HP.out, rest_none HL.out]⟩, ⟨Kd.R_below HRT.out HB2.out⟩, ⟨HJ.out p O O wr _ HJ1.out hst HO.out (fun j h => ⟨.inl h, by have := (HO.out j h).2; omega⟩)⟩, ⟨fun j h => ⟨(HO.out j h).1, by have := (HO.out j h).2; omega⟩⟩, ⟨fun j h => by simp [Value.ownBlock] at h; subst h; exact HOG.out⟩, ⟨below_then HB.out HB.out.size HB2.out⟩, ⟨(HB2.out.cell (p := ⟨Bd, 0, none⟩) (by have := HLT.out.2; have := HSZ.out; show Bd < _; omega)).trans HcBd.out⟩, ⟨Nat.le_trans HSZ.out hsz⟩⟩
        | some x =>
          have HL := Aside0.mk hl
          clear hl
          go_upto_region 6 with (first
            | (go_at_call 20; refine (copy_calls v f next k w0 _ HD.out HB.out (HG.out.sizes k).1 (HG.out.sizes k).2).mono ?_; rintro e W2 ⟨cs, rfl, hM, hb2⟩; rw [HL.out] at hM ⊢; obtain ⟨v3, vv4, hcs, hR3, hR4⟩ := k40_openM hM; obtain ⟨cs⟩ := cs; simp only at hcs; obtain ⟨A3, c3, rfl, _, _⟩ := Kd.R_reads hR3; obtain ⟨A4, c4, rfl, _, _⟩ := Kd.R_reads hR4; subst hcs; have HR3 := Aside0.mk (show Kd.R (Kd.int .i64) 3 W2 wr.heap.size (fun _ => True) (.slice A3 x.f3.length c3) x.f3 from hR3); have HB2 := Aside0.mk hb2; clear hM hb2 hR3 hR4)
            | fail)
          have HNB : Aside0 ((W2.alloc (.cells #[.int .i64 x.f0, .string x.f1, .int .i64 x.f2, .slice A3 x.f3.length c3, .slice A4 x.f4.length c4] 40)).heap[W2.heap.size]? = some (.cells #[.int .i64 x.f0, .string x.f1, .int .i64 x.f2, .slice A3 x.f3.length c3, .slice A4 x.f4.length c4] 40 (0, 0))) := ⟨blk_new _ _⟩
          have HB3 : Aside0 (Below W2.heap.size W2 (W2.alloc (.cells #[.int .i64 x.f0, .string x.f1, .int .i64 x.f2, .slice A3 x.f3.length c3, .slice A4 x.f4.length c4] 40))) := ⟨below_alloc (Below.refl _ _) _⟩
          have hsz3 : (W2.alloc (.cells #[.int .i64 x.f0, .string x.f1, .int .i64 x.f2, .slice A3 x.f3.length c3, .slice A4 x.f4.length c4] 40)).heap.size = W2.heap.size + 1 := World.size_alloc _ _
          generalize W2.alloc (.cells #[.int .i64 x.f0, .string x.f1, .int .i64 x.f2, .slice A3 x.f3.length c3, .slice A4 x.f4.length c4] 40) = W3 at HNB HB3 hsz3 ⊢
          obtain ⟨gn, hgn⟩ : ∃ gn, gn = W2.heap.size := ⟨_, rfl⟩
          rw [← hgn] at HNB hsz3 ⊢
          have HGN := Aside0.mk (And.intro hgn (And.intro hsz3 HB2.out.size))
          clear hgn hsz3
          have HB23 := Aside0.mk (below_then HB2.out HB2.out.size HB3.out)
          have HR3' := Aside0.mk (Kd.R_below HR3.out HB3.out)
          have HRT3 := Aside0.mk (Kd.R_below HRT.out HB23.out)
          have hown3 : ∀ j, (Value.slice A3 x.f3.length c3).ownBlock = some j → wr.heap.size ≤ j ∧ j < gn := fun j h => ⟨own_ge (Kd.own_of_R HR3.out) j h, by rw [HGN.out.1]; exact Kd.R_lt HR3.out j h⟩
          have HOWN3 := Aside0.mk hown3
          obtain ⟨O3, hO3⟩ : ∃ O3 : Nat → Prop, O3 = fun j => j = g ∨ (Value.slice A3 x.f3.length c3).ownBlock = some j ∨ j = gn := ⟨_, rfl⟩
          have hO3b : ∀ j, O3 j → W.heap.size ≤ j ∧ j < W3.heap.size := fun j h => by
            rw [hO3] at h
            have h1 := HM.out
            have h2 := HGN.out
            have h4 := HSZ.out
            rcases h with h | h | h
            · omega
            · have h3 := hown3 j h; omega
            · omega
          have HO3 := Aside0.mk hO3
          have HO3B := Aside0.mk hO3b
          have HJ3 : Aside0 (J p O3 W3) := ⟨HJ.out p O O3 wr W3 HJ1.out (OStep.of_below HB23.out) HO.out (fun j h => ⟨by
            have h0 := (hO3b j h)
            rw [hO3] at h
            rcases h with h | h | h
            · exact .inl (by rw [h]; exact HOG.out)
            · exact .inr (hown3 j h).1
            · exact .inr (by have := HGN.out; omega), (hO3b j h).2⟩)⟩
          have hlen : p.length < (pre f id).length := by rw [HP.out, rest_some HG.out HL.out]; simp
          clear hO3b hown3 hO3
          obtain ⟨fn, tmps, assign, body, hy, hR⟩ := HY.out p k O3 W3 HJ3.out HO3B.out hlen
          have HRD := Aside0.mk hR
          clear hR hlen
          refine (wpIn_wide (n := n)).1 ?_
          gi_wp2
          refine HRD.out.mono ?_
          rintro e W4 (⟨rfl, hJ4, hb4, hk4⟩ | ⟨rfl, hJx4, hs4⟩)
          · have HJ4 := Aside0.mk hJ4
            have HB4 := Aside0.mk hb4
            have HK4 := Aside0.mk hk4
            have HS4 : Aside0 (W3.heap.size ≤ W4.heap.size) := ⟨hb4.size⟩
            have hN4 : W4.heap[gn]? = some (.cells #[.int .i64 x.f0, .string x.f1, .int .i64 x.f2, .slice A3 x.f3.length c3, .slice A4 x.f4.length c4] 40 (0, 0)) := (hk4 gn (.inl (by rw [HO3.out]; exact .inr (.inr rfl)))).trans HNB.out
            have HN4 := Aside0.mk hN4
            have r3 := (blk_cell hN4 3).trans (show _ = some (.slice A3 x.f3.length c3) from rfl)
            have HR4 : Aside0 (Kd.R (Kd.int .i64) 3 W4 wr.heap.size (fun j => O3 j) (.slice A3 x.f3.length c3) x.f3) := ⟨Kd.R_move (Kd.R_of_own (enc := Value.int .i64) (h1 := fun _ => rfl) (Kd.own_of_R HR3'.out) (fun j h => by rw [HO3.out]; exact .inr (.inl h))) (fun j h => hk4 j (.inl h))⟩
            have HRT4 : Aside0 (Kd.R (Kd.int .i64) 3 W4 W.heap.size (fun j => O3 j) (.slice (some ⟨g, 0, none⟩) m c) t) := ⟨Kd.R_move (Kd.R_of_own (enc := Value.int .i64) (h1 := fun _ => rfl) (Kd.own_of_R HRT3.out) (fun j h => by rw [HO3.out]; simp [Value.ownBlock] at h; exact .inl h.symm)) (fun j h => hk4 j (.inl h))⟩
            have HC4 : Aside0 (W4.cell? ⟨Bd, 0, none⟩ = some v) := ⟨(World.cell?_of_block (hk4 Bd (.inr (.inr rfl)))).trans ((HB23.out.cell (p := ⟨Bd, 0, none⟩) (by have := HLT.out.2; have := HSZ.out; show Bd < _; omega)).trans HcBd.out)⟩
            have HB04 : Aside0 (Below w0.heap.size w0 W4) := ⟨(below_then HB.out HB.out.size HB23.out).trans hb4⟩
            clear hJ4 hb4 hk4 hN4 cBd hck
            gi_wp2
            go_upto_region 8 with (first
              | (go_at_call 75; refine (rev_calls x.f3 _ _ _ _ HR4.out (by have := HG.out.kids_le HL.out; omega)).mono ?_; rintro e W5 ⟨rfl, hR5, hg5⟩; have HR5 := Aside0.mk hR5; have HG5 := Aside0.mk hg5; clear hR5 hg5)
              | fail)
            obtain ⟨A', c', e5, hc5, hC5⟩ := Kd.R_reads HR5.out
            injection e5 with e51 e52 e53
            subst e51
            subst e53
            rw [← e52] at hC5
            have HC5 := Aside0.mk hC5
            have hgne : ∀ j, (Value.slice A3 x.f3.length c3).ownBlock = some j → j ≠ g := fun j h => by have := HOWN3.out j h; have := HM.out; omega
            have HRT5 : Aside0 (Kd.R (Kd.int .i64) 3 W5 W.heap.size (fun _ => True) (.slice (some ⟨g, 0, none⟩) m c) t) := ⟨Kd.R_mono (Kd.R_grown (Kd.R_of_own (enc := Value.int .i64) (h1 := fun _ => rfl) (ok := fun j => j = g) (Kd.own_of_R HRT4.out) (fun j h => by simp [Value.ownBlock] at h; exact h.symm)) HG5.out (fun j hj e => hgne j e.symm hj)) (fun _ _ => trivial)⟩
            have HN5 : Aside0 (W5.heap[gn]? = some (.cells #[.int .i64 x.f0, .string x.f1, .int .i64 x.f2, .slice A3 x.f3.length c3, .slice A4 x.f4.length c4] 40 (0, 0))) := ⟨(HG5.out.block gn (by have := HS4.out; have := HGN.out; omega) (fun e => by have := HOWN3.out gn e.symm; omega)).trans HN4.out⟩
            have r5 := (blk_cell HN5.out 3).trans (show _ = some (.slice A3 x.f3.length c3) from rfl)
            have HTL : Aside0 (t.length + x.f3.length ≤ 1048577) := ⟨by have := HC.out; have := cost_kids HG.out (t := t) HL.out; have := cost_len (f := f) (t ++ x.f3.reverse); simp at this; omega⟩
            clear hC5 hc5 e52 r3 hgne
            go_wp2_with (first
              | ((with_reducible refine gate_builtin (b := .append) rfl ?_); at_builtin; refine Kd.R_append_row (w0 := W5) (Value.int .i64) (0 : Int) (h1 := fun _ => rfl) W.heap.size rfl (.tmp 39) (.tmp 41) 29 3 (.int .i64 0) 8 rfl Try.underlying29 info3 rfl (by decide) (.slice (some ⟨g, 0, none⟩) m c) t x.f3.reverse A3 x.f3.length c3 (fun _ => True) rfl rfl (fun _ _ => trivial) HRT5.out HC5.out (Below.refl _ _) (by have := HG5.out.size; have := HS4.out; have := HGN.out; have := HSZ.out; omega) (by have := HTL.out; omega) ?_; intro v7 W7 hR7 hb7 hg7 hat7; have HR7 := Aside0.mk (show Kd.R (Kd.int .i64) 3 W7 W.heap.size (fun _ => True) v7 (t ++ x.f3.reverse) from hR7); have HG7 := Aside0.mk hg7; have HAT7 := Aside0.mk hat7; clear hR7 hb7 hg7 hat7)
              | fail)
            go_roundg g0
            case measure => omega
            case rel =>
              have hO3o : ∀ j, O3 j ↔ (j = g ∨ (Value.slice A3 x.f3.length c3).ownBlock = some j ∨ j = gn) := fun j => by rw [HO3.out]
              have hs5 := HG5.out.size
              have hw0 := HBW.out.size
              have hs7 := HG7.out.size
              have hs4 := HS4.out
              have hss := HSZ.out
              have hgn := HGN.out
              have hst : OStep O3 W4 W7 := ostep_trans (ostep_grown HG5.out (fun j h => (hO3o j).2 (.inr (.inl h)))) (ostep_grown HG7.out (fun j h => (hO3o j).2 (.inl (by simp [Value.ownBlock] at h; exact h.symm)))) (fun j h => .inl h)
              have hO1 : ∀ j, v7.ownBlock = some j → (O3 j ∨ W4.heap.size ≤ j) ∧ j < W7.heap.size := fun j h => ⟨by
                rcases HAT7.out with e | ⟨b, e, hb⟩
                · rw [e] at h; exact .inl ((hO3o j).2 (.inl (by simp [Value.ownBlock] at h; exact h.symm)))
                · rw [e] at h; injection h with h; exact .inr (by omega), Kd.R_lt HR7.out j h⟩
              have hOb : ∀ j, O3 j → W.heap.size ≤ j ∧ j < W4.heap.size := fun j h => ⟨(HO3B.out j h).1, by have := (HO3B.out j h).2; omega⟩
              have hrow : ∀ j, W.heap.size ≤ j → w0.heap.size ≤ j := fun j h => by have := HBW.out.size; omega
              refine ⟨p ++ [k], t ++ x.f3.reverse, fun j => v7.ownBlock = some j, ⟨by have := HK.out; have := cost_kids HG.out (t := t) HL.out; omega⟩, ⟨by have := HC.out; have := cost_kids HG.out (t := t) HL.out; omega⟩, ⟨by rw [HP.out, rest_some HG.out HL.out]; simp⟩, HR7, ⟨HJ.out (p ++ [k]) O3 _ W4 W7 HJ4.out hst hOb hO1⟩, ⟨fun j h => ⟨?_, (hO1 j h).2⟩⟩, ⟨fun j h => h⟩, ⟨(HB04.out.grown HG5.out (by omega) (fun j h => hrow j (by have := HOWN3.out j h; omega))).grown HG7.out (by omega) (fun j h => hrow j (by simp [Value.ownBlock] at h; have := HM.out; omega))⟩, ⟨?_⟩, ⟨by omega⟩⟩
              · rcases (hO1 j h).1 with h2 | h2
                · exact (hOb j h2).1
                · omega
              · have hlt := HLT.out.2
                refine (World.cell?_of_block ((HG7.out.block Bd (by omega) (fun e => ?_)).trans (HG5.out.block Bd (by omega) (fun e => ?_)))).trans HC4.out
                · simp [Value.ownBlock] at e; have := HM.out; omega
                · have := HOWN3.out Bd e.symm; omega
          · have HJX4 := Aside0.mk hJx4
            clear hJx4
            gi_wp2
            go_wp2_with fail
            refine (show ∀ {Q : Exit → Act → World → Prop} {a : Act} {w : World}, Q .normal a w → Exit.noGoto Q .normal a w from fun h => h) ?_
            go_end0
            exact ⟨⟨_, rfl⟩, .inr ⟨p ++ [k], O3, by rw [HP.out, rest_some HG.out HL.out]; exact ⟨rest f (t ++ x.f3.reverse), by simp⟩, HJX4.out⟩⟩
end Go.Proofs.Ytpnlbmeeihbjaaa.P
end
