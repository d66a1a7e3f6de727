/- DomKeeps: for every input the law returns true, and each argument reads behind the call as it read before. -/
import Derived.Test.YtmkakofnabfinaaZDK27
section
set_option linter.unusedVariables false
set_option linter.unusedSimpArgs false
namespace Go.Proofs.Ytmkakofnabfinaa.P
open Go.RowKit Go.Proofs.YtmkakofnabfinaaW.PrintWords Go.Proofs.YtmkakofnabfinaaW.PrintLast Go.Proofs.YtmkakofnabfinaaW.PrintMore
attribute [local go_sem] ptr_neq_same
attribute [local go_sem] max2_int min2_int max_two min_two max_three min_three max_four min_four
set_option linter.unusedVariables false
set_option linter.unusedSimpArgs false
theorem info23_ : (Try.prog.info? 23).map (fun i => (i.zero, i.size, i.bytes)) = some (some (.pointer none), 1, 8) := by kernel_rfl
theorem info38_ : (Try.prog.info? 38).map (fun i => (i.zero, i.size, i.bytes)) = some (some (.pointer none), 1, 8) := by kernel_rfl
theorem nameB_a : nameB ⟨#[97]⟩ = true := by kernel_rfl
set_option maxHeartbeats 16000000 in
set_option maxRecDepth 100000 in
theorem dkeeps_calls (l : List S44) (A : Option Addr) (c : Nat) (w : World) (hC : Kd.C k44 w A l.length l) (hc : l.length ≤ c) (hs : ∀ p, p ∈ l → p.f4.size ≤ 140737488355328 ∧ p.f5.size ≤ 140737488355328) :
    Calls Try.prog 5 #[.slice A l.length c] w fun e w' => e = .returned (.bool true) ∧ Below w.heap.size w w' := by
  obtain ⟨b, hlight⟩ := light_calls l A c w hC hc
  have HLI := Aside0.mk hlight
  have HC := Aside0.mk hC
  have HS := Aside0.mk hs
  have hu36 := Try.underlying36
  have hu41 := Try.underlying41
  have hu23 := Try.underlying23
  have hu42 := Try.underlying42
  have hu44 := Try.underlying44
  have hlb : l.length ≤ 9223372036854775807 := hC.2.1
  clear hlight hC hs
  cases b with
  | false =>
    go_enter Try.func5, Try.ntmps5
    go_wp2_with (first
      | (go_at_call 20; refine HLI.out.mono ?_; rintro e W1 ⟨rfl, hb1⟩; have HB1 := Aside0.mk hb1; clear hb1)
      | (go_at_call 15; refine (lives_calls _).mono ?_; rintro e W2 ⟨rfl, hb2⟩; have HB2 := Aside0.mk (below_then HB1.out HB1.out.size hb2); clear hb2)
      | fail)
    go_ret
    exact ⟨rfl, HB2.out⟩
  | true =>
    by_cases c40 : 40 < l.length
    · have d5 : decide (40 < l.length) = true := decide_eq_true c40
      have d5' : decide ((40 : Int) < (l.length : Int)) = true := decide_eq_true (by omega)
      clear c40
      go_enter Try.func5, Try.ntmps5
      go_wp2_with (first
        | (go_at_call 20; refine HLI.out.mono ?_; rintro e W1 ⟨rfl, hb1⟩; have HB1 := Aside0.mk hb1; clear hb1)
        | (go_at_call 15; refine (lives_calls _).mono ?_; rintro e W2 ⟨rfl, hb2⟩; have HB2 := Aside0.mk (below_then HB1.out HB1.out.size hb2); clear hb2)
        | fail)
      go_ret
      exact ⟨rfl, HB2.out⟩
    have d5 : decide (40 < l.length) = false := decide_eq_false c40
    have d5' : decide ((40 : Int) < (l.length : Int)) = false := decide_eq_false (by omega)
    have H40 : Aside0 (l.length ≤ 40) := ⟨by omega⟩
    clear c40
    have HN1 := Aside0.mk (fun W : World => dnew_calls (fun _ => True) 2 ⟨#[97]⟩ true W (fun _ _ => trivial) (by have h := nameL_ok ⟨#[97]⟩; rw [nameB_a] at h; exact h))
    have HN2 := Aside0.mk (fun W : World => rnew_calls (fun _ => True) ⟨#[97]⟩ W (fun _ _ => trivial) (by decide))
    rw [nameB_a] at HN2
    obtain ⟨s0, hs0⟩ : ∃ s : (Nat → Option S56) × Int, s = (newF ⟨#[97]⟩, 2) := ⟨_, rfl⟩
    have HG0 : Aside0 (Good s0.1 s0.2) := ⟨by rw [hs0]; exact good_new ⟨#[97]⟩⟩
    have HE0 := Aside0.mk hs0
    clear hs0
    go_enter Try.func5, Try.ntmps5
    go_upto_region 7 with (first
      | (go_at_call 20; refine HLI.out.mono ?_; rintro e W1 ⟨rfl, hb1⟩; have HB1 := Aside0.mk hb1; clear hb1)
      | (go_at_call 13; refine (HN1.out _).mono ?_; rintro e W2 ⟨v1, rfl, hd, hb2⟩; have hd' : DocO (fun _ => True) W2 v1 (newF ⟨#[97]⟩) 2 := hd; obtain ⟨bv, tv, hv1, hrest⟩ := hd'.doc; subst hv1; have HD1 := Aside0.mk (show DocO (fun _ => True) W2 (.pointer (some ⟨bv, 0, none⟩)) (newF ⟨#[97]⟩) 2 from hd); have HB2 := Aside0.mk (below_then HB1.out HB1.out.size hb2); clear hb2 hd hd' hrest)
      | (go_at_call 21; refine (HN2.out _).mono ?_; rintro e W3 ⟨u1, rfl, hd, hb3⟩; obtain ⟨⟨gu, rfl⟩, hd2⟩ : (∃ g : Nat, u1 = .pointer (some ⟨g, 0, none⟩)) ∧ RDO (fun _ => True) W3 u1 (newF ⟨#[97]⟩) 2 := hd; have HR1 := Aside0.mk hd2; have HB23 := Aside0.mk hb3; have HB3 := Aside0.mk (below_then HB2.out HB2.out.size hb3); clear hb3 hd2)
      | fail)
    have HT0 := Aside0.mk (Two.first (w0 := w) (w := W3) (b := bv) (u := gu) (s := s0) HB3.out (by rw [HE0.out]; exact (HD1.out.below HB23.out).doc.all) (by rw [HE0.out]; exact HR1.out.step (fun _ _ _ => rfl) (fun _ _ h => h)) HG0.out)
    clear HD1 HR1
    go_upto_region 9 with (fail)
    have e1 : ((W3.alloc (.cells #[.pointer (some ⟨bv, 0, none⟩)] 23)).alloc (.cells #[.pointer (some ⟨gu, 0, none⟩)] 38)) = ((W3.alloc (.cells #[encP bv] 23)).alloc (.cells #[encP gu] 38)) := rfl
    generalize ((W3.alloc (.cells #[.pointer (some ⟨bv, 0, none⟩)] 23)).alloc (.cells #[.pointer (some ⟨gu, 0, none⟩)] 38)) = W4 at e1 ⊢
    rw [← e1] at HT0
    clear e1
    generalize W3.heap.size = gA0 at HT0 ⊢
    go_wp2_with fail
    go_loopg [7, 8, 44] (l.length + 1) (fun kq v7 v8 v44 w' => ∃ (i n gA cA gB cB : Nat) (bs us : List Nat) (ss : List ((Nat → Option S56) × Int)), v44 = .int .i64 i ∧ v7 = .slice (some ⟨gA, 0, none⟩) n cA ∧ v8 = .slice (some ⟨gB, 0, none⟩) n cB ∧ Aside0 (i + kq = l.length + 1) ∧ Aside0 (i ≤ l.length) ∧ Aside0 (Two w w' gA cA gB cB bs us ss) ∧ Aside0 (ss.length = n ∧ n = i + 1))
    case atStart => exact ⟨0, 1, gA0, 1, gA0 + 1, 1, [bv], [gu], [s0], rfl, rfl, rfl, ⟨by omega⟩, ⟨Nat.zero_le _⟩, HT0, ⟨rfl, rfl⟩⟩
    case round =>
      clear HT0 HB3 HB2 HB1 HB23
      obtain ⟨i, n, gA, cA, gB, cB, bs, us, ss, rfl, rfl, rfl, HK, HI, HT, HL⟩ := hrel
      cases gk with
      | zero => exact absurd HK.out (by have := HI.out; omega)
      | succ g0 =>
      by_cases c0 : i < l.length
      · have HB : Aside0 (Below w.heap.size w wr) := ⟨HT.out.below⟩
        obtain ⟨ad, rfl, k0, k1, k2, k3, k4, k5⟩ := at_T44 (Kd.C_below HC.out HB.out) (i : Int) (by omega) (by omega)
        rw [Int.toNat_natCast] at k0 k1 k2 k3 k4 k5
        have HSI : Aside0 ((rd_T44 l (i : Nat)).f4.size ≤ 140737488355328 ∧ (rd_T44 l (i : Nat)).f5.size ≤ 140737488355328) := ⟨by
          have e : rd_T44 l (i : Nat) = l[i] := by unfold rd_T44; simp [List.getD_eq_getElem?_getD, List.getElem?_eq_getElem c0]
          rw [e]; exact HS.out _ (List.getElem_mem c0)⟩
        generalize rd_T44 l (i : Nat) = a at k0 k1 k2 k3 k4 k5 HSI
        have HI0 := Aside0.mk c0
        have c1 : decide (i < l.length) = true := decide_eq_true c0
        have c2 : decide ((i : Int) < (l.length : Int)) = true := decide_eq_true (by omega)
        have z0 : (0 ≤ (i : Int)) = True := eq_true (by omega)
        have z1 : ((i : Int) < (l.length : Int)) = True := eq_true (by omega)
        obtain ⟨K, hK⟩ : ∃ K, K = (i * 5) % n := ⟨_, rfl⟩
        have hK1 : K < n := by rw [hK]; exact Nat.mod_lt _ (by have := HL.out.2; omega)
        have hlb := HT.out.lb
        have hlu := HT.out.lu
        have hls := HL.out.1
        obtain ⟨bk, hbk⟩ : ∃ b, bs[K]? = some b := ⟨_, List.getElem?_eq_getElem (show K < bs.length by omega)⟩
        obtain ⟨uk, huk⟩ : ∃ b, us[K]? = some b := ⟨_, List.getElem?_eq_getElem (show K < us.length by omega)⟩
        obtain ⟨⟨f, next⟩, hsk⟩ : ∃ b, ss[K]? = some b := ⟨_, List.getElem?_eq_getElem (show K < ss.length by omega)⟩
        obtain ⟨hd, hrd, hgd⟩ := HT.out.doc K bk uk (f, next) hbk huk hsk
        have HD : Aside0 (DocO (fun k => k ≠ gA ∧ k ≠ gB) wr (.pointer (some ⟨bk, 0, none⟩)) f next) := ⟨hd⟩
        have HRr : Aside0 (RDO (fun k => k ≠ gA ∧ k ≠ gB) wr (.pointer (some ⟨uk, 0, none⟩)) f next) := ⟨hrd⟩
        have HG : Aside0 (Good f next) := ⟨hgd⟩
        have p0 := kP_cell HT.out.hA K bk hbk
        have p1 := kP_cell HT.out.hB K uk huk
        have HLB : Aside0 (bs.length = n ∧ us.length = n) := ⟨⟨by omega, by omega⟩⟩
        have HFR : Aside0 (∀ W : World, Below wr.heap.size wr W → ∀ j : Nat, W.heap.size ≤ j → j ≠ gA ∧ j ≠ gB) := ⟨fun W hW j hj => by have h1 := HT.out.gA_lt; have h2 := HT.out.gB_lt; have h3 := hW.size; omega⟩
        obtain ⟨f', hf'⟩ : ∃ F, F = actF f next a := ⟨_, rfl⟩
        obtain ⟨next', hn'⟩ : ∃ N, N = actN f next a := ⟨_, rfl⟩
        obtain ⟨I, hI⟩ : ∃ I, I = actI f next a := ⟨_, rfl⟩
        obtain ⟨E, hE⟩ : ∃ E, E = actE f next a := ⟨_, rfl⟩
        have HGN : Aside0 (Good f' next') := ⟨by rw [hf', hn']; exact good_act hgd a⟩
        have HACT : Aside0 (∀ W, Below wr.heap.size wr W → Calls Try.prog 22 #[.pointer (some ⟨bk, 0, none⟩), .agg #[.int .i64 a.f0, .int .i64 a.f1, .int .i64 a.f2, .int .i64 a.f3, .string a.f4, .string a.f5]] W (Act3 (fun k => k ≠ gA ∧ k ≠ gB) W (.pointer (some ⟨bk, 0, none⟩)) f' next' I E)) := ⟨fun W hW => by
          rw [hf', hn', hI, hE]
          exact act_calls (fun k => k ≠ gA ∧ k ≠ gB) _ a.f0 a.f1 a.f2 a.f3 a.f4 a.f5 W (HFR.out W hW) (HD.out.below hW) HG.out (by have := HSI.out.2; omega)⟩
        have HLIKE : Aside0 (∀ W, Below wr.heap.size wr W → Calls Try.prog 23 #[.pointer (some ⟨uk, 0, none⟩), .agg #[.int .i64 a.f0, .int .i64 a.f1, .int .i64 a.f2, .int .i64 a.f3, .string a.f4, .string a.f5]] W (fun e w' => ∃ u, e = .returned (.tuple #[u, .int .i64 I, .int .i64 E]) ∧ RDO (fun k => k ≠ gA ∧ k ≠ gB) w' u f' next' ∧ Below W.heap.size W w')) := ⟨fun W hW => by
          rw [hf', hn', hI, hE]
          exact like_calls (fun k => k ≠ gA ∧ k ≠ gB) _ f next a.f0 a.f1 a.f2 a.f3 a.f4 a.f5 W (HFR.out W hW) (HRr.out.below hW) HG.out HSI.out.1⟩
        have HKI : Aside0 (K < n ∧ K = (i * 5) % n) := ⟨⟨hK1, hK⟩⟩
        clear c0 hd hrd hgd hbk huk hsk hlb hlu hls hf' hn' hI hE hK hK1
        go_upto_region 12 with (fail)
        have HBA : Aside0 (Below wr.heap.size wr (wr.alloc (.cells #[.int .i64 a.f0, .int .i64 a.f1, .int .i64 a.f2, .int .i64 a.f3, .string a.f4, .string a.f5] 44))) := ⟨below_alloc (Below.refl _ _) _⟩
        have q0 := (blk_cell (blk_new wr (.cells #[.int .i64 a.f0, .int .i64 a.f1, .int .i64 a.f2, .int .i64 a.f3, .string a.f4, .string a.f5] 44)) 0).trans (show _ = some (.int .i64 a.f0) from rfl)
        have q1 := (blk_cell (blk_new wr (.cells #[.int .i64 a.f0, .int .i64 a.f1, .int .i64 a.f2, .int .i64 a.f3, .string a.f4, .string a.f5] 44)) 1).trans (show _ = some (.int .i64 a.f1) from rfl)
        have q2 := (blk_cell (blk_new wr (.cells #[.int .i64 a.f0, .int .i64 a.f1, .int .i64 a.f2, .int .i64 a.f3, .string a.f4, .string a.f5] 44)) 2).trans (show _ = some (.int .i64 a.f2) from rfl)
        have q3 := (blk_cell (blk_new wr (.cells #[.int .i64 a.f0, .int .i64 a.f1, .int .i64 a.f2, .int .i64 a.f3, .string a.f4, .string a.f5] 44)) 3).trans (show _ = some (.int .i64 a.f3) from rfl)
        have q4 := (blk_cell (blk_new wr (.cells #[.int .i64 a.f0, .int .i64 a.f1, .int .i64 a.f2, .int .i64 a.f3, .string a.f4, .string a.f5] 44)) 4).trans (show _ = some (.string a.f4) from rfl)
        have q5 := (blk_cell (blk_new wr (.cells #[.int .i64 a.f0, .int .i64 a.f1, .int .i64 a.f2, .int .i64 a.f3, .string a.f4, .string a.f5] 44)) 5).trans (show _ = some (.string a.f5) from rfl)
        have a0 : (wr.alloc (.cells #[.int .i64 a.f0, .int .i64 a.f1, .int .i64 a.f2, .int .i64 a.f3, .string a.f4, .string a.f5] 44)).cell? ⟨gA, K, none⟩ = _ := pw_cell_below HBA.out p0
        have a1 : (wr.alloc (.cells #[.int .i64 a.f0, .int .i64 a.f1, .int .i64 a.f2, .int .i64 a.f3, .string a.f4, .string a.f5] 44)).cell? ⟨gB, K, none⟩ = _ := pw_cell_below HBA.out p1
        clear k0 k1 k2 k3 k4 k5 p0 p1
        obtain ⟨g12, hg12⟩ : ∃ g, g = wr.heap.size := ⟨_, rfl⟩
        rw [← hg12] at q0 q1 q2 q3 q4 q5 ⊢
        generalize wr.alloc (.cells #[.int .i64 a.f0, .int .i64 a.f1, .int .i64 a.f2, .int .i64 a.f3, .string a.f4, .string a.f5] 44) = WA at HBA q0 q1 q2 q3 q4 q5 a0 a1 ⊢
        clear hg12
        have y0 : (wrap64 ((i : Int) * 5)).tmod (n : Int) = (K : Int) := by
          have h : wrap64 ((i : Int) * 5) = ((i * 5 : Nat) : Int) := by have := HI0.out; have := H40.out; unfold wrap64; omega
          rw [h, HKI.out.2, Int.ofNat_tmod]
        have n0 : (n = 0) = False := eq_false (by have := HL.out.2; omega)
        have n1 : ((n : Int) = 0) = False := eq_false (by have := HL.out.2; omega)
        go_upto_region 13 with (fail)
        clear n0 n1
        have z2 : (0 ≤ (K : Int)) = True := eq_true (by omega)
        have z3 : ((K : Int) < (n : Int)) = True := eq_true (by have := HKI.out.1; omega)
        clear y0
        go_region_held3 (fun w' => w'.cell? ⟨gA, K, none⟩ = some (.pointer (some ⟨bk, 0, none⟩)) ∧ w'.cell? ⟨g12, 0, none⟩ = some (.int .i64 a.f0) ∧ w'.cell? ⟨g12, 1, none⟩ = some (.int .i64 a.f1) ∧ w'.cell? ⟨g12, 2, none⟩ = some (.int .i64 a.f2) ∧ w'.cell? ⟨g12, 3, none⟩ = some (.int .i64 a.f3) ∧ w'.cell? ⟨g12, 4, none⟩ = some (.string a.f4) ∧ w'.cell? ⟨g12, 5, none⟩ = some (.string a.f5)) (first | go_keep | exact ⟨pw_cell_below HB3.out a0, pw_cell_below HB3.out q0, pw_cell_below HB3.out q1, pw_cell_below HB3.out q2, pw_cell_below HB3.out q3, pw_cell_below HB3.out q4, pw_cell_below HB3.out q5⟩) (first
          | (go_at_call 22; (with_reducible refine (HACT.out _ (by repeat (first | exact HBA.out | apply below_drew1 | apply pw_below_drewN))).mono ?_); rintro e W3 ⟨v', rfl, hd, hb, hv'⟩; obtain ⟨bx, tx, hvx, hrest⟩ := hd.doc; subst hvx; have HD3 := Aside0.mk hd; have HV3 := Aside0.mk hv'; have HB3 := Aside0.mk (show Below WA.heap.size WA W3 from ⟨hb.os, hb.tape, hb.output, hb.size, hb.block⟩); clear hd hb hv' hrest)
          | fail)
        have HBW3 : Aside0 (Below wr.heap.size wr W3) := ⟨below_then HBA.out HBA.out.size HB3.out⟩
        have q0_3 := pw_cell_below HB3.out q0
        have q1_3 := pw_cell_below HB3.out q1
        have q2_3 := pw_cell_below HB3.out q2
        have q3_3 := pw_cell_below HB3.out q3
        have q4_3 := pw_cell_below HB3.out q4
        have q5_3 := pw_cell_below HB3.out q5
        have a0_3 := pw_cell_below HB3.out a0
        have a1_3 := pw_cell_below HB3.out a1
        clear q0 q1 q2 q3 q4 q5 a0 a1
        go_upto_region 14 with (fail)
        go_region_held3 (fun w' => w'.cell? ⟨gB, K, none⟩ = some (.pointer (some ⟨uk, 0, none⟩)) ∧ w'.cell? ⟨g12, 0, none⟩ = some (.int .i64 a.f0) ∧ w'.cell? ⟨g12, 1, none⟩ = some (.int .i64 a.f1) ∧ w'.cell? ⟨g12, 2, none⟩ = some (.int .i64 a.f2) ∧ w'.cell? ⟨g12, 3, none⟩ = some (.int .i64 a.f3) ∧ w'.cell? ⟨g12, 4, none⟩ = some (.string a.f4) ∧ w'.cell? ⟨g12, 5, none⟩ = some (.string a.f5)) (first | go_keep | exact ⟨pw_cell_below HB4.out a1_3, pw_cell_below HB4.out q0_3, pw_cell_below HB4.out q1_3, pw_cell_below HB4.out q2_3, pw_cell_below HB4.out q3_3, pw_cell_below HB4.out q4_3, pw_cell_below HB4.out q5_3⟩) (first
          | (go_at_call 23; (with_reducible refine (HLIKE.out _ (by repeat (first | exact HBW3.out | apply below_drew1 | apply pw_below_drewN))).mono ?_); rintro e W4 ⟨u', rfl, hd, hb⟩; obtain ⟨bu, Au, cu, hvu, hrest⟩ := hd.rd; subst hvu; have HR4 := Aside0.mk hd; have HB4 := Aside0.mk (show Below W3.heap.size W3 W4 from ⟨hb.os, hb.tape, hb.output, hb.size, hb.block⟩); clear hd hb hrest)
          | fail)
        have HBW4 : Aside0 (Below wr.heap.size wr W4) := ⟨below_then HBW3.out HBW3.out.size HB4.out⟩
        have HD4 : Aside0 (DocO (fun k => k ≠ gA ∧ k ≠ gB) W4 (.pointer (some ⟨bx, 0, none⟩)) f' next') := ⟨HD3.out.below HB4.out⟩
        have a0_4 := pw_cell_below HB4.out a0_3
        have HT4 : Aside0 (Two w W4 gA cA gB cB bs us ss) := ⟨HT.out.step HBW4.out⟩
        clear q0_3 q1_3 q2_3 q3_3 q4_3 q5_3 a0_3 a1_3
        by_cases cE : E = 0
        · have dE : (E == 0) = true := by simpa using cE
          have dE2 : (E = 0) = True := eq_true cE
          clear cE
          go_upto_region 17 with (fail)
          have HA4 : Aside0 (kP.R 23 W4 w.heap.size (fun _ => True) (.slice (some ⟨gA, 0, none⟩) n cA) bs) := ⟨by have h := HT4.out.hA; rw [HLB.out.1] at h; exact h⟩
          have HBE : Aside0 (bs.length = n ∧ us.length = n ∧ n ≤ 41) := ⟨⟨HLB.out.1, HLB.out.2, by have h1 := HL.out.2; have h2 := HI0.out; have h3 := H40.out; omega⟩⟩
          clear a0_4 z2 z3
          go_wp2_with (first
            | ((with_reducible refine gate_builtin (b := .append) rfl ?_); at_builtin; refine Kd.R_append kP (w0 := w) w.heap.size rfl (.tmp 84) (.tmp 86) 41 23 (.pointer none) 8 rfl Try.underlying41 info23_ rfl (by decide) (by decide) (.slice (some ⟨gA, 0, none⟩) n cA) bs bx [.pointer (some ⟨bx, 0, none⟩)] (fun _ => True) (fun _ => False) rfl rfl rfl (fun _ h => h.elim) (fun _ _ => trivial) HA4.out HT4.out.below HT4.out.below.size (by have := HBE.out; omega) ?_; intro v1 w1 hR1 hb1 hg1 ht1; have HR1 := Aside0.mk hR1; have HB1 := Aside0.mk hb1; have HG1 := Aside0.mk (show W4.grownBy w1 (some gA) from hg1); have HT1 := Aside0.mk (show v1.ownBlock = some gA ∨ ∃ b, v1.ownBlock = some b ∧ W4.heap.size ≤ b from ht1); have HB38 : Aside0 (kP.R 38 w1 w.heap.size (fun _ => True) (.slice (some ⟨gB, 0, none⟩) n cB) us) := (⟨by have h := HT4.out.hB1 hg1; rw [HLB.out.2] at h; exact h⟩); clear hR1 hb1 hg1 ht1)
            | ((with_reducible refine gate_builtin (b := .append) rfl ?_); at_builtin; refine Kd.R_append kP (w0 := w) w.heap.size rfl (.tmp 88) (.tmp 90) 42 38 (.pointer none) 8 rfl Try.underlying42 info38_ rfl (by decide) (by decide) (.slice (some ⟨gB, 0, none⟩) n cB) us bu [.pointer (some ⟨bu, 0, none⟩)] (fun _ => True) (fun _ => False) rfl rfl rfl (fun _ h => h.elim) (fun _ _ => trivial) HB38.out HB1.out HB1.out.size (by have := HBE.out; omega) ?_; intro v2 w2 hR2 hb2 hg2 ht2; have HR2 := Aside0.mk hR2; have HB2 := Aside0.mk hb2; have HG2 := Aside0.mk (show w1.grownBy w2 (some gB) from hg2); have HT2 := Aside0.mk (show v2.ownBlock = some gB ∨ ∃ b, v2.ownBlock = some b ∧ w1.heap.size ≤ b from ht2); clear hR2 hb2 hg2 ht2)
            | fail)
          go_roundg g0
          case measure => have := HK.out; omega
          case rel =>
            obtain ⟨gA', cA', gB', cB', e1, e2, hT⟩ := Two.grow (s := (f', next')) HT4.out HD4.out HR4.out HGN.out HR1.out HG1.out HT1.out HR2.out HG2.out HT2.out HB2.out
            rw [HLB.out.1] at e1
            rw [HLB.out.2] at e2
            exact ⟨i + 1, n + 1, gA', cA', gB', cB', _, _, _, (by have := HI0.out; congr 1; unfold wrap64; omega), e1, e2, ⟨by have := HK.out; omega⟩, ⟨HI0.out⟩, ⟨hT⟩, ⟨by have h := HL.out; simp; omega⟩⟩
        · have dE : (E == 0) = false := by simpa using cE
          have dE2 : (E = 0) = False := eq_false cE
          obtain rfl : bx = bk := by have h := HV3.out cE; injection h with h; injection h with h; injection h with h
          clear cE
          go_upto_region 17 with (fail)
          have HA4 : Aside0 (kP.R 23 W4 w.heap.size (fun _ => True) (.slice (some ⟨gA, 0, none⟩) n cA) bs) := ⟨by have h := HT4.out.hA; rw [HLB.out.1] at h; exact h⟩
          have HBE : Aside0 (bs.length = n ∧ us.length = n ∧ n ≤ 41) := ⟨⟨HLB.out.1, HLB.out.2, by have h1 := HL.out.2; have h2 := HI0.out; have h3 := H40.out; omega⟩⟩
          clear a0_4 z2 z3
          go_wp2_with (first
            | ((with_reducible refine gate_builtin (b := .append) rfl ?_); at_builtin; refine Kd.R_append kP (w0 := w) w.heap.size rfl (.tmp 84) (.tmp 86) 41 23 (.pointer none) 8 rfl Try.underlying41 info23_ rfl (by decide) (by decide) (.slice (some ⟨gA, 0, none⟩) n cA) bs bx [.pointer (some ⟨bx, 0, none⟩)] (fun _ => True) (fun _ => False) rfl rfl rfl (fun _ h => h.elim) (fun _ _ => trivial) HA4.out HT4.out.below HT4.out.below.size (by have := HBE.out; omega) ?_; intro v1 w1 hR1 hb1 hg1 ht1; have HR1 := Aside0.mk hR1; have HB1 := Aside0.mk hb1; have HG1 := Aside0.mk (show W4.grownBy w1 (some gA) from hg1); have HT1 := Aside0.mk (show v1.ownBlock = some gA ∨ ∃ b, v1.ownBlock = some b ∧ W4.heap.size ≤ b from ht1); have HB38 : Aside0 (kP.R 38 w1 w.heap.size (fun _ => True) (.slice (some ⟨gB, 0, none⟩) n cB) us) := (⟨by have h := HT4.out.hB1 hg1; rw [HLB.out.2] at h; exact h⟩); clear hR1 hb1 hg1 ht1)
            | ((with_reducible refine gate_builtin (b := .append) rfl ?_); at_builtin; refine Kd.R_append kP (w0 := w) w.heap.size rfl (.tmp 88) (.tmp 90) 42 38 (.pointer none) 8 rfl Try.underlying42 info38_ rfl (by decide) (by decide) (.slice (some ⟨gB, 0, none⟩) n cB) us bu [.pointer (some ⟨bu, 0, none⟩)] (fun _ => True) (fun _ => False) rfl rfl rfl (fun _ h => h.elim) (fun _ _ => trivial) HB38.out HB1.out HB1.out.size (by have := HBE.out; omega) ?_; intro v2 w2 hR2 hb2 hg2 ht2; have HR2 := Aside0.mk hR2; have HB2 := Aside0.mk hb2; have HG2 := Aside0.mk (show w1.grownBy w2 (some gB) from hg2); have HT2 := Aside0.mk (show v2.ownBlock = some gB ∨ ∃ b, v2.ownBlock = some b ∧ w1.heap.size ≤ b from ht2); clear hR2 hb2 hg2 ht2)
            | fail)
          go_roundg g0
          case measure => have := HK.out; omega
          case rel =>
            obtain ⟨gA', cA', gB', cB', e1, e2, hT⟩ := Two.grow (s := (f', next')) HT4.out HD4.out HR4.out HGN.out HR1.out HG1.out HT1.out HR2.out HG2.out HT2.out HB2.out
            rw [HLB.out.1] at e1
            rw [HLB.out.2] at e2
            exact ⟨i + 1, n + 1, gA', cA', gB', cB', _, _, _, (by have := HI0.out; congr 1; unfold wrap64; omega), e1, e2, ⟨by have := HK.out; omega⟩, ⟨HI0.out⟩, ⟨hT⟩, ⟨by have h := HL.out; simp; omega⟩⟩
      · have c1 : decide (i < l.length) = false := decide_eq_false c0
        have c2 : decide ((i : Int) < (l.length : Int)) = false := decide_eq_false (by omega)
        have hn9 : n ≤ 41 := by have h1 := HL.out.2; have h2 := HI.out; have h3 := H40.out; omega
        have HN9 := Aside0.mk hn9
        clear c0 hn9
        rename World => WL
        go_wp2_with fail
        go_loopg [95] (n + 1) (fun kq v95 w' => ∃ (j : Nat), v95 = .int .i64 j ∧ Aside0 (j + kq = n + 1) ∧ Aside0 (j ≤ n) ∧ Aside0 (Below WL.heap.size WL w'))
        case atStart => exact ⟨0, rfl, ⟨by omega⟩, ⟨Nat.zero_le _⟩, ⟨Below.refl _ _⟩⟩
        case round =>
          clear HK HI
          obtain ⟨j, rfl, HK, HI, HB⟩ := hrel
          cases gk with
          | zero => exact absurd HK.out (by have := HI.out; omega)
          | succ g1 =>
          have HBW : Aside0 (Below w.heap.size w wr) := ⟨below_then HT.out.below HT.out.below.size HB.out⟩
          by_cases c0 : j < n
          · have hlb := HT.out.lb
            have hlu := HT.out.lu
            have hls := HL.out.1
            obtain ⟨bk, hbk⟩ : ∃ b, bs[j]? = some b := ⟨_, List.getElem?_eq_getElem (show j < bs.length by omega)⟩
            obtain ⟨uk, huk⟩ : ∃ b, us[j]? = some b := ⟨_, List.getElem?_eq_getElem (show j < us.length by omega)⟩
            obtain ⟨⟨f, next⟩, hsk⟩ : ∃ b, ss[j]? = some b := ⟨_, List.getElem?_eq_getElem (show j < ss.length by omega)⟩
            obtain ⟨hd, hrd, hgd⟩ := HT.out.doc j bk uk (f, next) hbk huk hsk
            have a0 := pw_cell_below HB.out (kP_cell HT.out.hA j bk hbk)
            have a1 := pw_cell_below HB.out (kP_cell HT.out.hB j uk huk)
            have HSAME : Aside0 (∀ W : World, Below wr.heap.size wr W → Calls Try.prog 24 #[.pointer (some ⟨bk, 0, none⟩), .pointer (some ⟨uk, 0, none⟩)] W fun e w' => e = .returned (.bool true) ∧ Below W.heap.size W w') := ⟨fun W hW => rsame_calls _ _ f next W ((hd.below HB.out).below hW).doc ((hrd.below HB.out).below hW).rd hgd⟩
            have HI0 := Aside0.mk c0
            have c1 : decide (j < n) = true := decide_eq_true c0
            have c2 : decide ((j : Int) < (n : Int)) = true := decide_eq_true (by omega)
            have z0 : (0 ≤ (j : Int)) = True := eq_true (by omega)
            have z1 : ((j : Int) < (n : Int)) = True := eq_true (by omega)
            clear c0 hd hrd hgd hbk huk hsk hlb hlu hls
            go_upto_region 22 with (fail)
            go_region_held3 (fun w' => w'.cell? ⟨gA, j, none⟩ = some (.pointer (some ⟨bk, 0, none⟩)) ∧ w'.cell? ⟨gB, j, none⟩ = some (.pointer (some ⟨uk, 0, none⟩))) (first | go_keep | exact ⟨pw_cell_below HB3.out a0, pw_cell_below HB3.out a1⟩) (first
              | (go_at_call 24; (with_reducible refine (HSAME.out _ (by repeat (first | exact Below.refl _ _ | apply below_drew1 | apply pw_below_drewN))).mono ?_); rintro e W3 ⟨rfl, hb⟩; have HB3 := Aside0.mk (show Below wr.heap.size wr W3 from ⟨hb.os, hb.tape, hb.output, hb.size, hb.block⟩); clear hb)
              | fail)
            go_wp2_with fail
            go_roundg g1
            case measure => have := HK.out; omega
            case rel => exact ⟨j + 1, (by have := HI0.out; have := HN9.out; congr 1; unfold wrap64; omega), ⟨by have := HK.out; omega⟩, ⟨HI0.out⟩, ⟨below_then HB.out HB.out.size HB3.out⟩⟩
          · have c1 : decide (j < n) = false := decide_eq_false c0
            have c2 : decide ((j : Int) < (n : Int)) = false := decide_eq_false (by omega)
            clear c0
            go_wp2_with (first | (go_at_call 15; refine (lives_calls _).mono ?_; rintro e W4 ⟨rfl, hb4⟩; have HB4 := Aside0.mk (below_then HBW.out HBW.out.size hb4); clear hb4) | fail)
            go_ret
            exact ⟨rfl, HB4.out⟩
theorem lawDomKeeps.calls (k : Unit) (A : Option Addr) (c : Nat) (l : List S44) (r : Bool) (w : World) (hC : Kd.C k44 w A l.length l) (hc : l.length ≤ c) (h : ∀ p, p ∈ l → p.f4.size ≤ 140737488351232 ∧ p.f5.size ≤ 140737488351232) :
    Calls Try.prog 5 #[.slice A l.length c] w fun e w' => e = .returned (.bool true) ∧ Below w.heap.size w w' :=
  dkeeps_calls l A c w hC hc (fun p hp => by have := h p hp; omega)
theorem pure_DomKeeps (l : List S44) (h : ∀ p, p ∈ l → p.f4.size ≤ 140737488351232 ∧ p.f5.size ≤ 140737488351232) : ∃ k : Unit, ∀ p, p ∈ l → p.f4.size ≤ 140737488351232 ∧ p.f5.size ≤ 140737488351232 := ⟨(), h⟩
end Go.Proofs.Ytmkakofnabfinaa.P
end
