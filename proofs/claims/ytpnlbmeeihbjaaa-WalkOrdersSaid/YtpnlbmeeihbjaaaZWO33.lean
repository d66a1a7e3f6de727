/- WalkOrders: for every input the law returns true, and each argument reads behind the call as it read before. -/
import Derived.Test.YtpnlbmeeihbjaaaZWO28
import Derived.Test.YtpnlbmeeihbjaaaZWO29
import Derived.Test.YtpnlbmeeihbjaaaZWO32
section
set_option linter.unusedVariables false
set_option linter.unusedSimpArgs false
namespace Go.Proofs.Ytpnlbmeeihbjaaa.P
open Go.RowKit Go.Proofs.YtpnlbmeeihbjaaaW.PrintWords Go.Proofs.YtpnlbmeeihbjaaaW.PrintLast Go.Proofs.YtpnlbmeeihbjaaaW.PrintMore
attribute [local go_sem] max2_int min2_int max_two min_two max_three min_three max_four min_four
set_option linter.unusedVariables false
set_option linter.unusedSimpArgs false
theorem ints_from (l : List Int) (hl : l.length ≤ 9223372036854775807) : ∀ (d i : Nat), i + d = l.length → gouacheref01_Ints.l0 (d + 1) l l (l.length : Int) (i : Int) = some true
  | 0, i, h => by
    unfold gouacheref01_Ints.l0
    rw [if_neg (by omega)]
  | d + 1, i, h => by
    unfold gouacheref01_Ints.l0
    rw [if_pos (by omega), if_pos (by omega), if_pos (by omega), if_pos (by omega), if_pos rfl, show wrap64 ((i : Int) + 1) = ((i + 1 : Nat) : Int) by unfold wrap64; omega]
    exact ints_from l hl d (i + 1) (by omega)
theorem ints_same (l : List Int) (hl : l.length ≤ 9223372036854775807) : gouacheref01_Ints.f (l.length + 1) l l = some true := by
  unfold gouacheref01_Ints.f
  rw [if_pos rfl]
  exact ints_from l hl l.length 0 (by omega)
theorem ints_calls (u v : Value) (l : List Int) (w : World) (h : RdI w u l) (h2 : RdI w v l) (hl : l.length ≤ 9223372036854775807) : Calls Try.prog 13 #[u, v] w fun e w' => e = .returned (.bool true) ∧ Below w.heap.size w w' := by
  obtain ⟨A, c, rfl, hc, hC⟩ := h
  obtain ⟨A2, c2, rfl, hc2, hC2⟩ := h2
  refine (gouacheref01_Ints.calls _ A c l A2 c2 l true w hC hc hC2 hc2 (ints_same l hl)).mono ?_
  rintro e w' ⟨rfl, hd⟩
  exact ⟨rfl, by obtain ⟨m, rfl⟩ := hd; exact pw_below_drewN (Below.refl _ _) _⟩
def lv : List S52 := [⟨0, 1, 0, 0, ⟨#[98]⟩, ⟨#[]⟩⟩, ⟨0, 1, 1, 0, ⟨#[100]⟩, ⟨#[]⟩⟩, ⟨0, 2, 0, 0, ⟨#[99]⟩, ⟨#[]⟩⟩]
theorem lv_pre : pre (runA tree0 lv).1 1 = [1, 2, 4, 3] := by kernel_rfl
theorem lv_row : rowR (runA tree0 lv).1 3 = [2, 3] := by kernel_rfl
theorem lv_ch : (ch (runA tree0 lv).1 4).length = 3 := by kernel_rfl
theorem lv_cmp : cmpR (runA tree0 lv).1 4 3 = -1 := by
  have hg := good_tree lv
  have h1 : ∀ k ∈ pre (runA tree0 lv).1 1, look (runA tree0 lv).1 k ≠ none := fun k hk e => by
    obtain ⟨x, hx⟩ := pre_look hg hk
    rw [e] at hx; cases hx
  rw [cmp_some (by
    rintro (h | h | h)
    · exact h1 4 (by rw [lv_pre]; simp) h
    · exact h1 3 (by rw [lv_pre]; simp) h
    · exact absurd h (by decide)), lv_pre]
  rfl
theorem lv_plc : plc1 (runA tree0 lv).1 3 = 2 ∧ plc2 (runA tree0 lv).1 3 = 1 := by
  unfold plc1 plc2
  rw [lv_row]
  exact ⟨rfl, rfl⟩
theorem lv_C (w : World) (g : Nat) (h : w.heap[g]? = some (.cells #[.int .i64 0, .int .i64 1, .int .i64 0, .int .i64 0, .string ⟨#[98]⟩, .string ⟨#[]⟩, .int .i64 0, .int .i64 1, .int .i64 1, .int .i64 0, .string ⟨#[100]⟩, .string ⟨#[]⟩, .int .i64 0, .int .i64 2, .int .i64 0, .int .i64 0, .string ⟨#[99]⟩, .string ⟨#[]⟩] 52 (0, 0))) : Kd.C k52 w (some ⟨g, 0, none⟩) lv.length lv := by
  refine ⟨rfl, by decide, fun _ => ⟨⟨g, 0, none⟩, rfl, fun j p hj => ?_⟩⟩
  rcases j with _ | _ | _ | j
  · obtain rfl := Option.some.inj hj
    refine ⟨_, rfl, k52_mk w _, fun m u hm => ?_⟩
    rcases m with _ | _ | _ | _ | _ | _ | m <;> first | exact (blk_cell h _).trans hm | simp at hm
  · obtain rfl := Option.some.inj hj
    refine ⟨_, rfl, k52_mk w _, fun m u hm => ?_⟩
    rcases m with _ | _ | _ | _ | _ | _ | m <;> first | exact (blk_cell h _).trans hm | simp at hm
  · obtain rfl := Option.some.inj hj
    refine ⟨_, rfl, k52_mk w _, fun m u hm => ?_⟩
    rcases m with _ | _ | _ | _ | _ | _ | m <;> first | exact (blk_cell h _).trans hm | simp at hm
  · simp [lv] at hj
set_option maxHeartbeats 8000000 in
set_option maxRecDepth 100000 in
theorem lives_calls (w : World) : Calls Try.prog 10 #[] w fun e w' => e = .returned (.bool true) ∧ Below w.heap.size w w' := by
  have hu52 := Try.underlying52
  have hu29 := Try.underlying29
  have HG := Aside0.mk (good_tree lv)
  have HPR := Aside0.mk lv_pre
  have HCH := Aside0.mk lv_ch
  have HCM := Aside0.mk lv_cmp
  have HPL := Aside0.mk lv_plc
  have HT : Aside0 (∀ (W : World) (g : Nat), W.heap[g]? = some (.cells #[.int .i64 0, .int .i64 1, .int .i64 0, .int .i64 0, .string ⟨#[98]⟩, .string ⟨#[]⟩, .int .i64 0, .int .i64 1, .int .i64 1, .int .i64 0, .string ⟨#[100]⟩, .string ⟨#[]⟩, .int .i64 0, .int .i64 2, .int .i64 0, .int .i64 0, .string ⟨#[99]⟩, .string ⟨#[]⟩] 52 (0, 0)) →
      Calls Try.prog 11 #[.slice (some ⟨g, 0, none⟩) 3 3] W fun e w' => ∃ v u, e = .returned (.tuple #[v, u]) ∧ DocF w' v (runA tree0 lv).1 (runA tree0 lv).2 ∧ Below W.heap.size W w') := ⟨fun W g h => by
    refine (tree_calls lv (some ⟨g, 0, none⟩) 3 W (lv_C W g h) (by decide) (by intro p hp; simp [lv] at hp; rcases hp with rfl | rfl | rfl <;> decide)).mono ?_
    rintro e w' ⟨v, u, he, hd, _, hb⟩
    exact ⟨v, u, he, hd, hb⟩⟩
  generalize (runA tree0 lv).1 = f at HG HPR HCH HCM HPL HT
  generalize (runA tree0 lv).2 = next at HG HT
  go_enter Try.func10, Try.ntmps10
  go_upto_region 2 with (first | (go_at_call 11; refine (HT.out _ _ (blk_new _ _)).mono ?_; rintro e W1 ⟨v, u, rfl, hd, hb1⟩; have HD := Aside0.mk hd; have HB1 := Aside0.mk (below_then (below_alloc (Below.refl w.heap.size w) _) (below_alloc (Below.refl w.heap.size w) _).size hb1); clear hd hb1) | fail)
  go_upto_region 3 with (first | (go_at_call 22; refine (place_calls v f next 3 _ HD.out HG.out).mono ?_; rintro e W2 ⟨rfl, hb2⟩; rw [HPL.out.1, HPL.out.2]; have HD2 := Aside0.mk (HD.out.below hb2); have HB2 := Aside0.mk (below_then HB1.out HB1.out.size hb2); clear hb2) | fail)
  go_wp2_with (first
    | (go_at_call 15; refine (order_calls v f next _ HD2.out HG.out).mono ?_; rintro e W3 ⟨o, rfl, hR, hb3⟩; rw [HPR.out] at hR; have HR3 := Aside0.mk (RdI.of_R hR); have HB23 := Aside0.mk hb3; obtain ⟨A, c, rfl, _, _⟩ := RdI.of_R hR; clear hb3 hR)
    | (go_at_call 13; refine (ints_calls _ _ [1, 2, 4, 3] _ (HR3.out.below (below_alloc (Below.refl _ _) _)) (RdI.of_R (own_laid (xs := [1, 2, 4, 3]) (n := 4) (cap := 4) (base := 0) (Nat.zero_le _) (blk_new _ _) rfl (Nat.le_refl _) (show 4 ≤ maxLen by decide) rfl rfl (fun _ => True) trivial)) (by simp)).mono ?_; rintro e W4 ⟨rfl, hb4⟩; have HB24 := Aside0.mk (below_then (below_alloc HB23.out _) (below_alloc HB23.out _).size hb4); clear hb4)
    | (go_at_call 21; refine (wcmp_calls v f next 4 3 _ (HD2.out.below HB24.out) HG.out).mono ?_; rintro e W5 ⟨rfl, hb5⟩; rw [HCM.out]; have HB25 := Aside0.mk (below_then HB24.out HB24.out.size hb5); clear hb5)
    | (go_at_call 18; refine (wdepth_calls v f next 4 _ (HD2.out.below HB25.out) HG.out).mono ?_; rintro e W6 ⟨rfl, hb6⟩; rw [HCH.out]; have HB26 := Aside0.mk (below_then HB25.out HB25.out.size hb6); clear hb6)
    | fail)
  go_ret
  exact ⟨rfl, below_then HB2.out HB2.out.size HB26.out⟩
end Go.Proofs.Ytpnlbmeeihbjaaa.P
end
section
set_option linter.unusedVariables false
set_option linter.unusedSimpArgs false
namespace Go.Proofs.Ytpnlbmeeihbjaaa.P
open Go.RowKit Go.Proofs.YtpnlbmeeihbjaaaW.PrintWords Go.Proofs.YtpnlbmeeihbjaaaW.PrintLast Go.Proofs.YtpnlbmeeihbjaaaW.PrintMore
attribute [local go_sem] max2_int min2_int max_two min_two max_three min_three max_four min_four
set_option linter.unusedVariables false
set_option linter.unusedSimpArgs false
theorem light8 (l : List S52) (A : Option Addr) (c : Nat) (w : World) (hC : Kd.C k52 w A l.length l) (hc : l.length ≤ c) : ∃ b, Calls Try.prog 9 #[.slice A l.length c, .int .i64 80] w fun e w' => e = .returned (.bool b) ∧ Below w.heap.size w w' := by
  obtain ⟨k, b, hb⟩ := light_some l 80 hC.2.1
  refine ⟨b, (gouacheref07_Light.calls k A c l 80 b w hC hc hb).mono ?_⟩
  rintro e w' ⟨rfl, hd⟩
  exact ⟨rfl, hd⟩
section
variable {f : Nat → Option S40} {next : Int}
theorem up_root (hg : Good f next) {k : Int} {x : S40} (hk : look f k = some x) (h : upR f k = []) : k = 1 := by
  by_cases e : k = 1
  · exact e
  · obtain ⟨p, hp, _⟩ := hg.par k x hk e
    have := hg.dom _ p hp
    rw [(up_next hg hk (by omega)).1] at h
    cases h
theorem up_some (hg : Good f next) {k : Int} (h : upR f k ≠ []) : ∃ x, look f k = some x ∧ 0 < x.f2 ∧ upR f k = x.f2 :: upR f x.f2 ∧ (look f x.f2).isSome = true := by
  cases e : look f k with
  | none => exact absurd (up_none e) h
  | some x =>
    by_cases c : 0 < x.f2
    · refine ⟨x, rfl, c, (up_next hg e c).1, ?_⟩
      have hk1 : k ≠ 1 := fun h1 => by
        subst h1
        obtain ⟨r, hr, hr0⟩ := hg.root
        rw [e] at hr
        obtain rfl := Option.some.inj hr
        omega
      obtain ⟨p, hp, _⟩ := hg.par k x e hk1
      rw [hp]; rfl
    · exact absurd (up_stop hg e c) h
end
set_option maxHeartbeats 32000000 in
set_option maxRecDepth 100000 in
theorem ups_calls (l : List S52) (A : Option Addr) (c : Nat) (id : Int) (w : World) (hC : Kd.C k52 w A l.length l) (hc : l.length ≤ c) (hs : ∀ p, p ∈ l → p.f4.size ≤ 140737488355328 ∧ p.f5.size ≤ 140737488355328) :
    Calls Try.prog 4 #[.slice A l.length c, .int .i64 id] w fun e w' => e = .returned (.bool true) ∧ Below w.heap.size w w' := by
  obtain ⟨b, hlight⟩ := light8 l A c w hC hc
  have HLI := Aside0.mk hlight
  have HT : Aside0 (∀ W, Below w.heap.size w W → Calls Try.prog 11 #[.slice A l.length c] W fun e w' => ∃ v u, e = .returned (.tuple #[v, u]) ∧ DocF w' v (runA tree0 l).1 (runA tree0 l).2 ∧ RD w' u (runA tree0 l).1 (runA tree0 l).2 ∧ Below W.heap.size W w') := ⟨fun W hW => tree_calls l A c W (Kd.C_below hC hW) hc hs⟩
  have HG := Aside0.mk (good_tree l)
  generalize (runA tree0 l).1 = f at HT HG
  generalize (runA tree0 l).2 = next at HT HG
  have hu40 := Try.underlying40
  have hu29 := Try.underlying29
  clear hlight hC hs hc
  cases b with
  | false =>
    go_enter Try.func4, Try.ntmps4
    go_wp2_with (first
      | (go_at_call 9; refine HLI.out.mono ?_; rintro e W1 ⟨rfl, hb1⟩; have HB1 := Aside0.mk hb1; clear hb1)
      | (go_at_call 10; refine (lives_calls _).mono ?_; rintro e W2 ⟨rfl, hb2⟩; have HB2 := Aside0.mk (below_then HB1.out HB1.out.size hb2); clear hb2)
      | fail)
    go_ret
    exact ⟨rfl, HB2.out⟩
  | true =>
    go_enter Try.func4, Try.ntmps4
    go_upto_region 6 with (first
      | (go_at_call 9; refine HLI.out.mono ?_; rintro e W1 ⟨rfl, hb1⟩; have HB1 := Aside0.mk hb1; clear hb1)
      | (go_at_call 11; refine (HT.out _ HB1.out).mono ?_; rintro e W2 ⟨v, u, rfl, hd, hr, hb2⟩; have HD := Aside0.mk hd; have HR := Aside0.mk hr; have HB2 := Aside0.mk (below_then HB1.out HB1.out.size hb2); clear hd hr hb2)
      | (go_at_call 16; refine (up_calls v f next id _ HD.out HG.out).mono ?_; rintro e W3 ⟨o, rfl, hR, hb3⟩; have HO := Aside0.mk (RdI.of_R hR); have HB23 := Aside0.mk hb3; have HB3 := Aside0.mk (below_then HB2.out HB2.out.size hb3); clear hb3 hR)
      | fail)
    obtain ⟨L, hL⟩ : ∃ L, L = upR f id := ⟨_, rfl⟩
    rw [← hL] at HO
    obtain ⟨Au, cu, rfl, hcu, hCu⟩ := HO.out
    have HCU := Aside0.mk hCu
    have HLL : Aside0 (L = upR f id ∧ L.length ≤ 512) := ⟨hL, by rw [hL, up_len]; have := ch_le HG.out id; omega⟩
    clear hL hcu hCu
    go_wp2_with fail
    go_loopg [8, 30] (L.length + 1) (fun kq v8 v30 w' => ∃ (at_ : Int) (i : Nat) (dn : List Int), v8 = .int .i64 at_ ∧ v30 = .int .i64 i ∧ Aside0 (i + kq = L.length + 1) ∧ Aside0 (dn.length = i) ∧ Aside0 (L = dn ++ upR f at_) ∧ Aside0 ((look f at_).isSome = (look f id).isSome) ∧ Aside0 (Below W3.heap.size W3 w'))
    case atStart => exact ⟨id, 0, [], rfl, rfl, ⟨by omega⟩, ⟨rfl⟩, ⟨by rw [HLL.out.1]; rfl⟩, ⟨rfl⟩, ⟨Below.refl _ _⟩⟩
    case round =>
      obtain ⟨k, i, dn, rfl, rfl, HK, HDN, HE, HIS, HBW⟩ := hrel
      cases gk with
      | zero => exact absurd HK.out (by have := congrArg List.length HE.out; have := HDN.out; simp at *; omega)
      | succ g0 =>
        by_cases c0 : i < L.length
        · have hne : upR f k ≠ [] := fun h => by have h2 := congrArg List.length HE.out; rw [h] at h2; have := HDN.out; simp at h2; omega
          obtain ⟨x, hx, hx2, hup, hsx⟩ := up_some HG.out hne
          obtain ⟨ad, cc, rfl, hcl, hK2, hcell⟩ := Kd.C_get (Kd.C_below HCU.out HBW.out) (0 : Int) (i : Int) (by omega) (by omega)
          have hk0 : cc = [.int .i64 (L.getD i 0)] := hK2
          have hq := hcell 0 _ (by rw [hk0]; rfl)
          have hLi : L.getD i 0 = x.f2 := by rw [HE.out, hup, ← HDN.out]; simp
          rw [hLi, Int.toNat_natCast, show i * (Kd.int .i64).sz + 0 = i by show i * 1 + 0 = _; omega] at hq
          have HX := Aside0.mk (And.intro hx (And.intro hup hsx))
          have HCM : Aside0 (cmpR f x.f2 id = -1) := ⟨cmp_up HG.out (by rw [← HLL.out.1, HE.out, hup]; simp)⟩
          have HBW2 := Aside0.mk (below_then HB23.out HB23.out.size HBW.out)
          have c1 : decide (i < L.length) = true := decide_eq_true c0
          have z0 : (0 ≤ (i : Int)) = True := eq_true (by omega)
          have z1 : ((i : Int) < (L.length : Int)) = True := eq_true (by omega)
          have HI0 := Aside0.mk c0
          clear hne hcl hK2 hcell hk0 hLi hx hx2 hup hsx c0
          go_wp2_with (first
            | (go_at_call 20; refine (copy_calls v f next k W2 _ HD.out HBW2.out (HG.out.sizes k).1 (HG.out.sizes k).2).mono ?_; rintro e W4 ⟨cs, rfl, hM, hb4⟩; rw [HX.out.1] at hM ⊢; obtain ⟨A3, c3, A4, c4, rfl⟩ := k40_cellsM (x := x) hM; have HB4 := Aside0.mk (below_alloc hb4 (.cells #[.int .i64 x.f0, .string x.f1, .int .i64 x.f2, .slice A3 x.f3.length c3, .slice A4 x.f4.length c4] 40)); clear hM hb4)
            | (go_at_call 21; refine (wcmp_calls v f next x.f2 id _ (HD.out.below (below_then HBW2.out HBW2.out.size HB4.out)) HG.out).mono ?_; rintro e W5 ⟨rfl, hb5⟩; rw [HCM.out]; have HB5 := Aside0.mk (below_then HBW.out HBW.out.size (below_then HB4.out HB4.out.size hb5)); clear hb5)
            | fail)
          go_roundg g0
          case measure => have := HK.out; omega
          case rel => exact ⟨x.f2, i + 1, dn ++ [x.f2], rfl, (by have := HI0.out; have := HLL.out.2; congr 1; unfold wrap64; omega), ⟨by have := HK.out; omega⟩, ⟨by have := HDN.out; simp; omega⟩, ⟨by rw [HE.out, HX.out.2.1]; simp⟩, ⟨by rw [← HIS.out, HX.out.1, HX.out.2.2]; rfl⟩, HB5⟩
        · have c1 : decide (i < L.length) = false := decide_eq_false c0
          have hup : upR f k = [] := by
            have h2 := congrArg List.length HE.out
            have := HDN.out
            simp at h2
            exact List.eq_nil_of_length_eq_zero (by omega)
          have hLd : L.length = (upR f id).length := by rw [← HLL.out.1]
          have HBW2 := Aside0.mk (below_then HB23.out HB23.out.size HBW.out)
          cases hl : look f id with
          | none =>
            have hk1 : (k == 1) = false := by
              have h3 := HIS.out
              rw [hl] at h3
              obtain ⟨r, hr, _⟩ := HG.out.root
              have : k ≠ 1 := fun e => by rw [e, hr] at h3; cases h3
              simpa using this
            have hL0 : L.length = 0 := by rw [hLd, up_none hl]; rfl
            have HL := Aside0.mk hl
            have HCH : Aside0 (((ch f id).length : Int) = 0) := ⟨by rw [ch_none id hl]; rfl⟩
            obtain rfl := List.eq_nil_of_length_eq_zero hL0
            clear hl hup hLd c0 hL0
            go_wp2_with (first
              | (go_at_call 20; refine (copy_calls v f next id W2 _ HD.out HBW2.out (HG.out.sizes id).1 (HG.out.sizes id).2).mono ?_; rintro e W4 ⟨cs, rfl, hM, hb4⟩; rw [HL.out] at hM ⊢; obtain ⟨A3, c3, A4, c4, rfl⟩ := k40_cellsM (x := z40) hM; have HB4 := Aside0.mk (below_then HBW2.out HBW2.out.size (below_alloc hb4 (.cells #[.int .i64 z40.f0, .string z40.f1, .int .i64 z40.f2, .slice A3 z40.f3.length c3, .slice A4 z40.f4.length c4] 40))); clear hM hb4)
              | (go_at_call 18; refine (wdepth_calls v f next id _ (HD.out.below HB4.out) HG.out).mono ?_; rintro e W5 ⟨rfl, hb5⟩; rw [HCH.out]; have HB5 := Aside0.mk (below_then HB4.out HB4.out.size hb5); clear hb5)
              | (go_at_call 10; refine (lives_calls _).mono ?_; rintro e WL ⟨rfl, hbl⟩; have HBL := Aside0.mk (below_then HB5.out HB5.out.size hbl); clear hbl)
              | fail)
            go_ret
            exact ⟨rfl, below_then HB2.out HB2.out.size HBL.out⟩
          | some y =>
            obtain rfl : k = 1 := by
              have h3 := HIS.out
              rw [hl] at h3
              cases hk : look f k with
              | none => rw [hk] at h3; cases h3
              | some z => exact up_root HG.out hk hup
            have HL := Aside0.mk hl
            obtain ⟨n, hn⟩ : ∃ n : Int, n = ((ch f id).length : Int) := ⟨_, rfl⟩
            have HCH : Aside0 (((ch f id).length : Int) = n) := ⟨hn.symm⟩
            have d0 : (wrap64 ((L.length : Int) + 1) == n) = true := by rw [hn, hLd, up_len]; have := ch_pos HG.out hl; have := ch_le HG.out id; simp; unfold wrap64; omega
            clear hl hup hLd c0 hn
            go_wp2_with (first
              | (go_at_call 20; refine (copy_calls v f next id W2 _ HD.out HBW2.out (HG.out.sizes id).1 (HG.out.sizes id).2).mono ?_; rintro e W4 ⟨cs, rfl, hM, hb4⟩; rw [HL.out] at hM ⊢; obtain ⟨A3, c3, A4, c4, rfl⟩ := k40_cellsM (x := y) hM; have HB4 := Aside0.mk (below_then HBW2.out HBW2.out.size (below_alloc hb4 (.cells #[.int .i64 y.f0, .string y.f1, .int .i64 y.f2, .slice A3 y.f3.length c3, .slice A4 y.f4.length c4] 40))); clear hM hb4)
              | (go_at_call 18; refine (wdepth_calls v f next id _ (HD.out.below HB4.out) HG.out).mono ?_; rintro e W5 ⟨rfl, hb5⟩; rw [HCH.out]; have HB5 := Aside0.mk (below_then HB4.out HB4.out.size hb5); clear hb5)
              | (go_at_call 10; refine (lives_calls _).mono ?_; rintro e WL ⟨rfl, hbl⟩; have HBL := Aside0.mk (below_then HB5.out HB5.out.size hbl); clear hbl)
              | fail)
            go_ret
            exact ⟨rfl, below_then HB2.out HB2.out.size HBL.out⟩
theorem lawWalkUps.calls (k : Unit) (A : Option Addr) (c : Nat) (l : List S52) (id : Int) (r : Bool) (w : World) (hC : Kd.C k52 w A l.length l) (hc : l.length ≤ c) (h : ∀ p, p ∈ l → p.f4.size ≤ 140737488351232 ∧ p.f5.size ≤ 140737488351232) :
    Calls Try.prog 4 #[.slice A l.length c, .int .i64 id] w fun e w' => e = .returned (.bool true) ∧ Below w.heap.size w w' :=
  ups_calls l A c id w hC hc (fun p hp => by have := h p hp; omega)
end Go.Proofs.Ytpnlbmeeihbjaaa.P
end
section
set_option linter.unusedVariables false
set_option linter.unusedSimpArgs false
namespace Go.Proofs.Ytpnlbmeeihbjaaa.P
open Go.RowKit Go.Proofs.YtpnlbmeeihbjaaaW.PrintWords Go.Proofs.YtpnlbmeeihbjaaaW.PrintLast Go.Proofs.YtpnlbmeeihbjaaaW.PrintMore
attribute [local go_sem] max2_int min2_int max_two min_two max_three min_three max_four min_four
set_option linter.unusedVariables false
set_option linter.unusedSimpArgs false
section
variable {f : Nat → Option S40} {next : Int}
theorem bes_none {k s : Int} (h : look f k = none) : besR f k s = 0 := by unfold besR; rw [idx_none h, if_neg (by omega)]
theorem plc_none {k : Int} (h : look f k = none) : plc1 f k = 0 ∧ plc2 f k = 0 := by unfold plc1 plc2; rw [idx_none h]; exact ⟨rfl, rfl⟩
theorem plc_some (hg : Good f next) {k : Int} {x : S40} (h : look f k = some x) : 1 ≤ plc1 f k ∧ plc1 f k ≤ 1048576 ∧ 1 ≤ plc2 f k ∧ plc2 f k ≤ 1048576 := by
  obtain ⟨i, hi, _, e⟩ := idx_row hg h
  have := rowR_len hg k
  unfold plc1 plc2
  rw [e, if_neg (by omega), if_neg (by omega)]
  omega
theorem plc_next (hg : Good f next) {k : Int} {x : S40} (h : look f k = some x) (hn : besR f k 1 ≠ 0) : plc1 f (besR f k 1) = plc1 f k + 1 ∧ plc2 f (besR f k 1) = plc2 f k - 1 := by
  obtain ⟨i, hi, e1, e2⟩ := idx_row hg h
  have hb : besR f k 1 = (rowR f k).getD (i + 1) 0 ∧ i + 1 < (rowR f k).length := by
    unfold besR at hn ⊢
    rw [e2] at hn ⊢
    by_cases c : 0 ≤ (i : Int) ∧ 0 ≤ (i : Int) + 1 ∧ (i : Int) + 1 < (rowR f k).length
    · rw [if_pos c, show ((i : Int) + 1).toNat = i + 1 by omega]; exact ⟨rfl, by omega⟩
    · rw [if_neg c] at hn; exact absurd rfl hn
  obtain ⟨hb1, hb2⟩ := hb
  have hg2 : (rowR f k).getD (i + 1) 0 = (rowR f k)[i + 1] := by simp [hb2]
  have hm : besR f k 1 ∈ rowR f k := by rw [hb1, hg2]; exact List.getElem_mem hb2
  obtain ⟨hr, _⟩ := rowR_same hg hm
  have hI : idxI (rowR f (besR f k 1)) (besR f k 1) = ((i + 1 : Nat) : Int) := by rw [hr, hb1, hg2]; exact idxI_at (rowR_nodup hg k) hb2
  unfold plc1 plc2
  rw [hI, e2, hr, if_neg (by omega), if_neg (by omega), if_neg (by omega), if_neg (by omega)]
  omega
theorem cmp_three (a b : Int) : cmpR f a b = -1 ∨ cmpR f a b = 0 ∨ cmpR f a b = 1 := by
  unfold cmpR
  split
  · exact .inr (.inl rfl)
  · split
    · exact .inl rfl
    · exact .inr (.inr rfl)
end
set_option maxHeartbeats 32000000 in
set_option maxRecDepth 100000 in
theorem orders_calls (l : List S52) (A : Option Addr) (c : Nat) (a b : Int) (w : World) (hC : Kd.C k52 w A l.length l) (hc : l.length ≤ c) (hs : ∀ p, p ∈ l → p.f4.size ≤ 140737488355328 ∧ p.f5.size ≤ 140737488355328) :
    Calls Try.prog 7 #[.slice A l.length c, .int .i64 a, .int .i64 b] w fun e w' => e = .returned (.bool true) ∧ Below w.heap.size w w' := by
  obtain ⟨b, hlight⟩ := light8 l A c w hC hc
  have HLI := Aside0.mk hlight
  have HT : Aside0 (∀ W, Below w.heap.size w W → Calls Try.prog 11 #[.slice A l.length c] W fun e w' => ∃ v u, e = .returned (.tuple #[v, u]) ∧ DocF w' v (runA tree0 l).1 (runA tree0 l).2 ∧ RD w' u (runA tree0 l).1 (runA tree0 l).2 ∧ Below W.heap.size W w') := ⟨fun W hW => tree_calls l A c W (Kd.C_below hC hW) hc hs⟩
  have HG := Aside0.mk (good_tree l)
  generalize (runA tree0 l).1 = f at HT HG
  generalize (runA tree0 l).2 = next at HT HG
  have hu40 := Try.underlying40
  have hu29 := Try.underlying29
  clear hlight hC hs hc
  cases b with
  | false =>
    go_enter Try.func7, Try.ntmps7
    go_wp2_with (first
      | (go_at_call 9; refine HLI.out.mono ?_; rintro e W1 ⟨rfl, hb1⟩; have HB1 := Aside0.mk hb1; clear hb1)
      | (go_at_call 10; refine (lives_calls _).mono ?_; rintro e W2 ⟨rfl, hb2⟩; have HB2 := Aside0.mk (below_then HB1.out HB1.out.size hb2); clear hb2)
      | fail)
    go_ret
    exact ⟨rfl, HB2.out⟩
  | true =>
    go_enter Try.func7, Try.ntmps7
    obtain ⟨n, hn⟩ : ∃ n, n = besR f a 1 := ⟨_, rfl⟩
    have HN := Aside0.mk hn.symm
    obtain ⟨xa, hxa⟩ : ∃ y, y = (look f a).getD z40 := ⟨_, rfl⟩
    obtain ⟨ta, hta⟩ : ∃ y, y = (look f a).isSome := ⟨_, rfl⟩
    obtain ⟨xb, hxb⟩ : ∃ y, y = (look f b).getD z40 := ⟨_, rfl⟩
    obtain ⟨tb, htb⟩ : ∃ y, y = (look f b).isSome := ⟨_, rfl⟩
    have HLA := Aside0.mk (And.intro hxa.symm hta.symm)
    have HLB := Aside0.mk (And.intro hxb.symm htb.symm)
    have hc3 := cmp_three (f := f) a b
    have hca := cmp_anti HG.out a b
    have hcz := cmp_zero (f := f) a b
    obtain ⟨c, hc⟩ : ∃ c, c = cmpR f a b := ⟨_, rfl⟩
    obtain ⟨c', hc'⟩ : ∃ c, c = cmpR f b a := ⟨_, rfl⟩
    have HC := Aside0.mk (And.intro hc.symm hc'.symm)
    rw [← hc] at hc3 hca hcz
    rw [← hc'] at hca
    have e1 : (c != wrap64 (-c')) = false := by rw [show wrap64 (-c') = c by unfold wrap64; omega]; simp
    obtain ⟨m, hm⟩ : ∃ m, m = besR f n (-1) := ⟨_, rfl⟩
    obtain ⟨c3, hc4⟩ : ∃ m, m = cmpR f a n := ⟨_, rfl⟩
    have HQ := Aside0.mk (And.intro hm.symm hc4.symm)
    obtain ⟨p1, hp1⟩ : ∃ m, m = plc1 f a := ⟨_, rfl⟩
    obtain ⟨p2, hp2⟩ : ∃ m, m = plc2 f a := ⟨_, rfl⟩
    obtain ⟨q1, hq1⟩ : ∃ m, m = plc1 f n := ⟨_, rfl⟩
    obtain ⟨q2, hq2⟩ : ∃ m, m = plc2 f n := ⟨_, rfl⟩
    have HP := Aside0.mk (And.intro hp1.symm (And.intro hp2.symm (And.intro hq1.symm hq2.symm)))
    have hF : (ta = false → n = 0 ∧ p1 = 0) ∧ (ta = true → 1 ≤ p1 ∧ p1 ≤ 1048576 ∧ 1 ≤ p2 ∧ p2 ≤ 1048576) ∧ (n ≠ 0 → m = a ∧ c3 = -1 ∧ q1 = p1 + 1 ∧ q2 = p2 - 1) ∧ (c = 0 ↔ ta = false ∨ tb = false ∨ a = b) := by
      subst hn hxa hta hxb htb hm hc4 hp1 hp2 hq1 hq2
      refine ⟨fun h => ?_, fun h => ?_, fun h => ?_, ?_⟩
      · have h0 : look f a = none := Option.isSome_eq_false_iff.1 h |> Option.isNone_iff_eq_none.1
        exact ⟨bes_none h0, (plc_none h0).1⟩
      · obtain ⟨x, hx⟩ := Option.isSome_iff_exists.1 h
        exact plc_some HG.out hx
      · cases hx : look f a with
        | none => exact absurd (bes_none hx) h
        | some x => exact ⟨(bes_back HG.out hx h).1, cmp_next HG.out hx h, (plc_next HG.out hx h).1, (plc_next HG.out hx h).2⟩
      · rw [hcz]
        cases look f a <;> cases look f b <;> simp
    clear hn hxa hta hxb htb hc3 hca hcz hc hc' hm hc4 hp1 hp2 hq1 hq2
    obtain ⟨hF1, hF2, hF3, hF4⟩ := hF
    cases d0 : (a == b) <;> cases d1 : (n == 0) <;> cases ta <;> cases tb
    all_goals have hab : (a == b) = true ↔ a = b := beq_iff_eq
    all_goals have hnb : (n == 0) = true ↔ n = 0 := beq_iff_eq
    all_goals first
      | (exfalso; simp_all; done)
      | (have z0 : (c == 0) = true := by simp_all)
      | (have z0 : (c == 0) = false := by simp_all)
    all_goals first
      | (have z1 : (n != 0) = false := by simp_all)
      | (have z1 : (n != 0) = true := by simp_all
         have z2 : (m != a) = false := by simp_all
         have z3 : (c3 != -1) = false := by simp_all
         have z4 : (q1 == wrap64 (p1 + 1)) = true := by have := hF2 rfl; have := hF3 (fun h => by rw [h] at d1; simp at d1); rw [show wrap64 (p1 + 1) = q1 by unfold wrap64; omega]; simp
         have z5 : (q2 == wrap64 (p2 - 1)) = true := by have := hF2 rfl; have := hF3 (fun h => by rw [h] at d1; simp at d1); rw [show wrap64 (p2 - 1) = q2 by unfold wrap64; omega]; simp)
    all_goals first
      | (have z6 : decide (0 < p1) = true := decide_eq_true (by have := hF2 rfl; omega))
      | (have z6 : decide (0 < p1) = false := decide_eq_false (by have := hF1 rfl; omega))
    all_goals clear hF1 hF2 hF3 hF4 hab hnb
    all_goals (go_wp2_with (first
      | (go_at_call 9; refine HLI.out.mono ?_; rintro e W1 ⟨rfl, hb1⟩; have HB1 := Aside0.mk hb1; clear hb1)
      | (go_at_call 11; refine (HT.out _ HB1.out).mono ?_; rintro e W2 ⟨v, u, rfl, hd, hr, hb2⟩; have HD := Aside0.mk hd; have HR := Aside0.mk hr; have HB2 := Aside0.mk (below_then HB1.out HB1.out.size hb2); clear hd hr hb2; have HX := Aside0.mk (Below.refl W2.heap.size W2))
      | (go_at_call 21; (with_reducible refine (wcmp_calls v f next a b _ (HD.out.below HX.out) HG.out).mono ?_); rintro e W ⟨rfl, hb⟩; rw [HC.out.1]; have HX := Aside0.mk (below_then HX.out HX.out.size hb); clear hb)
      | (go_at_call 21; (with_reducible refine (wcmp_calls v f next b a _ (HD.out.below HX.out) HG.out).mono ?_); rintro e W ⟨rfl, hb⟩; rw [HC.out.2]; have HX := Aside0.mk (below_then HX.out HX.out.size hb); clear hb)
      | (go_at_call 21; (with_reducible refine (wcmp_calls v f next a n _ (HD.out.below HX.out) HG.out).mono ?_); rintro e W ⟨rfl, hb⟩; rw [HQ.out.2]; have HX := Aside0.mk (below_then HX.out HX.out.size hb); clear hb)
      | (go_at_call 20; (with_reducible refine (copy_calls v f next a W2 _ HD.out HX.out (HG.out.sizes a).1 (HG.out.sizes a).2).mono ?_); rintro e W4 ⟨cs, rfl, hM, hb⟩; rw [HLA.out.2]; rw [HLA.out.1] at hM; obtain ⟨A4, c4, B4, d4, rfl⟩ := k40_cellsM (x := xa) hM; have HX := Aside0.mk (below_alloc (below_then HX.out HX.out.size hb) (.cells #[.int .i64 xa.f0, .string xa.f1, .int .i64 xa.f2, .slice A4 xa.f3.length c4, .slice B4 xa.f4.length d4] 40)); clear hM hb)
      | (go_at_call 20; (with_reducible refine (copy_calls v f next b W2 _ HD.out HX.out (HG.out.sizes b).1 (HG.out.sizes b).2).mono ?_); rintro e W5 ⟨cs, rfl, hM, hb⟩; rw [HLB.out.2]; rw [HLB.out.1] at hM; obtain ⟨A5, c5, B5, d5, rfl⟩ := k40_cellsM (x := xb) hM; have HX := Aside0.mk (below_alloc (below_then HX.out HX.out.size hb) (.cells #[.int .i64 xb.f0, .string xb.f1, .int .i64 xb.f2, .slice A5 xb.f3.length c5, .slice B5 xb.f4.length d5] 40)); clear hM hb)
      | (go_at_call 23; (with_reducible refine (after_calls v f next a _ (HD.out.below HX.out) HG.out).mono ?_); rintro e W ⟨rfl, hb⟩; rw [HN.out]; have HX := Aside0.mk (below_then HX.out HX.out.size hb); clear hb)
      | (go_at_call 25; (with_reducible refine (before_calls v f next n _ (HD.out.below HX.out) HG.out).mono ?_); rintro e W ⟨rfl, hb⟩; rw [HQ.out.1]; have HX := Aside0.mk (below_then HX.out HX.out.size hb); clear hb)
      | (go_at_call 22; (with_reducible refine (place_calls v f next a _ (HD.out.below HX.out) HG.out).mono ?_); rintro e W ⟨rfl, hb⟩; rw [HP.out.1, HP.out.2.1]; have HX := Aside0.mk (below_then HX.out HX.out.size hb); clear hb)
      | (go_at_call 22; (with_reducible refine (place_calls v f next n _ (HD.out.below HX.out) HG.out).mono ?_); rintro e W ⟨rfl, hb⟩; rw [HP.out.2.2.1, HP.out.2.2.2]; have HX := Aside0.mk (below_then HX.out HX.out.size hb); clear hb)
      | (go_at_call 10; refine (lives_calls _).mono ?_; rintro e WL ⟨rfl, hb⟩; have HX := Aside0.mk (below_then HX.out HX.out.size hb); clear hb)
      | fail))
    all_goals go_ret
    all_goals exact ⟨rfl, below_then HB2.out HB2.out.size HX.out⟩
theorem lawWalkOrders.calls (k : Unit) (A : Option Addr) (c : Nat) (l : List S52) (a : Int) (b : Int) (r : Bool) (w : World) (hC : Kd.C k52 w A l.length l) (hc : l.length ≤ c) (h : ∀ p, p ∈ l → p.f4.size ≤ 140737488351232 ∧ p.f5.size ≤ 140737488351232) :
    Calls Try.prog 7 #[.slice A l.length c, .int .i64 a, .int .i64 b] w fun e w' => e = .returned (.bool true) ∧ Below w.heap.size w w' :=
  orders_calls l A c a b w hC hc (fun p hp => by have := h p hp; omega)
theorem pure_WalkOrders (l : List S52) (a : Int) (b : Int) (h : ∀ p, p ∈ l → p.f4.size ≤ 140737488351232 ∧ p.f5.size ≤ 140737488351232) : ∃ k : Unit, ∀ p, p ∈ l → p.f4.size ≤ 140737488351232 ∧ p.f5.size ≤ 140737488351232 := ⟨(), h⟩
end Go.Proofs.Ytpnlbmeeihbjaaa.P
end
