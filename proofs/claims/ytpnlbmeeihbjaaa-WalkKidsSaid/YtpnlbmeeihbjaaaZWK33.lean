/- WalkKids: for every input the law returns true, and each argument reads behind the call as it read before. -/
import Derived.Test.YtpnlbmeeihbjaaaZWK28
import Derived.Test.YtpnlbmeeihbjaaaZWK29
import Derived.Test.YtpnlbmeeihbjaaaZWK32
section
set_option linter.unusedVariables false
set_option linter.unusedSimpArgs false
namespace Go.Proofs.Ytpnlbmeeihbjaaa.P
open Go.RowKit Go.Proofs.YtpnlbmeeihbjaaaW.PrintWords Go.Proofs.YtpnlbmeeihbjaaaW.PrintLast Go.Proofs.YtpnlbmeeihbjaaaW.PrintMore
attribute [local go_sem] max2_int min2_int max_two min_two max_three min_three max_four min_four
set_option linter.unusedVariables false
set_option linter.unusedSimpArgs false
theorem ints_from (l : List Int) (hl : l.length ≤ 9223372036854775807) : ∀ (d i : Nat), i + d = l.length → gouacheref01_Ints.l0 (d + 1) l l (l.length : Int) (i : Int) = some true
  | 0, i, h => by
    unfold gouacheref01_Ints.l0
    rw [if_neg (by omega)]
  | d + 1, i, h => by
    unfold gouacheref01_Ints.l0
    rw [if_pos (by omega), if_pos (by omega), if_pos (by omega), if_pos (by omega), if_pos rfl, show wrap64 ((i : Int) + 1) = ((i + 1 : Nat) : Int) by unfold wrap64; omega]
    exact ints_from l hl d (i + 1) (by omega)
theorem ints_same (l : List Int) (hl : l.length ≤ 9223372036854775807) : gouacheref01_Ints.f (l.length + 1) l l = some true := by
  unfold gouacheref01_Ints.f
  rw [if_pos rfl]
  exact ints_from l hl l.length 0 (by omega)
theorem ints_calls (u v : Value) (l : List Int) (w : World) (h : RdI w u l) (h2 : RdI w v l) (hl : l.length ≤ 9223372036854775807) : Calls Try.prog 13 #[u, v] w fun e w' => e = .returned (.bool true) ∧ Below w.heap.size w w' := by
  obtain ⟨A, c, rfl, hc, hC⟩ := h
  obtain ⟨A2, c2, rfl, hc2, hC2⟩ := h2
  refine (gouacheref01_Ints.calls _ A c l A2 c2 l true w hC hc hC2 hc2 (ints_same l hl)).mono ?_
  rintro e w' ⟨rfl, hd⟩
  exact ⟨rfl, by obtain ⟨m, rfl⟩ := hd; exact pw_below_drewN (Below.refl _ _) _⟩
def lv : List S52 := [⟨0, 1, 0, 0, ⟨#[98]⟩, ⟨#[]⟩⟩, ⟨0, 1, 1, 0, ⟨#[100]⟩, ⟨#[]⟩⟩, ⟨0, 2, 0, 0, ⟨#[99]⟩, ⟨#[]⟩⟩]
theorem lv_pre : pre (runA tree0 lv).1 1 = [1, 2, 4, 3] := by kernel_rfl
theorem lv_row : rowR (runA tree0 lv).1 3 = [2, 3] := by kernel_rfl
theorem lv_ch : (ch (runA tree0 lv).1 4).length = 3 := by kernel_rfl
theorem lv_cmp : cmpR (runA tree0 lv).1 4 3 = -1 := by
  have hg := good_tree lv
  have h1 : ∀ k ∈ pre (runA tree0 lv).1 1, look (runA tree0 lv).1 k ≠ none := fun k hk e => by
    obtain ⟨x, hx⟩ := pre_look hg hk
    rw [e] at hx; cases hx
  rw [cmp_some (by
    rintro (h | h | h)
    · exact h1 4 (by rw [lv_pre]; simp) h
    · exact h1 3 (by rw [lv_pre]; simp) h
    · exact absurd h (by decide)), lv_pre]
  rfl
theorem lv_plc : plc1 (runA tree0 lv).1 3 = 2 ∧ plc2 (runA tree0 lv).1 3 = 1 := by
  unfold plc1 plc2
  rw [lv_row]
  exact ⟨rfl, rfl⟩
theorem lv_C (w : World) (g : Nat) (h : w.heap[g]? = some (.cells #[.int .i64 0, .int .i64 1, .int .i64 0, .int .i64 0, .string ⟨#[98]⟩, .string ⟨#[]⟩, .int .i64 0, .int .i64 1, .int .i64 1, .int .i64 0, .string ⟨#[100]⟩, .string ⟨#[]⟩, .int .i64 0, .int .i64 2, .int .i64 0, .int .i64 0, .string ⟨#[99]⟩, .string ⟨#[]⟩] 52 (0, 0))) : Kd.C k52 w (some ⟨g, 0, none⟩) lv.length lv := by
  refine ⟨rfl, by decide, fun _ => ⟨⟨g, 0, none⟩, rfl, fun j p hj => ?_⟩⟩
  rcases j with _ | _ | _ | j
  · obtain rfl := Option.some.inj hj
    refine ⟨_, rfl, k52_mk w _, fun m u hm => ?_⟩
    rcases m with _ | _ | _ | _ | _ | _ | m <;> first | exact (blk_cell h _).trans hm | simp at hm
  · obtain rfl := Option.some.inj hj
    refine ⟨_, rfl, k52_mk w _, fun m u hm => ?_⟩
    rcases m with _ | _ | _ | _ | _ | _ | m <;> first | exact (blk_cell h _).trans hm | simp at hm
  · obtain rfl := Option.some.inj hj
    refine ⟨_, rfl, k52_mk w _, fun m u hm => ?_⟩
    rcases m with _ | _ | _ | _ | _ | _ | m <;> first | exact (blk_cell h _).trans hm | simp at hm
  · simp [lv] at hj
set_option maxHeartbeats 8000000 in
set_option maxRecDepth 100000 in
theorem lives_calls (w : World) : Calls Try.prog 10 #[] w fun e w' => e = .returned (.bool true) ∧ Below w.heap.size w w' := by
  have hu52 := Try.underlying52
  have hu29 := Try.underlying29
  have HG := Aside0.mk (good_tree lv)
  have HPR := Aside0.mk lv_pre
  have HCH := Aside0.mk lv_ch
  have HCM := Aside0.mk lv_cmp
  have HPL := Aside0.mk lv_plc
  have HT : Aside0 (∀ (W : World) (g : Nat), W.heap[g]? = some (.cells #[.int .i64 0, .int .i64 1, .int .i64 0, .int .i64 0, .string ⟨#[98]⟩, .string ⟨#[]⟩, .int .i64 0, .int .i64 1, .int .i64 1, .int .i64 0, .string ⟨#[100]⟩, .string ⟨#[]⟩, .int .i64 0, .int .i64 2, .int .i64 0, .int .i64 0, .string ⟨#[99]⟩, .string ⟨#[]⟩] 52 (0, 0)) →
      Calls Try.prog 11 #[.slice (some ⟨g, 0, none⟩) 3 3] W fun e w' => ∃ v u, e = .returned (.tuple #[v, u]) ∧ DocF w' v (runA tree0 lv).1 (runA tree0 lv).2 ∧ Below W.heap.size W w') := ⟨fun W g h => by
    refine (tree_calls lv (some ⟨g, 0, none⟩) 3 W (lv_C W g h) (by decide) (by intro p hp; simp [lv] at hp; rcases hp with rfl | rfl | rfl <;> decide)).mono ?_
    rintro e w' ⟨v, u, he, hd, _, hb⟩
    exact ⟨v, u, he, hd, hb⟩⟩
  generalize (runA tree0 lv).1 = f at HG HPR HCH HCM HPL HT
  generalize (runA tree0 lv).2 = next at HG HT
  go_enter Try.func10, Try.ntmps10
  go_upto_region 2 with (first | (go_at_call 11; refine (HT.out _ _ (blk_new _ _)).mono ?_; rintro e W1 ⟨v, u, rfl, hd, hb1⟩; have HD := Aside0.mk hd; have HB1 := Aside0.mk (below_then (below_alloc (Below.refl w.heap.size w) _) (below_alloc (Below.refl w.heap.size w) _).size hb1); clear hd hb1) | fail)
  go_upto_region 3 with (first | (go_at_call 22; refine (place_calls v f next 3 _ HD.out HG.out).mono ?_; rintro e W2 ⟨rfl, hb2⟩; rw [HPL.out.1, HPL.out.2]; have HD2 := Aside0.mk (HD.out.below hb2); have HB2 := Aside0.mk (below_then HB1.out HB1.out.size hb2); clear hb2) | fail)
  go_wp2_with (first
    | (go_at_call 15; refine (order_calls v f next _ HD2.out HG.out).mono ?_; rintro e W3 ⟨o, rfl, hR, hb3⟩; rw [HPR.out] at hR; have HR3 := Aside0.mk (RdI.of_R hR); have HB23 := Aside0.mk hb3; obtain ⟨A, c, rfl, _, _⟩ := RdI.of_R hR; clear hb3 hR)
    | (go_at_call 13; refine (ints_calls _ _ [1, 2, 4, 3] _ (HR3.out.below (below_alloc (Below.refl _ _) _)) (RdI.of_R (own_laid (xs := [1, 2, 4, 3]) (n := 4) (cap := 4) (base := 0) (Nat.zero_le _) (blk_new _ _) rfl (Nat.le_refl _) (show 4 ≤ maxLen by decide) rfl rfl (fun _ => True) trivial)) (by simp)).mono ?_; rintro e W4 ⟨rfl, hb4⟩; have HB24 := Aside0.mk (below_then (below_alloc HB23.out _) (below_alloc HB23.out _).size hb4); clear hb4)
    | (go_at_call 21; refine (wcmp_calls v f next 4 3 _ (HD2.out.below HB24.out) HG.out).mono ?_; rintro e W5 ⟨rfl, hb5⟩; rw [HCM.out]; have HB25 := Aside0.mk (below_then HB24.out HB24.out.size hb5); clear hb5)
    | (go_at_call 18; refine (wdepth_calls v f next 4 _ (HD2.out.below HB25.out) HG.out).mono ?_; rintro e W6 ⟨rfl, hb6⟩; rw [HCH.out]; have HB26 := Aside0.mk (below_then HB25.out HB25.out.size hb6); clear hb6)
    | fail)
  go_ret
  exact ⟨rfl, below_then HB2.out HB2.out.size HB26.out⟩
end Go.Proofs.Ytpnlbmeeihbjaaa.P
end
section
set_option linter.unusedVariables false
set_option linter.unusedSimpArgs false
namespace Go.Proofs.Ytpnlbmeeihbjaaa.P
open Go.RowKit Go.Proofs.YtpnlbmeeihbjaaaW.PrintWords Go.Proofs.YtpnlbmeeihbjaaaW.PrintLast Go.Proofs.YtpnlbmeeihbjaaaW.PrintMore
attribute [local go_sem] max2_int min2_int max_two min_two max_three min_three max_four min_four
set_option linter.unusedVariables false
set_option linter.unusedSimpArgs false
theorem light8 (l : List S52) (A : Option Addr) (c : Nat) (w : World) (hC : Kd.C k52 w A l.length l) (hc : l.length ≤ c) : ∃ b, Calls Try.prog 9 #[.slice A l.length c, .int .i64 80] w fun e w' => e = .returned (.bool b) ∧ Below w.heap.size w w' := by
  obtain ⟨k, b, hb⟩ := light_some l 80 hC.2.1
  refine ⟨b, (gouacheref07_Light.calls k A c l 80 b w hC hc hb).mono ?_⟩
  rintro e w' ⟨rfl, hd⟩
  exact ⟨rfl, hd⟩
section
variable {f : Nat → Option S40} {next : Int}
theorem up_root (hg : Good f next) {k : Int} {x : S40} (hk : look f k = some x) (h : upR f k = []) : k = 1 := by
  by_cases e : k = 1
  · exact e
  · obtain ⟨p, hp, _⟩ := hg.par k x hk e
    have := hg.dom _ p hp
    rw [(up_next hg hk (by omega)).1] at h
    cases h
theorem up_some (hg : Good f next) {k : Int} (h : upR f k ≠ []) : ∃ x, look f k = some x ∧ 0 < x.f2 ∧ upR f k = x.f2 :: upR f x.f2 ∧ (look f x.f2).isSome = true := by
  cases e : look f k with
  | none => exact absurd (up_none e) h
  | some x =>
    by_cases c : 0 < x.f2
    · refine ⟨x, rfl, c, (up_next hg e c).1, ?_⟩
      have hk1 : k ≠ 1 := fun h1 => by
        subst h1
        obtain ⟨r, hr, hr0⟩ := hg.root
        rw [e] at hr
        obtain rfl := Option.some.inj hr
        omega
      obtain ⟨p, hp, _⟩ := hg.par k x e hk1
      rw [hp]; rfl
    · exact absurd (up_stop hg e c) h
end
set_option maxHeartbeats 32000000 in
set_option maxRecDepth 100000 in
theorem ups_calls (l : List S52) (A : Option Addr) (c : Nat) (id : Int) (w : World) (hC : Kd.C k52 w A l.length l) (hc : l.length ≤ c) (hs : ∀ p, p ∈ l → p.f4.size ≤ 140737488355328 ∧ p.f5.size ≤ 140737488355328) :
    Calls Try.prog 4 #[.slice A l.length c, .int .i64 id] w fun e w' => e = .returned (.bool true) ∧ Below w.heap.size w w' := by
  obtain ⟨b, hlight⟩ := light8 l A c w hC hc
  have HLI := Aside0.mk hlight
  have HT : Aside0 (∀ W, Below w.heap.size w W → Calls Try.prog 11 #[.slice A l.length c] W fun e w' => ∃ v u, e = .returned (.tuple #[v, u]) ∧ DocF w' v (runA tree0 l).1 (runA tree0 l).2 ∧ RD w' u (runA tree0 l).1 (runA tree0 l).2 ∧ Below W.heap.size W w') := ⟨fun W hW => tree_calls l A c W (Kd.C_below hC hW) hc hs⟩
  have HG := Aside0.mk (good_tree l)
  generalize (runA tree0 l).1 = f at HT HG
  generalize (runA tree0 l).2 = next at HT HG
  have hu40 := Try.underlying40
  have hu29 := Try.underlying29
  clear hlight hC hs hc
  cases b with
  | false =>
    go_enter Try.func4, Try.ntmps4
    go_wp2_with (first
      | (go_at_call 9; refine HLI.out.mono ?_; rintro e W1 ⟨rfl, hb1⟩; have HB1 := Aside0.mk hb1; clear hb1)
      | (go_at_call 10; refine (lives_calls _).mono ?_; rintro e W2 ⟨rfl, hb2⟩; have HB2 := Aside0.mk (below_then HB1.out HB1.out.size hb2); clear hb2)
      | fail)
    go_ret
    exact ⟨rfl, HB2.out⟩
  | true =>
    go_enter Try.func4, Try.ntmps4
    go_upto_region 6 with (first
      | (go_at_call 9; refine HLI.out.mono ?_; rintro e W1 ⟨rfl, hb1⟩; have HB1 := Aside0.mk hb1; clear hb1)
      | (go_at_call 11; refine (HT.out _ HB1.out).mono ?_; rintro e W2 ⟨v, u, rfl, hd, hr, hb2⟩; have HD := Aside0.mk hd; have HR := Aside0.mk hr; have HB2 := Aside0.mk (below_then HB1.out HB1.out.size hb2); clear hd hr hb2)
      | (go_at_call 16; refine (up_calls v f next id _ HD.out HG.out).mono ?_; rintro e W3 ⟨o, rfl, hR, hb3⟩; have HO := Aside0.mk (RdI.of_R hR); have HB23 := Aside0.mk hb3; have HB3 := Aside0.mk (below_then HB2.out HB2.out.size hb3); clear hb3 hR)
      | fail)
    obtain ⟨L, hL⟩ : ∃ L, L = upR f id := ⟨_, rfl⟩
    rw [← hL] at HO
    obtain ⟨Au, cu, rfl, hcu, hCu⟩ := HO.out
    have HCU := Aside0.mk hCu
    have HLL : Aside0 (L = upR f id ∧ L.length ≤ 512) := ⟨hL, by rw [hL, up_len]; have := ch_le HG.out id; omega⟩
    clear hL hcu hCu
    go_wp2_with fail
    go_loopg [8, 30] (L.length + 1) (fun kq v8 v30 w' => ∃ (at_ : Int) (i : Nat) (dn : List Int), v8 = .int .i64 at_ ∧ v30 = .int .i64 i ∧ Aside0 (i + kq = L.length + 1) ∧ Aside0 (dn.length = i) ∧ Aside0 (L = dn ++ upR f at_) ∧ Aside0 ((look f at_).isSome = (look f id).isSome) ∧ Aside0 (Below W3.heap.size W3 w'))
    case atStart => exact ⟨id, 0, [], rfl, rfl, ⟨by omega⟩, ⟨rfl⟩, ⟨by rw [HLL.out.1]; rfl⟩, ⟨rfl⟩, ⟨Below.refl _ _⟩⟩
    case round =>
      obtain ⟨k, i, dn, rfl, rfl, HK, HDN, HE, HIS, HBW⟩ := hrel
      cases gk with
      | zero => exact absurd HK.out (by have := congrArg List.length HE.out; have := HDN.out; simp at *; omega)
      | succ g0 =>
        by_cases c0 : i < L.length
        · have hne : upR f k ≠ [] := fun h => by have h2 := congrArg List.length HE.out; rw [h] at h2; have := HDN.out; simp at h2; omega
          obtain ⟨x, hx, hx2, hup, hsx⟩ := up_some HG.out hne
          obtain ⟨ad, cc, rfl, hcl, hK2, hcell⟩ := Kd.C_get (Kd.C_below HCU.out HBW.out) (0 : Int) (i : Int) (by omega) (by omega)
          have hk0 : cc = [.int .i64 (L.getD i 0)] := hK2
          have hq := hcell 0 _ (by rw [hk0]; rfl)
          have hLi : L.getD i 0 = x.f2 := by rw [HE.out, hup, ← HDN.out]; simp
          rw [hLi, Int.toNat_natCast, show i * (Kd.int .i64).sz + 0 = i by show i * 1 + 0 = _; omega] at hq
          have HX := Aside0.mk (And.intro hx (And.intro hup hsx))
          have HCM : Aside0 (cmpR f x.f2 id = -1) := ⟨cmp_up HG.out (by rw [← HLL.out.1, HE.out, hup]; simp)⟩
          have HBW2 := Aside0.mk (below_then HB23.out HB23.out.size HBW.out)
          have c1 : decide (i < L.length) = true := decide_eq_true c0
          have z0 : (0 ≤ (i : Int)) = True := eq_true (by omega)
          have z1 : ((i : Int) < (L.length : Int)) = True := eq_true (by omega)
          have HI0 := Aside0.mk c0
          clear hne hcl hK2 hcell hk0 hLi hx hx2 hup hsx c0
          go_wp2_with (first
            | (go_at_call 20; refine (copy_calls v f next k W2 _ HD.out HBW2.out (HG.out.sizes k).1 (HG.out.sizes k).2).mono ?_; rintro e W4 ⟨cs, rfl, hM, hb4⟩; rw [HX.out.1] at hM ⊢; obtain ⟨A3, c3, A4, c4, rfl⟩ := k40_cellsM (x := x) hM; have HB4 := Aside0.mk (below_alloc hb4 (.cells #[.int .i64 x.f0, .string x.f1, .int .i64 x.f2, .slice A3 x.f3.length c3, .slice A4 x.f4.length c4] 40)); clear hM hb4)
            | (go_at_call 21; refine (wcmp_calls v f next x.f2 id _ (HD.out.below (below_then HBW2.out HBW2.out.size HB4.out)) HG.out).mono ?_; rintro e W5 ⟨rfl, hb5⟩; rw [HCM.out]; have HB5 := Aside0.mk (below_then HBW.out HBW.out.size (below_then HB4.out HB4.out.size hb5)); clear hb5)
            | fail)
          go_roundg g0
          case measure => have := HK.out; omega
          case rel => exact ⟨x.f2, i + 1, dn ++ [x.f2], rfl, (by have := HI0.out; have := HLL.out.2; congr 1; unfold wrap64; omega), ⟨by have := HK.out; omega⟩, ⟨by have := HDN.out; simp; omega⟩, ⟨by rw [HE.out, HX.out.2.1]; simp⟩, ⟨by rw [← HIS.out, HX.out.1, HX.out.2.2]; rfl⟩, HB5⟩
        · have c1 : decide (i < L.length) = false := decide_eq_false c0
          have hup : upR f k = [] := by
            have h2 := congrArg List.length HE.out
            have := HDN.out
            simp at h2
            exact List.eq_nil_of_length_eq_zero (by omega)
          have hLd : L.length = (upR f id).length := by rw [← HLL.out.1]
          have HBW2 := Aside0.mk (below_then HB23.out HB23.out.size HBW.out)
          cases hl : look f id with
          | none =>
            have hk1 : (k == 1) = false := by
              have h3 := HIS.out
              rw [hl] at h3
              obtain ⟨r, hr, _⟩ := HG.out.root
              have : k ≠ 1 := fun e => by rw [e, hr] at h3; cases h3
              simpa using this
            have hL0 : L.length = 0 := by rw [hLd, up_none hl]; rfl
            have HL := Aside0.mk hl
            have HCH : Aside0 (((ch f id).length : Int) = 0) := ⟨by rw [ch_none id hl]; rfl⟩
            obtain rfl := List.eq_nil_of_length_eq_zero hL0
            clear hl hup hLd c0 hL0
            go_wp2_with (first
              | (go_at_call 20; refine (copy_calls v f next id W2 _ HD.out HBW2.out (HG.out.sizes id).1 (HG.out.sizes id).2).mono ?_; rintro e W4 ⟨cs, rfl, hM, hb4⟩; rw [HL.out] at hM ⊢; obtain ⟨A3, c3, A4, c4, rfl⟩ := k40_cellsM (x := z40) hM; have HB4 := Aside0.mk (below_then HBW2.out HBW2.out.size (below_alloc hb4 (.cells #[.int .i64 z40.f0, .string z40.f1, .int .i64 z40.f2, .slice A3 z40.f3.length c3, .slice A4 z40.f4.length c4] 40))); clear hM hb4)
              | (go_at_call 18; refine (wdepth_calls v f next id _ (HD.out.below HB4.out) HG.out).mono ?_; rintro e W5 ⟨rfl, hb5⟩; rw [HCH.out]; have HB5 := Aside0.mk (below_then HB4.out HB4.out.size hb5); clear hb5)
              | (go_at_call 10; refine (lives_calls _).mono ?_; rintro e WL ⟨rfl, hbl⟩; have HBL := Aside0.mk (below_then HB5.out HB5.out.size hbl); clear hbl)
              | fail)
            go_ret
            exact ⟨rfl, below_then HB2.out HB2.out.size HBL.out⟩
          | some y =>
            obtain rfl : k = 1 := by
              have h3 := HIS.out
              rw [hl] at h3
              cases hk : look f k with
              | none => rw [hk] at h3; cases h3
              | some z => exact up_root HG.out hk hup
            have HL := Aside0.mk hl
            obtain ⟨n, hn⟩ : ∃ n : Int, n = ((ch f id).length : Int) := ⟨_, rfl⟩
            have HCH : Aside0 (((ch f id).length : Int) = n) := ⟨hn.symm⟩
            have d0 : (wrap64 ((L.length : Int) + 1) == n) = true := by rw [hn, hLd, up_len]; have := ch_pos HG.out hl; have := ch_le HG.out id; simp; unfold wrap64; omega
            clear hl hup hLd c0 hn
            go_wp2_with (first
              | (go_at_call 20; refine (copy_calls v f next id W2 _ HD.out HBW2.out (HG.out.sizes id).1 (HG.out.sizes id).2).mono ?_; rintro e W4 ⟨cs, rfl, hM, hb4⟩; rw [HL.out] at hM ⊢; obtain ⟨A3, c3, A4, c4, rfl⟩ := k40_cellsM (x := y) hM; have HB4 := Aside0.mk (below_then HBW2.out HBW2.out.size (below_alloc hb4 (.cells #[.int .i64 y.f0, .string y.f1, .int .i64 y.f2, .slice A3 y.f3.length c3, .slice A4 y.f4.length c4] 40))); clear hM hb4)
              | (go_at_call 18; refine (wdepth_calls v f next id _ (HD.out.below HB4.out) HG.out).mono ?_; rintro e W5 ⟨rfl, hb5⟩; rw [HCH.out]; have HB5 := Aside0.mk (below_then HB4.out HB4.out.size hb5); clear hb5)
              | (go_at_call 10; refine (lives_calls _).mono ?_; rintro e WL ⟨rfl, hbl⟩; have HBL := Aside0.mk (below_then HB5.out HB5.out.size hbl); clear hbl)
              | fail)
            go_ret
            exact ⟨rfl, below_then HB2.out HB2.out.size HBL.out⟩
theorem lawWalkUps.calls (k : Unit) (A : Option Addr) (c : Nat) (l : List S52) (id : Int) (r : Bool) (w : World) (hC : Kd.C k52 w A l.length l) (hc : l.length ≤ c) (h : ∀ p, p ∈ l → p.f4.size ≤ 140737488351232 ∧ p.f5.size ≤ 140737488351232) :
    Calls Try.prog 4 #[.slice A l.length c, .int .i64 id] w fun e w' => e = .returned (.bool true) ∧ Below w.heap.size w w' :=
  ups_calls l A c id w hC hc (fun p hp => by have := h p hp; omega)
end Go.Proofs.Ytpnlbmeeihbjaaa.P
end
section
set_option linter.unusedVariables false
set_option linter.unusedSimpArgs false
namespace Go.Proofs.Ytpnlbmeeihbjaaa.P
open Go.RowKit Go.Proofs.YtpnlbmeeihbjaaaW.PrintWords Go.Proofs.YtpnlbmeeihbjaaaW.PrintLast Go.Proofs.YtpnlbmeeihbjaaaW.PrintMore
attribute [local go_sem] max2_int min2_int max_two min_two max_three min_three max_four min_four
set_option linter.unusedVariables false
set_option linter.unusedSimpArgs false
section
variable {f : Nat → Option S40} {next : Int}
theorem rdi_cell {w : World} {g n c : Nat} {l : List Int} (h : RdI w (.slice (some ⟨g, 0, none⟩) n c) l) (i : Nat) (hi : i < l.length) : w.cell? ⟨g, i, none⟩ = some (.int .i64 (l.getD i 0)) := by
  obtain ⟨A, c', e, hc, hC⟩ := h
  injection e with e1 e2 e3
  subst e1
  obtain ⟨ad, cc, e4, hcl, hK2, hcell⟩ := Kd.C_get hC (0 : Int) (i : Int) (by omega) (by omega)
  injection e4 with e4
  subst e4
  have hk0 : cc = [.int .i64 (l.getD i 0)] := hK2
  have hq := hcell 0 _ (by rw [hk0]; rfl)
  rw [Int.toNat_natCast, show i * (Kd.int .i64).sz + 0 = i by show i * 1 + 0 = _; omega] at hq
  rw [show (⟨g, i, none⟩ : Addr) = (⟨g, 0, none⟩ : Addr).add i by simp [Addr.add]]
  exact hq
theorem kid_at (hg : Good f next) {id : Int} {x : S40} (hx : look f id = some x) (i : Nat) (hi : i < x.f3.length) :
    x.f3[i] ∈ x.f3 ∧ plc1 f x.f3[i] = (i : Int) + 1 ∧ plc2 f x.f3[i] = (x.f3.length : Int) - i ∧ besR f x.f3[i] 1 = x.f3.getD (i + 1) 0 ∧ (ch f x.f3[i]).length = (ch f id).length + 1 := by
  have hm : x.f3[i] ∈ x.f3 := List.getElem_mem hi
  have hr := rowR_kid hg hx hm
  have hI : idxI (rowR f x.f3[i]) x.f3[i] = (i : Int) := by rw [hr]; exact idxI_at (hg.nodup id x hx) hi
  refine ⟨hm, by unfold plc1; rw [hI, if_neg (by omega)], by unfold plc2; rw [hI, if_neg (by omega), hr], ?_, kid_len hg hx hm⟩
  unfold besR
  rw [hI, hr]
  by_cases c : i + 1 < x.f3.length
  · rw [if_pos ⟨by omega, by omega, by omega⟩, show ((i : Int) + 1).toNat = i + 1 by omega]
  · rw [if_neg (by omega), List.getD_eq_getElem?_getD, List.getElem?_eq_none (by omega)]; rfl
end
set_option maxHeartbeats 32000000 in
set_option maxRecDepth 100000 in
theorem kids_calls (l : List S52) (A : Option Addr) (c : Nat) (id : Int) (w : World) (hC : Kd.C k52 w A l.length l) (hc : l.length ≤ c) (hs : ∀ p, p ∈ l → p.f4.size ≤ 140737488355328 ∧ p.f5.size ≤ 140737488355328) :
    Calls Try.prog 5 #[.slice A l.length c, .int .i64 id] w fun e w' => e = .returned (.bool true) ∧ Below w.heap.size w w' := by
  obtain ⟨b, hlight⟩ := light8 l A c w hC hc
  have HLI := Aside0.mk hlight
  have HT : Aside0 (∀ W, Below w.heap.size w W → Calls Try.prog 11 #[.slice A l.length c] W fun e w' => ∃ v u, e = .returned (.tuple #[v, u]) ∧ DocF w' v (runA tree0 l).1 (runA tree0 l).2 ∧ RD w' u (runA tree0 l).1 (runA tree0 l).2 ∧ Below W.heap.size W w') := ⟨fun W hW => tree_calls l A c W (Kd.C_below hC hW) hc hs⟩
  have HG := Aside0.mk (good_tree l)
  generalize (runA tree0 l).1 = f at HT HG
  generalize (runA tree0 l).2 = next at HT HG
  have hu40 := Try.underlying40
  have hu29 := Try.underlying29
  clear hlight hC hs hc
  cases b with
  | false =>
    go_enter Try.func5, Try.ntmps5
    go_wp2_with (first
      | (go_at_call 9; refine HLI.out.mono ?_; rintro e W1 ⟨rfl, hb1⟩; have HB1 := Aside0.mk hb1; clear hb1)
      | (go_at_call 10; refine (lives_calls _).mono ?_; rintro e W2 ⟨rfl, hb2⟩; have HB2 := Aside0.mk (below_then HB1.out HB1.out.size hb2); clear hb2)
      | fail)
    go_ret
    exact ⟨rfl, HB2.out⟩
  | true =>
    go_enter Try.func5, Try.ntmps5
    cases hl : look f id with
    | none =>
      have HL := Aside0.mk hl
      have HCH : Aside0 (((ch f id).length : Int) = 0) := ⟨by rw [ch_none id hl]; rfl⟩
      clear hl
      go_wp2_with (first
        | (go_at_call 9; refine HLI.out.mono ?_; rintro e W1 ⟨rfl, hb1⟩; have HB1 := Aside0.mk hb1; clear hb1)
        | (go_at_call 11; refine (HT.out _ HB1.out).mono ?_; rintro e W2 ⟨v, u, rfl, hd, hr, hb2⟩; have HD := Aside0.mk hd; have HR := Aside0.mk hr; have HB2 := Aside0.mk (below_then HB1.out HB1.out.size hb2); clear hd hr hb2)
        | (go_at_call 20; refine (copy_calls v f next id W2 _ HD.out (Below.refl _ _) (HG.out.sizes id).1 (HG.out.sizes id).2).mono ?_; rintro e W3 ⟨cs, rfl, hM, hb3⟩; rw [HL.out] at hM ⊢; obtain ⟨A3, c3, A4, c4, rfl⟩ := k40_cellsM (x := z40) hM; have HB3 := Aside0.mk (below_alloc hb3 (.cells #[.int .i64 z40.f0, .string z40.f1, .int .i64 z40.f2, .slice A3 z40.f3.length c3, .slice A4 z40.f4.length c4] 40)); clear hM hb3)
        | (go_at_call 18; refine (wdepth_calls v f next id _ (HD.out.below HB3.out) HG.out).mono ?_; rintro e W4 ⟨rfl, hb4⟩; rw [HCH.out]; have HB4 := Aside0.mk (below_then HB3.out HB3.out.size hb4); clear hb4)
        | (go_at_call 10; refine (lives_calls _).mono ?_; rintro e WL ⟨rfl, hbl⟩; have HBL := Aside0.mk (below_then HB4.out HB4.out.size hbl); clear hbl)
        | fail)
      go_ret
      exact ⟨rfl, below_then HB2.out HB2.out.size HBL.out⟩
    | some x =>
      have HL := Aside0.mk hl
      have hpos := ch_pos HG.out hl
      have hle := ch_le HG.out id
      obtain ⟨n, hn⟩ : ∃ n : Int, n = ((ch f id).length : Int) := ⟨_, rfl⟩
      have HCH : Aside0 (((ch f id).length : Int) = n) := ⟨hn.symm⟩
      have HNB : Aside0 (1 ≤ n ∧ n ≤ 512) := ⟨by omega, by omega⟩
      by_cases c0 : x.f3.length = 0
      · have d0 : decide (0 < n) = true := decide_eq_true (by omega)
        have d1 : (x.f3.length == 0) = true := by simp only [c0]; rfl
        have d2 : ((x.f3.length : Int) == 0) = true := by simp only [c0]; rfl
        clear hl hpos hle hn c0
        go_wp2_with (first
          | (go_at_call 9; refine HLI.out.mono ?_; rintro e W1 ⟨rfl, hb1⟩; have HB1 := Aside0.mk hb1; clear hb1)
          | (go_at_call 11; refine (HT.out _ HB1.out).mono ?_; rintro e W2 ⟨v, u, rfl, hd, hr, hb2⟩; have HD := Aside0.mk hd; have HR := Aside0.mk hr; have HB2 := Aside0.mk (below_then HB1.out HB1.out.size hb2); clear hd hr hb2)
          | (go_at_call 20; refine (copy_calls v f next id W2 _ HD.out (Below.refl _ _) (HG.out.sizes id).1 (HG.out.sizes id).2).mono ?_; rintro e W3 ⟨cs, rfl, hM, hb3⟩; rw [HL.out] at hM ⊢; obtain ⟨A3, c3, A4, c4, rfl⟩ := k40_cellsM (x := x) hM; have HB3 := Aside0.mk (below_alloc hb3 (.cells #[.int .i64 x.f0, .string x.f1, .int .i64 x.f2, .slice A3 x.f3.length c3, .slice A4 x.f4.length c4] 40)); clear hM hb3)
          | (go_at_call 18; refine (wdepth_calls v f next id _ (HD.out.below HB3.out) HG.out).mono ?_; rintro e W4 ⟨rfl, hb4⟩; rw [HCH.out]; have HB4 := Aside0.mk (below_then HB3.out HB3.out.size hb4); clear hb4)
          | (go_at_call 10; refine (lives_calls _).mono ?_; rintro e WL ⟨rfl, hbl⟩; have HBL := Aside0.mk (below_then HB4.out HB4.out.size hbl); clear hbl)
          | fail)
        go_ret
        exact ⟨rfl, below_then HB2.out HB2.out.size HBL.out⟩
      · have d1 : (x.f3.length == 0) = false := by simpa using c0
        have d2 : ((x.f3.length : Int) == 0) = false := beq_false_of_ne (by omega)
        have HX0 : Aside0 (0 < x.f3.length ∧ x.f3.length ≤ 1048576) := ⟨by omega, HG.out.kids_le hl⟩
        clear hl hpos hle hn c0
        go_upto_region 5 with (first
          | (go_at_call 9; refine HLI.out.mono ?_; rintro e W1 ⟨rfl, hb1⟩; have HB1 := Aside0.mk hb1; clear hb1)
          | (go_at_call 11; refine (HT.out _ HB1.out).mono ?_; rintro e W2 ⟨v, u, rfl, hd, hr, hb2⟩; have HD := Aside0.mk hd; have HR := Aside0.mk hr; have HB2 := Aside0.mk (below_then HB1.out HB1.out.size hb2); clear hd hr hb2)
          | (go_at_call 20; refine (copy_calls v f next id W2 _ HD.out (Below.refl _ _) (HG.out.sizes id).1 (HG.out.sizes id).2).mono ?_; rintro e W3 ⟨cs, rfl, hM, hb3⟩; rw [HL.out] at hM ⊢; obtain ⟨v3, vv4, hcs, hR3, hR4⟩ := k40_openM hM; obtain ⟨cs⟩ := cs; simp only at hcs; obtain ⟨g3, c3, rfl, _, _, _⟩ := R_cell hR3 0 HX0.out.1; obtain ⟨A4, c4, rfl, _, _⟩ := Kd.R_reads hR4; subst hcs; have HC3 := Aside0.mk (show RdI W3 (.slice (some ⟨g3, 0, none⟩) x.f3.length c3) x.f3 from RdI.of_R hR3); have HB3 := Aside0.mk hb3; clear hM hb3 hR3 hR4)
          | fail)
        have hn4 := blk_new W3 (.cells #[.int .i64 x.f0, .string x.f1, .int .i64 x.f2, .slice (some ⟨g3, 0, none⟩) x.f3.length c3, .slice A4 x.f4.length c4] 40)
        have HN4 := Aside0.mk hn4
        have r3 := (blk_cell hn4 3).trans (show _ = some (.slice (some ⟨g3, 0, none⟩) x.f3.length c3) from rfl)
        have HB4 : Aside0 (Below W2.heap.size W2 (W3.alloc (.cells #[.int .i64 x.f0, .string x.f1, .int .i64 x.f2, .slice (some ⟨g3, 0, none⟩) x.f3.length c3, .slice A4 x.f4.length c4] 40))) := ⟨below_alloc HB3.out _⟩
        have HC4 : Aside0 (RdI (W3.alloc (.cells #[.int .i64 x.f0, .string x.f1, .int .i64 x.f2, .slice (some ⟨g3, 0, none⟩) x.f3.length c3, .slice A4 x.f4.length c4] 40)) (.slice (some ⟨g3, 0, none⟩) x.f3.length c3) x.f3) := ⟨HC3.out.below (below_alloc (Below.refl _ _) _)⟩
        generalize W3.alloc (.cells #[.int .i64 x.f0, .string x.f1, .int .i64 x.f2, .slice (some ⟨g3, 0, none⟩) x.f3.length c3, .slice A4 x.f4.length c4] 40) = W4 at HN4 r3 HB4 HC4 ⊢
        obtain ⟨g, hgd⟩ : ∃ g, g = W3.heap.size := ⟨_, rfl⟩
        rw [← hgd] at HN4 r3 ⊢
        clear hn4 hgd
        have hx0 := HX0.out.1
        have hq := rdi_cell HC4.out 0 hx0
        obtain ⟨k0, hk0d⟩ : ∃ k0, k0 = x.f3.getD 0 0 := ⟨_, rfl⟩
        rw [← hk0d] at hq
        have HK0 := Aside0.mk hk0d
        have z1 : (0 < x.f3.length) = True := eq_true hx0
        have z1' : ((0 : Int) < (x.f3.length : Int)) = True := eq_true (by omega)
        clear hx0 hk0d
        go_wp2_with fail
        rw [show k0 = x.f3.getD 0 0 from HK0.out]
        clear hq z1 z1' d1 d2
        go_loopg [9, 52] (x.f3.length + 1) (fun kq v9 v52 w' => ∃ (i : Nat), v9 = .int .i64 (x.f3.getD i 0) ∧ v52 = .int .i64 i ∧ Aside0 (i + kq = x.f3.length + 1) ∧ Aside0 (i ≤ x.f3.length) ∧ Aside0 (Below W4.heap.size W4 w'))
        case atStart => exact ⟨0, rfl, rfl, ⟨by omega⟩, ⟨by omega⟩, ⟨Below.refl _ _⟩⟩
        case round =>
          clear r3
          obtain ⟨i, rfl, rfl, HK, HI, HBW⟩ := hrel
          cases gk with
          | zero => exact absurd HK.out (by have := HI.out; omega)
          | succ g0 =>
            have HB4W := Aside0.mk (below_then HB4.out HB4.out.size HBW.out)
            by_cases c0 : i < x.f3.length
            · obtain ⟨hm, hp1, hp2, hbs, hch⟩ := kid_at HG.out HL.out i c0
              have hcell := rdi_cell (HC4.out.below HBW.out) i c0
              have hgd : x.f3[i] = x.f3.getD i 0 := by simp [c0]
              rw [hgd] at hp1 hp2 hbs hch
              have r3 := (blk_cell (blk_below HN4.out HBW.out) 3).trans (show _ = some (.slice (some ⟨g3, 0, none⟩) x.f3.length c3) from rfl)
              obtain ⟨k, hk⟩ : ∃ k, k = x.f3.getD i 0 := ⟨_, rfl⟩
              rw [← hk] at hcell hp1 hp2 hbs hch ⊢
              obtain ⟨k', hk'⟩ : ∃ k', k' = x.f3.getD (i + 1) 0 := ⟨_, rfl⟩
              rw [← hk'] at hbs
              obtain ⟨p1, hp1'⟩ : ∃ p1, p1 = plc1 f k := ⟨_, rfl⟩
              obtain ⟨p2, hp2'⟩ : ∃ p2, p2 = plc2 f k := ⟨_, rfl⟩
              obtain ⟨nk, hnk⟩ : ∃ nk : Int, nk = ((ch f k).length : Int) := ⟨_, rfl⟩
              have HP := Aside0.mk (And.intro hp1'.symm (And.intro hp2'.symm (And.intro hnk.symm hbs)))
              rw [← hp1'] at hp1
              rw [← hp2'] at hp2
              have hx0 := HX0.out
              have hnb := HNB.out
              have e1 : (p1 != wrap64 ((i : Int) + 1)) = false := by rw [hp1, show wrap64 ((i : Int) + 1) = (i : Int) + 1 by unfold wrap64; omega]; simp
              have e2 : (p2 != wrap64 ((x.f3.length : Int) - (i : Int))) = false := by rw [hp2, show wrap64 ((x.f3.length : Int) - (i : Int)) = (x.f3.length : Int) - i by unfold wrap64; omega]; simp
              have e3 : (nk != wrap64 (n + 1)) = false := by rw [show nk = n + 1 by rw [hnk, hch, ← HCH.out]; simp, show wrap64 (n + 1) = n + 1 by unfold wrap64; omega]; simp
              have e0 : (k != k) = false := by simp
              have c1 : decide (i < x.f3.length) = true := decide_eq_true c0
              have z0 : (0 ≤ (i : Int)) = True := eq_true (by omega)
              have z1 : ((i : Int) < (x.f3.length : Int)) = True := eq_true (by omega)
              have HI0 := Aside0.mk c0
              have HKK := Aside0.mk hk'
              have HKI := Aside0.mk hk
              clear hm hp1 hp2 hbs hch hgd hk hk' hp1' hp2' hnk hx0 hnb c0
              clear hcell
              go_wp2_with (first
                | (go_at_call 22; refine (place_calls v f next k _ (HD.out.below HB4W.out) HG.out).mono ?_; rintro e W5 ⟨rfl, hb5⟩; rw [HP.out.1, HP.out.2.1]; have HB5 := Aside0.mk hb5; have HB45 := Aside0.mk (below_then HBW.out HBW.out.size hb5); have hcell5 := rdi_cell (HC4.out.below HB45.out) i HI0.out; rw [← HKI.out] at hcell5; have r35 := (blk_cell (blk_below HN4.out HB45.out) 3).trans (show _ = some (.slice (some ⟨g3, 0, none⟩) x.f3.length c3) from rfl); clear hb5 r3)
                | (go_at_call 18; (with_reducible refine (wdepth_calls v f next k _ (HD.out.below (below_then HB4.out HB4.out.size HB45.out)) HG.out).mono ?_); rintro e W6 ⟨rfl, hb6⟩; rw [HP.out.2.2.1]; have HB46 := Aside0.mk (below_then HB45.out HB45.out.size hb6); clear hb6)
                | (go_at_call 18; refine (wdepth_calls v f next id _ (HD.out.below (below_then HB4.out HB4.out.size HB46.out)) HG.out).mono ?_; rintro e W7 ⟨rfl, hb7⟩; rw [HCH.out]; have HB47 := Aside0.mk (below_then HB46.out HB46.out.size hb7); clear hb7)
                | (go_at_call 23; refine (after_calls v f next k _ (HD.out.below (below_then HB4.out HB4.out.size HB47.out)) HG.out).mono ?_; rintro e W8 ⟨rfl, hb8⟩; rw [HP.out.2.2.2]; have HB48 := Aside0.mk (below_then HB47.out HB47.out.size hb8); clear hb8)
                | fail)
              go_roundg g0
              case measure => have := HK.out; omega
              case rel => exact ⟨i + 1, by rw [HKK.out], (by have := HI0.out; have := HX0.out; congr 1; unfold wrap64; omega), ⟨by have := HK.out; omega⟩, ⟨HI0.out⟩, HB48⟩
            · have hi : i = x.f3.length := by have := HI.out; omega
              subst hi
              have c1 : decide (x.f3.length < x.f3.length) = false := decide_eq_false (by omega)
              have hz : x.f3.getD x.f3.length 0 = 0 := by simp
              rw [hz]
              clear hz c0
              go_wp2_with (first | (go_at_call 10; refine (lives_calls _).mono ?_; rintro e WL ⟨rfl, hbl⟩; have HBL := Aside0.mk (below_then HB4W.out HB4W.out.size hbl); clear hbl) | fail)
              go_ret
              exact ⟨rfl, below_then HB2.out HB2.out.size HBL.out⟩
theorem lawWalkKids.calls (k : Unit) (A : Option Addr) (c : Nat) (l : List S52) (id : Int) (r : Bool) (w : World) (hC : Kd.C k52 w A l.length l) (hc : l.length ≤ c) (h : ∀ p, p ∈ l → p.f4.size ≤ 140737488351232 ∧ p.f5.size ≤ 140737488351232) :
    Calls Try.prog 5 #[.slice A l.length c, .int .i64 id] w fun e w' => e = .returned (.bool true) ∧ Below w.heap.size w w' :=
  kids_calls l A c id w hC hc (fun p hp => by have := h p hp; omega)
theorem pure_WalkKids (l : List S52) (id : Int) (h : ∀ p, p ∈ l → p.f4.size ≤ 140737488351232 ∧ p.f5.size ≤ 140737488351232) : ∃ k : Unit, ∀ p, p ∈ l → p.f4.size ≤ 140737488351232 ∧ p.f5.size ≤ 140737488351232 := ⟨(), h⟩
end Go.Proofs.Ytpnlbmeeihbjaaa.P
end
