/- WalkUnders: for every input the law returns true, and each argument reads behind the call as it read before. -/
import Derived.Test.YtpnlbmeeihbjaaaZWN28
import Derived.Test.YtpnlbmeeihbjaaaZWN29
import Derived.Test.YtpnlbmeeihbjaaaZWN32
section
set_option linter.unusedVariables false
set_option linter.unusedSimpArgs false
namespace Go.Proofs.Ytpnlbmeeihbjaaa.P
open Go.RowKit Go.Proofs.YtpnlbmeeihbjaaaW.PrintWords Go.Proofs.YtpnlbmeeihbjaaaW.PrintLast Go.Proofs.YtpnlbmeeihbjaaaW.PrintMore
attribute [local go_sem] max2_int min2_int max_two min_two max_three min_three max_four min_four
set_option linter.unusedVariables false
set_option linter.unusedSimpArgs false
theorem ints_from (l : List Int) (hl : l.length ≤ 9223372036854775807) : ∀ (d i : Nat), i + d = l.length → gouacheref01_Ints.l0 (d + 1) l l (l.length : Int) (i : Int) = some true
  | 0, i, h => by
    unfold gouacheref01_Ints.l0
    rw [if_neg (by omega)]
  | d + 1, i, h => by
    unfold gouacheref01_Ints.l0
    rw [if_pos (by omega), if_pos (by omega), if_pos (by omega), if_pos (by omega), if_pos rfl, show wrap64 ((i : Int) + 1) = ((i + 1 : Nat) : Int) by unfold wrap64; omega]
    exact ints_from l hl d (i + 1) (by omega)
theorem ints_same (l : List Int) (hl : l.length ≤ 9223372036854775807) : gouacheref01_Ints.f (l.length + 1) l l = some true := by
  unfold gouacheref01_Ints.f
  rw [if_pos rfl]
  exact ints_from l hl l.length 0 (by omega)
theorem ints_calls (u v : Value) (l : List Int) (w : World) (h : RdI w u l) (h2 : RdI w v l) (hl : l.length ≤ 9223372036854775807) : Calls Try.prog 13 #[u, v] w fun e w' => e = .returned (.bool true) ∧ Below w.heap.size w w' := by
  obtain ⟨A, c, rfl, hc, hC⟩ := h
  obtain ⟨A2, c2, rfl, hc2, hC2⟩ := h2
  refine (gouacheref01_Ints.calls _ A c l A2 c2 l true w hC hc hC2 hc2 (ints_same l hl)).mono ?_
  rintro e w' ⟨rfl, hd⟩
  exact ⟨rfl, by obtain ⟨m, rfl⟩ := hd; exact pw_below_drewN (Below.refl _ _) _⟩
def lv : List S52 := [⟨0, 1, 0, 0, ⟨#[98]⟩, ⟨#[]⟩⟩, ⟨0, 1, 1, 0, ⟨#[100]⟩, ⟨#[]⟩⟩, ⟨0, 2, 0, 0, ⟨#[99]⟩, ⟨#[]⟩⟩]
theorem lv_pre : pre (runA tree0 lv).1 1 = [1, 2, 4, 3] := by kernel_rfl
theorem lv_row : rowR (runA tree0 lv).1 3 = [2, 3] := by kernel_rfl
theorem lv_ch : (ch (runA tree0 lv).1 4).length = 3 := by kernel_rfl
theorem lv_cmp : cmpR (runA tree0 lv).1 4 3 = -1 := by
  have hg := good_tree lv
  have h1 : ∀ k ∈ pre (runA tree0 lv).1 1, look (runA tree0 lv).1 k ≠ none := fun k hk e => by
    obtain ⟨x, hx⟩ := pre_look hg hk
    rw [e] at hx; cases hx
  rw [cmp_some (by
    rintro (h | h | h)
    · exact h1 4 (by rw [lv_pre]; simp) h
    · exact h1 3 (by rw [lv_pre]; simp) h
    · exact absurd h (by decide)), lv_pre]
  rfl
theorem lv_plc : plc1 (runA tree0 lv).1 3 = 2 ∧ plc2 (runA tree0 lv).1 3 = 1 := by
  unfold plc1 plc2
  rw [lv_row]
  exact ⟨rfl, rfl⟩
theorem lv_C (w : World) (g : Nat) (h : w.heap[g]? = some (.cells #[.int .i64 0, .int .i64 1, .int .i64 0, .int .i64 0, .string ⟨#[98]⟩, .string ⟨#[]⟩, .int .i64 0, .int .i64 1, .int .i64 1, .int .i64 0, .string ⟨#[100]⟩, .string ⟨#[]⟩, .int .i64 0, .int .i64 2, .int .i64 0, .int .i64 0, .string ⟨#[99]⟩, .string ⟨#[]⟩] 52 (0, 0))) : Kd.C k52 w (some ⟨g, 0, none⟩) lv.length lv := by
  refine ⟨rfl, by decide, fun _ => ⟨⟨g, 0, none⟩, rfl, fun j p hj => ?_⟩⟩
  rcases j with _ | _ | _ | j
  · obtain rfl := Option.some.inj hj
    refine ⟨_, rfl, k52_mk w _, fun m u hm => ?_⟩
    rcases m with _ | _ | _ | _ | _ | _ | m <;> first | exact (blk_cell h _).trans hm | simp at hm
  · obtain rfl := Option.some.inj hj
    refine ⟨_, rfl, k52_mk w _, fun m u hm => ?_⟩
    rcases m with _ | _ | _ | _ | _ | _ | m <;> first | exact (blk_cell h _).trans hm | simp at hm
  · obtain rfl := Option.some.inj hj
    refine ⟨_, rfl, k52_mk w _, fun m u hm => ?_⟩
    rcases m with _ | _ | _ | _ | _ | _ | m <;> first | exact (blk_cell h _).trans hm | simp at hm
  · simp [lv] at hj
set_option maxHeartbeats 8000000 in
set_option maxRecDepth 100000 in
theorem lives_calls (w : World) : Calls Try.prog 10 #[] w fun e w' => e = .returned (.bool true) ∧ Below w.heap.size w w' := by
  have hu52 := Try.underlying52
  have hu29 := Try.underlying29
  have HG := Aside0.mk (good_tree lv)
  have HPR := Aside0.mk lv_pre
  have HCH := Aside0.mk lv_ch
  have HCM := Aside0.mk lv_cmp
  have HPL := Aside0.mk lv_plc
  have HT : Aside0 (∀ (W : World) (g : Nat), W.heap[g]? = some (.cells #[.int .i64 0, .int .i64 1, .int .i64 0, .int .i64 0, .string ⟨#[98]⟩, .string ⟨#[]⟩, .int .i64 0, .int .i64 1, .int .i64 1, .int .i64 0, .string ⟨#[100]⟩, .string ⟨#[]⟩, .int .i64 0, .int .i64 2, .int .i64 0, .int .i64 0, .string ⟨#[99]⟩, .string ⟨#[]⟩] 52 (0, 0)) →
      Calls Try.prog 11 #[.slice (some ⟨g, 0, none⟩) 3 3] W fun e w' => ∃ v u, e = .returned (.tuple #[v, u]) ∧ DocF w' v (runA tree0 lv).1 (runA tree0 lv).2 ∧ Below W.heap.size W w') := ⟨fun W g h => by
    refine (tree_calls lv (some ⟨g, 0, none⟩) 3 W (lv_C W g h) (by decide) (by intro p hp; simp [lv] at hp; rcases hp with rfl | rfl | rfl <;> decide)).mono ?_
    rintro e w' ⟨v, u, he, hd, _, hb⟩
    exact ⟨v, u, he, hd, hb⟩⟩
  generalize (runA tree0 lv).1 = f at HG HPR HCH HCM HPL HT
  generalize (runA tree0 lv).2 = next at HG HT
  go_enter Try.func10, Try.ntmps10
  go_upto_region 2 with (first | (go_at_call 11; refine (HT.out _ _ (blk_new _ _)).mono ?_; rintro e W1 ⟨v, u, rfl, hd, hb1⟩; have HD := Aside0.mk hd; have HB1 := Aside0.mk (below_then (below_alloc (Below.refl w.heap.size w) _) (below_alloc (Below.refl w.heap.size w) _).size hb1); clear hd hb1) | fail)
  go_upto_region 3 with (first | (go_at_call 22; refine (place_calls v f next 3 _ HD.out HG.out).mono ?_; rintro e W2 ⟨rfl, hb2⟩; rw [HPL.out.1, HPL.out.2]; have HD2 := Aside0.mk (HD.out.below hb2); have HB2 := Aside0.mk (below_then HB1.out HB1.out.size hb2); clear hb2) | fail)
  go_wp2_with (first
    | (go_at_call 15; refine (order_calls v f next _ HD2.out HG.out).mono ?_; rintro e W3 ⟨o, rfl, hR, hb3⟩; rw [HPR.out] at hR; have HR3 := Aside0.mk (RdI.of_R hR); have HB23 := Aside0.mk hb3; obtain ⟨A, c, rfl, _, _⟩ := RdI.of_R hR; clear hb3 hR)
    | (go_at_call 13; refine (ints_calls _ _ [1, 2, 4, 3] _ (HR3.out.below (below_alloc (Below.refl _ _) _)) (RdI.of_R (own_laid (xs := [1, 2, 4, 3]) (n := 4) (cap := 4) (base := 0) (Nat.zero_le _) (blk_new _ _) rfl (Nat.le_refl _) (show 4 ≤ maxLen by decide) rfl rfl (fun _ => True) trivial)) (by simp)).mono ?_; rintro e W4 ⟨rfl, hb4⟩; have HB24 := Aside0.mk (below_then (below_alloc HB23.out _) (below_alloc HB23.out _).size hb4); clear hb4)
    | (go_at_call 21; refine (wcmp_calls v f next 4 3 _ (HD2.out.below HB24.out) HG.out).mono ?_; rintro e W5 ⟨rfl, hb5⟩; rw [HCM.out]; have HB25 := Aside0.mk (below_then HB24.out HB24.out.size hb5); clear hb5)
    | (go_at_call 18; refine (wdepth_calls v f next 4 _ (HD2.out.below HB25.out) HG.out).mono ?_; rintro e W6 ⟨rfl, hb6⟩; rw [HCH.out]; have HB26 := Aside0.mk (below_then HB25.out HB25.out.size hb6); clear hb6)
    | fail)
  go_ret
  exact ⟨rfl, below_then HB2.out HB2.out.size HB26.out⟩
end Go.Proofs.Ytpnlbmeeihbjaaa.P
end
section
set_option linter.unusedVariables false
set_option linter.unusedSimpArgs false
namespace Go.Proofs.Ytpnlbmeeihbjaaa.P
open Go.RowKit Go.Proofs.YtpnlbmeeihbjaaaW.PrintWords Go.Proofs.YtpnlbmeeihbjaaaW.PrintLast Go.Proofs.YtpnlbmeeihbjaaaW.PrintMore
attribute [local go_sem] max2_int min2_int max_two min_two max_three min_three max_four min_four
set_option linter.unusedVariables false
set_option linter.unusedSimpArgs false
theorem light8 (l : List S52) (A : Option Addr) (c : Nat) (w : World) (hC : Kd.C k52 w A l.length l) (hc : l.length ≤ c) : ∃ b, Calls Try.prog 9 #[.slice A l.length c, .int .i64 80] w fun e w' => e = .returned (.bool b) ∧ Below w.heap.size w w' := by
  obtain ⟨k, b, hb⟩ := light_some l 80 hC.2.1
  refine ⟨b, (gouacheref07_Light.calls k A c l 80 b w hC hc hb).mono ?_⟩
  rintro e w' ⟨rfl, hd⟩
  exact ⟨rfl, hd⟩
section
variable {f : Nat → Option S40} {next : Int}
theorem up_root (hg : Good f next) {k : Int} {x : S40} (hk : look f k = some x) (h : upR f k = []) : k = 1 := by
  by_cases e : k = 1
  · exact e
  · obtain ⟨p, hp, _⟩ := hg.par k x hk e
    have := hg.dom _ p hp
    rw [(up_next hg hk (by omega)).1] at h
    cases h
theorem up_some (hg : Good f next) {k : Int} (h : upR f k ≠ []) : ∃ x, look f k = some x ∧ 0 < x.f2 ∧ upR f k = x.f2 :: upR f x.f2 ∧ (look f x.f2).isSome = true := by
  cases e : look f k with
  | none => exact absurd (up_none e) h
  | some x =>
    by_cases c : 0 < x.f2
    · refine ⟨x, rfl, c, (up_next hg e c).1, ?_⟩
      have hk1 : k ≠ 1 := fun h1 => by
        subst h1
        obtain ⟨r, hr, hr0⟩ := hg.root
        rw [e] at hr
        obtain rfl := Option.some.inj hr
        omega
      obtain ⟨p, hp, _⟩ := hg.par k x e hk1
      rw [hp]; rfl
    · exact absurd (up_stop hg e c) h
end
set_option maxHeartbeats 32000000 in
set_option maxRecDepth 100000 in
theorem ups_calls (l : List S52) (A : Option Addr) (c : Nat) (id : Int) (w : World) (hC : Kd.C k52 w A l.length l) (hc : l.length ≤ c) (hs : ∀ p, p ∈ l → p.f4.size ≤ 140737488355328 ∧ p.f5.size ≤ 140737488355328) :
    Calls Try.prog 4 #[.slice A l.length c, .int .i64 id] w fun e w' => e = .returned (.bool true) ∧ Below w.heap.size w w' := by
  obtain ⟨b, hlight⟩ := light8 l A c w hC hc
  have HLI := Aside0.mk hlight
  have HT : Aside0 (∀ W, Below w.heap.size w W → Calls Try.prog 11 #[.slice A l.length c] W fun e w' => ∃ v u, e = .returned (.tuple #[v, u]) ∧ DocF w' v (runA tree0 l).1 (runA tree0 l).2 ∧ RD w' u (runA tree0 l).1 (runA tree0 l).2 ∧ Below W.heap.size W w') := ⟨fun W hW => tree_calls l A c W (Kd.C_below hC hW) hc hs⟩
  have HG := Aside0.mk (good_tree l)
  generalize (runA tree0 l).1 = f at HT HG
  generalize (runA tree0 l).2 = next at HT HG
  have hu40 := Try.underlying40
  have hu29 := Try.underlying29
  clear hlight hC hs hc
  cases b with
  | false =>
    go_enter Try.func4, Try.ntmps4
    go_wp2_with (first
      | (go_at_call 9; refine HLI.out.mono ?_; rintro e W1 ⟨rfl, hb1⟩; have HB1 := Aside0.mk hb1; clear hb1)
      | (go_at_call 10; refine (lives_calls _).mono ?_; rintro e W2 ⟨rfl, hb2⟩; have HB2 := Aside0.mk (below_then HB1.out HB1.out.size hb2); clear hb2)
      | fail)
    go_ret
    exact ⟨rfl, HB2.out⟩
  | true =>
    go_enter Try.func4, Try.ntmps4
    go_upto_region 6 with (first
      | (go_at_call 9; refine HLI.out.mono ?_; rintro e W1 ⟨rfl, hb1⟩; have HB1 := Aside0.mk hb1; clear hb1)
      | (go_at_call 11; refine (HT.out _ HB1.out).mono ?_; rintro e W2 ⟨v, u, rfl, hd, hr, hb2⟩; have HD := Aside0.mk hd; have HR := Aside0.mk hr; have HB2 := Aside0.mk (below_then HB1.out HB1.out.size hb2); clear hd hr hb2)
      | (go_at_call 16; refine (up_calls v f next id _ HD.out HG.out).mono ?_; rintro e W3 ⟨o, rfl, hR, hb3⟩; have HO := Aside0.mk (RdI.of_R hR); have HB23 := Aside0.mk hb3; have HB3 := Aside0.mk (below_then HB2.out HB2.out.size hb3); clear hb3 hR)
      | fail)
    obtain ⟨L, hL⟩ : ∃ L, L = upR f id := ⟨_, rfl⟩
    rw [← hL] at HO
    obtain ⟨Au, cu, rfl, hcu, hCu⟩ := HO.out
    have HCU := Aside0.mk hCu
    have HLL : Aside0 (L = upR f id ∧ L.length ≤ 512) := ⟨hL, by rw [hL, up_len]; have := ch_le HG.out id; omega⟩
    clear hL hcu hCu
    go_wp2_with fail
    go_loopg [8, 30] (L.length + 1) (fun kq v8 v30 w' => ∃ (at_ : Int) (i : Nat) (dn : List Int), v8 = .int .i64 at_ ∧ v30 = .int .i64 i ∧ Aside0 (i + kq = L.length + 1) ∧ Aside0 (dn.length = i) ∧ Aside0 (L = dn ++ upR f at_) ∧ Aside0 ((look f at_).isSome = (look f id).isSome) ∧ Aside0 (Below W3.heap.size W3 w'))
    case atStart => exact ⟨id, 0, [], rfl, rfl, ⟨by omega⟩, ⟨rfl⟩, ⟨by rw [HLL.out.1]; rfl⟩, ⟨rfl⟩, ⟨Below.refl _ _⟩⟩
    case round =>
      obtain ⟨k, i, dn, rfl, rfl, HK, HDN, HE, HIS, HBW⟩ := hrel
      cases gk with
      | zero => exact absurd HK.out (by have := congrArg List.length HE.out; have := HDN.out; simp at *; omega)
      | succ g0 =>
        by_cases c0 : i < L.length
        · have hne : upR f k ≠ [] := fun h => by have h2 := congrArg List.length HE.out; rw [h] at h2; have := HDN.out; simp at h2; omega
          obtain ⟨x, hx, hx2, hup, hsx⟩ := up_some HG.out hne
          obtain ⟨ad, cc, rfl, hcl, hK2, hcell⟩ := Kd.C_get (Kd.C_below HCU.out HBW.out) (0 : Int) (i : Int) (by omega) (by omega)
          have hk0 : cc = [.int .i64 (L.getD i 0)] := hK2
          have hq := hcell 0 _ (by rw [hk0]; rfl)
          have hLi : L.getD i 0 = x.f2 := by rw [HE.out, hup, ← HDN.out]; simp
          rw [hLi, Int.toNat_natCast, show i * (Kd.int .i64).sz + 0 = i by show i * 1 + 0 = _; omega] at hq
          have HX := Aside0.mk (And.intro hx (And.intro hup hsx))
          have HCM : Aside0 (cmpR f x.f2 id = -1) := ⟨cmp_up HG.out (by rw [← HLL.out.1, HE.out, hup]; simp)⟩
          have HBW2 := Aside0.mk (below_then HB23.out HB23.out.size HBW.out)
          have c1 : decide (i < L.length) = true := decide_eq_true c0
          have z0 : (0 ≤ (i : Int)) = True := eq_true (by omega)
          have z1 : ((i : Int) < (L.length : Int)) = True := eq_true (by omega)
          have HI0 := Aside0.mk c0
          clear hne hcl hK2 hcell hk0 hLi hx hx2 hup hsx c0
          go_wp2_with (first
            | (go_at_call 20; refine (copy_calls v f next k W2 _ HD.out HBW2.out (HG.out.sizes k).1 (HG.out.sizes k).2).mono ?_; rintro e W4 ⟨cs, rfl, hM, hb4⟩; rw [HX.out.1] at hM ⊢; obtain ⟨A3, c3, A4, c4, rfl⟩ := k40_cellsM (x := x) hM; have HB4 := Aside0.mk (below_alloc hb4 (.cells #[.int .i64 x.f0, .string x.f1, .int .i64 x.f2, .slice A3 x.f3.length c3, .slice A4 x.f4.length c4] 40)); clear hM hb4)
            | (go_at_call 21; refine (wcmp_calls v f next x.f2 id _ (HD.out.below (below_then HBW2.out HBW2.out.size HB4.out)) HG.out).mono ?_; rintro e W5 ⟨rfl, hb5⟩; rw [HCM.out]; have HB5 := Aside0.mk (below_then HBW.out HBW.out.size (below_then HB4.out HB4.out.size hb5)); clear hb5)
            | fail)
          go_roundg g0
          case measure => have := HK.out; omega
          case rel => exact ⟨x.f2, i + 1, dn ++ [x.f2], rfl, (by have := HI0.out; have := HLL.out.2; congr 1; unfold wrap64; omega), ⟨by have := HK.out; omega⟩, ⟨by have := HDN.out; simp; omega⟩, ⟨by rw [HE.out, HX.out.2.1]; simp⟩, ⟨by rw [← HIS.out, HX.out.1, HX.out.2.2]; rfl⟩, HB5⟩
        · have c1 : decide (i < L.length) = false := decide_eq_false c0
          have hup : upR f k = [] := by
            have h2 := congrArg List.length HE.out
            have := HDN.out
            simp at h2
            exact List.eq_nil_of_length_eq_zero (by omega)
          have hLd : L.length = (upR f id).length := by rw [← HLL.out.1]
          have HBW2 := Aside0.mk (below_then HB23.out HB23.out.size HBW.out)
          cases hl : look f id with
          | none =>
            have hk1 : (k == 1) = false := by
              have h3 := HIS.out
              rw [hl] at h3
              obtain ⟨r, hr, _⟩ := HG.out.root
              have : k ≠ 1 := fun e => by rw [e, hr] at h3; cases h3
              simpa using this
            have hL0 : L.length = 0 := by rw [hLd, up_none hl]; rfl
            have HL := Aside0.mk hl
            have HCH : Aside0 (((ch f id).length : Int) = 0) := ⟨by rw [ch_none id hl]; rfl⟩
            obtain rfl := List.eq_nil_of_length_eq_zero hL0
            clear hl hup hLd c0 hL0
            go_wp2_with (first
              | (go_at_call 20; refine (copy_calls v f next id W2 _ HD.out HBW2.out (HG.out.sizes id).1 (HG.out.sizes id).2).mono ?_; rintro e W4 ⟨cs, rfl, hM, hb4⟩; rw [HL.out] at hM ⊢; obtain ⟨A3, c3, A4, c4, rfl⟩ := k40_cellsM (x := z40) hM; have HB4 := Aside0.mk (below_then HBW2.out HBW2.out.size (below_alloc hb4 (.cells #[.int .i64 z40.f0, .string z40.f1, .int .i64 z40.f2, .slice A3 z40.f3.length c3, .slice A4 z40.f4.length c4] 40))); clear hM hb4)
              | (go_at_call 18; refine (wdepth_calls v f next id _ (HD.out.below HB4.out) HG.out).mono ?_; rintro e W5 ⟨rfl, hb5⟩; rw [HCH.out]; have HB5 := Aside0.mk (below_then HB4.out HB4.out.size hb5); clear hb5)
              | (go_at_call 10; refine (lives_calls _).mono ?_; rintro e WL ⟨rfl, hbl⟩; have HBL := Aside0.mk (below_then HB5.out HB5.out.size hbl); clear hbl)
              | fail)
            go_ret
            exact ⟨rfl, below_then HB2.out HB2.out.size HBL.out⟩
          | some y =>
            obtain rfl : k = 1 := by
              have h3 := HIS.out
              rw [hl] at h3
              cases hk : look f k with
              | none => rw [hk] at h3; cases h3
              | some z => exact up_root HG.out hk hup
            have HL := Aside0.mk hl
            obtain ⟨n, hn⟩ : ∃ n : Int, n = ((ch f id).length : Int) := ⟨_, rfl⟩
            have HCH : Aside0 (((ch f id).length : Int) = n) := ⟨hn.symm⟩
            have d0 : (wrap64 ((L.length : Int) + 1) == n) = true := by rw [hn, hLd, up_len]; have := ch_pos HG.out hl; have := ch_le HG.out id; simp; unfold wrap64; omega
            clear hl hup hLd c0 hn
            go_wp2_with (first
              | (go_at_call 20; refine (copy_calls v f next id W2 _ HD.out HBW2.out (HG.out.sizes id).1 (HG.out.sizes id).2).mono ?_; rintro e W4 ⟨cs, rfl, hM, hb4⟩; rw [HL.out] at hM ⊢; obtain ⟨A3, c3, A4, c4, rfl⟩ := k40_cellsM (x := y) hM; have HB4 := Aside0.mk (below_then HBW2.out HBW2.out.size (below_alloc hb4 (.cells #[.int .i64 y.f0, .string y.f1, .int .i64 y.f2, .slice A3 y.f3.length c3, .slice A4 y.f4.length c4] 40))); clear hM hb4)
              | (go_at_call 18; refine (wdepth_calls v f next id _ (HD.out.below HB4.out) HG.out).mono ?_; rintro e W5 ⟨rfl, hb5⟩; rw [HCH.out]; have HB5 := Aside0.mk (below_then HB4.out HB4.out.size hb5); clear hb5)
              | (go_at_call 10; refine (lives_calls _).mono ?_; rintro e WL ⟨rfl, hbl⟩; have HBL := Aside0.mk (below_then HB5.out HB5.out.size hbl); clear hbl)
              | fail)
            go_ret
            exact ⟨rfl, below_then HB2.out HB2.out.size HBL.out⟩
theorem lawWalkUps.calls (k : Unit) (A : Option Addr) (c : Nat) (l : List S52) (id : Int) (r : Bool) (w : World) (hC : Kd.C k52 w A l.length l) (hc : l.length ≤ c) (h : ∀ p, p ∈ l → p.f4.size ≤ 140737488351232 ∧ p.f5.size ≤ 140737488351232) :
    Calls Try.prog 4 #[.slice A l.length c, .int .i64 id] w fun e w' => e = .returned (.bool true) ∧ Below w.heap.size w w' :=
  ups_calls l A c id w hC hc (fun p hp => by have := h p hp; omega)
end Go.Proofs.Ytpnlbmeeihbjaaa.P
end
section
set_option linter.unusedVariables false
set_option linter.unusedSimpArgs false
namespace Go.Proofs.Ytpnlbmeeihbjaaa.P
open Go.RowKit Go.Proofs.YtpnlbmeeihbjaaaW.PrintWords Go.Proofs.YtpnlbmeeihbjaaaW.PrintLast Go.Proofs.YtpnlbmeeihbjaaaW.PrintMore
attribute [local go_sem] max2_int min2_int max_two min_two max_three min_three max_four min_four
set_option linter.unusedVariables false
set_option linter.unusedSimpArgs false
theorem rnodeD_calls (v : Value) (f : Nat → Option S40) (next n : Int) (w : World) (h : RD w v f next) (hg : Good f next) : Calls Try.prog 38 #[v, .int .i64 n] w (CopyPost w (look f n)) := rnode_calls v f next n w h hg
end Go.Proofs.Ytpnlbmeeihbjaaa.P
end
section
set_option linter.unusedVariables false
set_option linter.unusedSimpArgs false
namespace Go.Proofs.Ytpnlbmeeihbjaaa.P
open Go.RowKit Go.Proofs.YtpnlbmeeihbjaaaW.PrintWords Go.Proofs.YtpnlbmeeihbjaaaW.PrintLast Go.Proofs.YtpnlbmeeihbjaaaW.PrintMore
attribute [local go_sem] max2_int min2_int max_two min_two max_three min_three max_four min_four
set_option linter.unusedVariables false
set_option linter.unusedSimpArgs false
def upto (f : Nat → Option S40) (id : Int) (l : List Int) (i : Nat) : List Int := id :: (l.take i).flatMap (pre f)
section
variable {f : Nat → Option S40} {next : Int}
theorem upto_succ (id : Int) (l : List Int) (i : Nat) (h : i < l.length) : upto f id l (i + 1) = upto f id l i ++ pre f (l.getD i 0) := by
  unfold upto
  rw [List.take_succ_eq_append_getElem h, List.flatMap_append]
  simp [List.getD_eq_getElem?_getD, h]
theorem upto_all (hg : Good f next) {id : Int} {x : S40} (hx : look f id = some x) : upto f id x.f3 x.f3.length = pre f id := by
  unfold upto
  rw [List.take_length, pre_step hg hx]
theorem upto_len (hg : Good f next) {id : Int} {x : S40} (hx : look f id = some x) (i : Nat) (h : i < x.f3.length) : (upto f id x.f3 i).length + (pre f (x.f3.getD i 0)).length ≤ 1048576 := by
  have h1 := pre_len hg id
  rw [← upto_all hg hx] at h1
  have h2 : (upto f id x.f3 (i + 1)).length ≤ (upto f id x.f3 x.f3.length).length := by
    unfold upto
    have e : x.f3.flatMap (pre f) = (x.f3.take (i + 1)).flatMap (pre f) ++ (x.f3.drop (i + 1)).flatMap (pre f) := by rw [← List.flatMap_append, List.take_append_drop]
    rw [List.take_length, e]
    simp only [List.length_cons, List.length_append]
    omega
  rw [upto_succ id x.f3 i h, List.length_append] at h2
  omega
end
set_option maxHeartbeats 16000000 in
set_option maxRecDepth 100000 in
theorem runder_calls (v : Value) (f : Nat → Option S40) (next : Int) (hg : Good f next) : ∀ (m : Nat) (id : Int) (w : World), 513 ≤ m + (ch f id).length → RD w v f next →
    Calls Try.prog 12 #[v, .int .i64 id] w fun e w' => ∃ u, e = .returned u ∧ Kd.R (Kd.int .i64) 3 w' w.heap.size (fun _ => True) u (pre f id) ∧ Below w.heap.size w w'
  | 0, id, w, hm, h => absurd (ch_le hg id) (by omega)
  | m + 1, id, w, hm, h => by
    have HD := Aside0.mk h
    have HG := Aside0.mk hg
    have HB0 := Aside0.mk (Below.refl w.heap.size w)
    have hu40 := Try.underlying40
    have hu29 := Try.underlying29
    cases hl : look f id with
    | none =>
      have HL := Aside0.mk hl
      rw [pre_none hl]
      clear h hg hl hm
      go_enter Try.func12, Try.ntmps12
      go_wp2_with (first
        | (go_at_call 38; (with_reducible refine (rnodeD_calls v f next id _ (HD.out.below HB0.out) HG.out).mono ?_); rintro e W2 ⟨cs, rfl, hM, hb2⟩; rw [HL.out] at hM ⊢; obtain ⟨A2, c2, B2, d2, rfl⟩ := k40_cellsM (x := z40) hM; have HB2 := Aside0.mk (below_alloc (below_then HB0.out HB0.out.size hb2) (.cells #[.int .i64 z40.f0, .string z40.f1, .int .i64 z40.f2, .slice A2 z40.f3.length c2, .slice B2 z40.f4.length d2] 40)); clear hM hb2)
        | fail)
      go_ret
      exact ⟨_, rfl, Kd.R_nil _ _ _ _ _, HB2.out⟩
    | some x =>
      have HL := Aside0.mk hl
      have HX : Aside0 (x.f3.length ≤ 1048576) := ⟨hg.kids_le hl⟩
      have HREC : Aside0 (∀ c ∈ x.f3, ∀ W, RD W v f next → Calls Try.prog 12 #[v, .int .i64 c] W fun e w' => ∃ u, e = .returned u ∧ Kd.R (Kd.int .i64) 3 w' W.heap.size (fun _ => True) u (pre f c) ∧ Below W.heap.size W w') := ⟨fun c hc W hW => runder_calls v f next hg m c W (by rw [kid_len hg hl hc]; omega) hW⟩
      clear h hg hl hm
      go_enter Try.func12, Try.ntmps12
      go_upto_region 4 with (first
        | (go_at_call 38; (with_reducible refine (rnodeD_calls v f next id _ (HD.out.below HB0.out) HG.out).mono ?_); rintro e W2 ⟨cs, rfl, hM, hb2⟩; rw [HL.out] at hM ⊢; obtain ⟨v3, vv4, hcs, hR3, hR4⟩ := k40_openM hM; obtain ⟨cs⟩ := cs; simp only at hcs; obtain ⟨A2, c2, rfl, hd3, hC3⟩ := Kd.R_reads hR3; obtain ⟨B2, d2, rfl, _, _⟩ := Kd.R_reads hR4; subst hcs; have HC2 := Aside0.mk (show RdI W2 (.slice A2 x.f3.length c2) x.f3 from ⟨A2, c2, rfl, hd3, hC3⟩); have HB2 := Aside0.mk hb2; clear hM hb2 hR3 hR4 hC3 hd3)
        | fail)
      have hn4 := blk_new W2 (.cells #[.int .i64 x.f0, .string x.f1, .int .i64 x.f2, .slice A2 x.f3.length c2, .slice B2 x.f4.length d2] 40)
      have HB4 : Aside0 (Below w.heap.size w (W2.alloc (.cells #[.int .i64 x.f0, .string x.f1, .int .i64 x.f2, .slice A2 x.f3.length c2, .slice B2 x.f4.length d2] 40))) := ⟨below_alloc HB2.out _⟩
      have HC4 : Aside0 (RdI (W2.alloc (.cells #[.int .i64 x.f0, .string x.f1, .int .i64 x.f2, .slice A2 x.f3.length c2, .slice B2 x.f4.length d2] 40)) (.slice A2 x.f3.length c2) x.f3) := ⟨HC2.out.below (below_alloc (Below.refl _ _) _)⟩
      generalize W2.alloc (.cells #[.int .i64 x.f0, .string x.f1, .int .i64 x.f2, .slice A2 x.f3.length c2, .slice B2 x.f4.length d2] 40) = W4 at hn4 HB4 HC4 ⊢
      obtain ⟨g, hgd⟩ : ∃ g, g = W2.heap.size := ⟨_, rfl⟩
      rw [← hgd] at hn4 ⊢
      have HN4 := Aside0.mk hn4
      clear hn4 hgd
      go_upto_region 5 with (first | fail)
      have hl5 := blk_new W4 (.cells #[.int .i64 id] 3)
      have HR5 : Aside0 (Kd.R (Kd.int .i64) 3 (W4.alloc (.cells #[.int .i64 id] 3)) W4.heap.size (fun _ => True) (.slice (some ⟨W4.heap.size, 0, none⟩) 1 1) [id]) := ⟨own_laid (xs := [id]) (n := 1) (cap := 1) (base := W4.heap.size) (Nat.le_refl _) hl5 rfl (Nat.le_refl _) (show 1 ≤ maxLen by decide) rfl rfl (fun _ => True) trivial⟩
      have HB5 : Aside0 (Below W4.heap.size W4 (W4.alloc (.cells #[.int .i64 id] 3))) := ⟨below_alloc (Below.refl _ _) _⟩
      generalize hS5 : (.slice (some ⟨W4.heap.size, 0, none⟩) 1 1 : Value) = s5 at HR5 ⊢
      generalize W4.alloc (.cells #[.int .i64 id] 3) = W5 at HR5 HB5 ⊢
      have r3 := (blk_cell (blk_below HN4.out HB5.out) 3).trans (show _ = some (.slice A2 x.f3.length c2) from rfl)
      clear hl5 hS5
      go_wp2_with fail
      clear r3
      go_loopg [7, 23] (x.f3.length + 1) (fun kq v7 v23 w' => ∃ (i : Nat), v23 = .int .i64 i ∧ Aside0 (i + kq = x.f3.length + 1) ∧ Aside0 (i ≤ x.f3.length) ∧ Aside0 (Kd.R (Kd.int .i64) 3 w' W4.heap.size (fun _ => True) v7 (upto f id x.f3 i)) ∧ Aside0 (Below W4.heap.size W4 w'))
      case atStart => exact ⟨0, rfl, ⟨by omega⟩, ⟨by omega⟩, HR5, HB5⟩
      case round =>
        obtain ⟨i, rfl, HK, HI, HR, HBW⟩ := hrel
        cases gk with
        | zero => exact absurd HK.out (by have := HI.out; omega)
        | succ g0 =>
          by_cases c0 : i < x.f3.length
          · obtain ⟨A2', c2', e1, hcl, hC⟩ := HC4.out.below HBW.out
            injection e1 with e1 e2 e3
            subst e1 e3
            obtain ⟨ad, cc, rfl, hcl2, hK2, hcell⟩ := Kd.C_get hC (0 : Int) (i : Int) (by omega) (by omega)
            have hk0 : cc = [.int .i64 (x.f3.getD i 0)] := hK2
            have hq := hcell 0 _ (by rw [hk0]; rfl)
            rw [Int.toNat_natCast, show i * (Kd.int .i64).sz + 0 = i by show i * 1 + 0 = _; omega] at hq
            obtain ⟨k, hk⟩ : ∃ k, k = x.f3.getD i 0 := ⟨_, rfl⟩
            rw [← hk] at hq
            have HKM : Aside0 (k ∈ x.f3) := ⟨by rw [hk]; simp [List.getD_eq_getElem?_getD, c0]⟩
            have HLEN := Aside0.mk (upto_len HG.out HL.out i c0)
            have HSU := Aside0.mk (upto_succ (f := f) id x.f3 i c0)
            rw [← hk] at HLEN HSU
            have HB4W := Aside0.mk (below_then HB4.out HB4.out.size HBW.out)
            have c1 : decide (i < x.f3.length) = true := decide_eq_true c0
            have z0 : (0 ≤ (i : Int)) = True := eq_true (by omega)
            have z1 : ((i : Int) < (x.f3.length : Int)) = True := eq_true (by omega)
            have HI0 := Aside0.mk c0
            clear hC hcl hcl2 hK2 hcell hk0 hk c0
            go_wp2_with (first
              | (go_at_call 12; refine (HREC.out k HKM.out _ (HD.out.below HB4W.out)).mono ?_; rintro e W6 ⟨u, rfl, hR6, hb6⟩; obtain ⟨B, d, rfl, hd, hC⟩ := Kd.R_reads hR6; have HC6 := Aside0.mk hC; have HR6 := Aside0.mk (Kd.R_below HR.out hb6); have HB6 := Aside0.mk (below_then HBW.out HBW.out.size hb6); clear hR6 hb6 hC hd)
              | ((with_reducible refine gate_builtin (b := .append) rfl ?_); at_builtin; refine Kd.R_append_row (w0 := W4) (Value.int .i64) (0 : Int) (h1 := fun _ => rfl) W4.heap.size rfl (.tmp 27) (.tmp 30) 29 3 (.int .i64 0) 8 rfl Try.underlying29 info3 rfl (by decide) _ (upto f id x.f3 i) (pre f k) B (pre f k).length d (fun _ => True) rfl rfl (fun _ _ => trivial) HR6.out HC6.out HB6.out HB6.out.size (by have := HLEN.out; omega) ?_; intro v7 W7 hR7 hb7 _ _; have HR7 := Aside0.mk (show Kd.R (Kd.int .i64) 3 W7 W4.heap.size (fun _ => True) v7 (upto f id x.f3 i ++ pre f k) from hR7); have HB7 := Aside0.mk hb7; clear hR7 hb7)
              | fail)
            go_roundg g0
            case measure => have := HK.out; omega
            case rel => exact ⟨i + 1, (by have := HI0.out; have := HX.out; congr 1; unfold wrap64; omega), ⟨by have := HK.out; omega⟩, ⟨HI0.out⟩, ⟨by rw [HSU.out]; exact HR7.out⟩, HB7⟩
          · obtain rfl : i = x.f3.length := by have := HI.out; omega
            have c1 : decide (x.f3.length < x.f3.length) = false := decide_eq_false (by omega)
            clear c0
            go_wp2_with fail
            go_ret
            exact ⟨_, rfl, by rw [← upto_all HG.out HL.out]; exact Kd.R_lower HR.out HB4.out.size, below_then HB4.out HB4.out.size HBW.out⟩
end Go.Proofs.Ytpnlbmeeihbjaaa.P
end
section
set_option linter.unusedVariables false
set_option linter.unusedSimpArgs false
namespace Go.Proofs.Ytpnlbmeeihbjaaa.P
open Go.RowKit Go.Proofs.YtpnlbmeeihbjaaaW.PrintWords Go.Proofs.YtpnlbmeeihbjaaaW.PrintLast Go.Proofs.YtpnlbmeeihbjaaaW.PrintMore
attribute [local go_sem] max2_int min2_int max_two min_two max_three min_three max_four min_four
set_option linter.unusedVariables false
set_option linter.unusedSimpArgs false
set_option maxHeartbeats 8000000 in
set_option maxRecDepth 100000 in
theorem rup_calls (v : Value) (f : Nat → Option S40) (next id : Int) (w : World) (h : RD w v f next) (hg : Good f next) :
    Calls Try.prog 17 #[v, .int .i64 id] w fun e w' => ∃ u, e = .returned u ∧ Kd.R (Kd.int .i64) 3 w' w.heap.size (fun _ => True) u (upR f id) ∧ Below w.heap.size w w' := by
  have HD := Aside0.mk h
  have HG := Aside0.mk hg
  have hu40 := Try.underlying40
  have hu29 := Try.underlying29
  clear h hg
  go_enter Try.func17, Try.ntmps17
  go_wp2_with fail
  go_loopg [1, 5] ((ch f id).length + 1) (fun kq v1 v5 w' => ∃ (k : Int) (l : List Int) (u : Value), v1 = .int .i64 k ∧ u = v5 ∧ Aside0 (upR f id = l ++ upR f k) ∧ Aside0 ((ch f k).length < kq) ∧ Aside0 (Kd.R (Kd.int .i64) 3 w' w.heap.size (fun _ => True) u l) ∧ Aside0 (Below w.heap.size w w') ∧ Aside0 (l.length + (ch f k).length ≤ 513))
  case atStart => exact ⟨id, [], _, rfl, rfl, ⟨rfl⟩, ⟨by omega⟩, ⟨Kd.R_nil _ _ _ _ _⟩, ⟨Below.refl _ _⟩, ⟨by have := ch_le HG.out id; simp; omega⟩⟩
  case round =>
    obtain ⟨k, l, u, rfl, rfl, HE, HK, HR, HB, HLN⟩ := hrel
    cases gk with
    | zero => exact absurd HK.out (by omega)
    | succ n =>
      cases hl : look f k with
      | none =>
        have HL := Aside0.mk hl
        clear hl
        go_wp2_with (first | (go_at_call 38; refine (rnodeD_calls v f next k _ (HD.out.below HB.out) HG.out).mono ?_; rintro e W2 ⟨cs, rfl, hM, hb2⟩; rw [HL.out] at hM ⊢; obtain ⟨A2, c2, B2, d2, rfl⟩ := k40_cellsM (x := z40) hM; have HB2 := Aside0.mk (below_then HB.out HB.out.size hb2); have HBR := Aside0.mk hb2; clear hM hb2) | fail)
        go_ret
        exact ⟨_, rfl, by rw [HE.out, up_none HL.out, List.append_nil]; exact Kd.R_below HR.out (below_alloc HBR.out _), below_alloc HB2.out _⟩
      | some x =>
        have HL := Aside0.mk hl
        by_cases c : x.f2 = 0
        · have c1 : (x.f2 == 0) = true := by simp [c]
          have HS := Aside0.mk (up_stop HG.out hl (by omega))
          clear hl c
          go_wp2_with (first | (go_at_call 38; refine (rnodeD_calls v f next k _ (HD.out.below HB.out) HG.out).mono ?_; rintro e W2 ⟨cs, rfl, hM, hb2⟩; rw [HL.out] at hM ⊢; obtain ⟨A2, c2, B2, d2, rfl⟩ := k40_cellsM (x := x) hM; have HB2 := Aside0.mk (below_then HB.out HB.out.size hb2); have HBR := Aside0.mk hb2; clear hM hb2) | fail)
          go_ret
          exact ⟨_, rfl, by rw [HE.out, HS.out, List.append_nil]; exact Kd.R_below HR.out (below_alloc HBR.out _), below_alloc HB2.out _⟩
        · have hpos : 0 < x.f2 := by
            have hk1 : k ≠ 1 := fun h1 => by
              subst h1
              obtain ⟨r, hr, hr0⟩ := HG.out.root
              rw [hl] at hr
              obtain rfl := Option.some.inj hr
              exact c hr0
            obtain ⟨p, hp, _⟩ := HG.out.par k x hl hk1
            have := HG.out.dom _ p hp
            omega
          have c1 : (x.f2 == 0) = false := by simp [c]
          have HUN := Aside0.mk (up_next HG.out hl hpos)
          clear hl c hpos
          go_upto_region 3 with (first | (go_at_call 38; refine (rnodeD_calls v f next k _ (HD.out.below HB.out) HG.out).mono ?_; rintro e W2 ⟨cs, rfl, hM, hb2⟩; rw [HL.out] at hM ⊢; obtain ⟨A2, c2, B2, d2, rfl⟩ := k40_cellsM (x := x) hM; have HB2 := Aside0.mk (below_then HB.out HB.out.size hb2); have HBR := Aside0.mk hb2; clear hM hb2) | fail)
          have hn4 := blk_new W2 (.cells #[.int .i64 x.f0, .string x.f1, .int .i64 x.f2, .slice A2 x.f3.length c2, .slice B2 x.f4.length d2] 40)
          have HB4 : Aside0 (Below w.heap.size w (W2.alloc (.cells #[.int .i64 x.f0, .string x.f1, .int .i64 x.f2, .slice A2 x.f3.length c2, .slice B2 x.f4.length d2] 40))) := ⟨below_alloc HB2.out _⟩
          have HR4 : Aside0 (Kd.R (Kd.int .i64) 3 (W2.alloc (.cells #[.int .i64 x.f0, .string x.f1, .int .i64 x.f2, .slice A2 x.f3.length c2, .slice B2 x.f4.length d2] 40)) w.heap.size (fun j => j ≠ W2.heap.size) u l) := ⟨Kd.R_mono (Kd.R_step (Kd.R_bound HR.out) (fun j hj hlt => (below_alloc HBR.out _).block j hlt)) (fun j hj => by have := HBR.out.size; have := hj.2.2.1; omega)⟩
          have HLT : Aside0 (W2.heap.size < (W2.alloc (.cells #[.int .i64 x.f0, .string x.f1, .int .i64 x.f2, .slice A2 x.f3.length c2, .slice B2 x.f4.length d2] 40)).heap.size) := ⟨by rw [World.size_alloc]; omega⟩
          generalize W2.alloc (.cells #[.int .i64 x.f0, .string x.f1, .int .i64 x.f2, .slice A2 x.f3.length c2, .slice B2 x.f4.length d2] 40) = W4 at hn4 HB4 HR4 HLT ⊢
          obtain ⟨g, hgd⟩ : ∃ g, g = W2.heap.size := ⟨_, rfl⟩
          rw [← hgd] at hn4 HR4 HLT ⊢
          have HN4 := Aside0.mk hn4
          have r2 := (blk_cell hn4 2).trans (show _ = some (.int .i64 x.f2) from rfl)
          clear hn4 hgd
          go_upto_region 6 with (first
            | ((with_reducible refine gate_builtin (b := .append) rfl ?_); at_builtin; refine Kd.R_append (Kd.int .i64) (w0 := w) w.heap.size rfl (.tmp 22) (.tmp 25) 29 3 (.int .i64 0) 8 rfl Try.underlying29 info3 rfl (by decide) (by decide) _ l x.f2 [.int .i64 x.f2] (fun j => j ≠ g) (fun _ => False) rfl rfl rfl (fun _ h => h.elim) (fun j hj => by have := HLT.out; omega) HR4.out HB4.out HB4.out.size (by have := HLN.out; omega) ?_; intro v9 w9 hR hb9 hg9 _; have HR9 := Aside0.mk hR; have HB9 := Aside0.mk hb9; have n2 := (blk_cell ((hg9.block g HLT.out (fun e => HR4.out.1 g e.symm rfl)).trans HN4.out) 2).trans (show _ = some (.int .i64 x.f2) from rfl); clear hR hb9 hg9)
            | fail)
          clear r2
          go_wp2_with fail
          go_roundg n
          case measure => omega
          case rel => exact ⟨x.f2, l ++ [x.f2], _, rfl, rfl, ⟨by rw [HE.out, HUN.out.1]; simp⟩, ⟨by have := HK.out; have := HUN.out.2; omega⟩, ⟨Kd.R_mono HR9.out (fun _ _ => trivial)⟩, HB9, ⟨by have := HLN.out; have := HUN.out.2; simp; omega⟩⟩
end Go.Proofs.Ytpnlbmeeihbjaaa.P
end
section
set_option linter.unusedVariables false
set_option linter.unusedSimpArgs false
namespace Go.Proofs.Ytpnlbmeeihbjaaa.P
open Go.RowKit Go.Proofs.YtpnlbmeeihbjaaaW.PrintWords Go.Proofs.YtpnlbmeeihbjaaaW.PrintLast Go.Proofs.YtpnlbmeeihbjaaaW.PrintMore
attribute [local go_sem] max2_int min2_int max_two min_two max_three min_three max_four min_four
set_option linter.unusedVariables false
set_option linter.unusedSimpArgs false
theorem firstR_len (l : List Int) (most : Int) : (firstR l most).length ≤ l.length := by
  unfold firstR
  split
  · rw [List.length_take]; omega
  · exact Nat.le_refl _
set_option maxHeartbeats 32000000 in
set_option maxRecDepth 100000 in
theorem unders_calls (l : List S52) (A : Option Addr) (c : Nat) (id most : Int) (w : World) (hC : Kd.C k52 w A l.length l) (hc : l.length ≤ c) (hs : ∀ p, p ∈ l → p.f4.size ≤ 140737488355328 ∧ p.f5.size ≤ 140737488355328) :
    Calls Try.prog 3 #[.slice A l.length c, .int .i64 id, .int .i64 most] w fun e w' => e = .returned (.bool true) ∧ Below w.heap.size w w' := by
  obtain ⟨b, hlight⟩ := light8 l A c w hC hc
  have HLI := Aside0.mk hlight
  have HT : Aside0 (∀ W, Below w.heap.size w W → Calls Try.prog 11 #[.slice A l.length c] W fun e w' => ∃ v u, e = .returned (.tuple #[v, u]) ∧ DocF w' v (runA tree0 l).1 (runA tree0 l).2 ∧ RD w' u (runA tree0 l).1 (runA tree0 l).2 ∧ Below W.heap.size W w') := ⟨fun W hW => tree_calls l A c W (Kd.C_below hC hW) hc hs⟩
  have HG := Aside0.mk (good_tree l)
  generalize (runA tree0 l).1 = f at HT HG
  generalize (runA tree0 l).2 = next at HT HG
  have hu40 := Try.underlying40
  have hu29 := Try.underlying29
  clear hlight hC hs hc
  cases b with
  | false =>
    go_enter Try.func3, Try.ntmps3
    go_wp2_with (first
      | (go_at_call 9; refine HLI.out.mono ?_; rintro e W1 ⟨rfl, hb1⟩; have HB1 := Aside0.mk hb1; clear hb1)
      | (go_at_call 10; refine (lives_calls _).mono ?_; rintro e W2 ⟨rfl, hb2⟩; have HB2 := Aside0.mk (below_then HB1.out HB1.out.size hb2); clear hb2)
      | fail)
    go_ret
    exact ⟨rfl, HB2.out⟩
  | true =>
    go_enter Try.func3, Try.ntmps3
    obtain ⟨n, hn⟩ : ∃ n : Int, n = ((ch f id).length : Int) := ⟨_, rfl⟩
    have HCH := Aside0.mk hn.symm
    have HPL : Aside0 ((pre f id).length ≤ 1048576 ∧ (pre f 1).length ≤ 1048576 ∧ (upR f id).length ≤ 512) := ⟨pre_len HG.out id, pre_len HG.out 1, by rw [up_len]; have := ch_le HG.out id; omega⟩
    clear hn
    by_cases c1 : 0 ≤ most
    · have d1 : decide (0 ≤ most) = true := decide_eq_true c1
      by_cases c2 : most < (pre f id).length
      · have d2 : decide (most < ((pre f id).length : Int)) = true := decide_eq_true c2
        have HM := Aside0.mk (And.intro c1 c2)
        clear c1 c2
        go_upto_region 6 with (first
          | (go_at_call 9; refine HLI.out.mono ?_; rintro e W1 ⟨rfl, hb1⟩; have HB1 := Aside0.mk hb1; clear hb1)
          | (go_at_call 11; refine (HT.out _ HB1.out).mono ?_; rintro e W2 ⟨v, u, rfl, hd, hr, hb2⟩; have HD := Aside0.mk hd; have HR := Aside0.mk hr; have HB2 := Aside0.mk (below_then HB1.out HB1.out.size hb2); clear hd hr hb2; have HX := Aside0.mk (Below.refl W2.heap.size W2))
          | (go_at_call 12; (with_reducible refine (runder_calls u f next HG.out 513 id _ (by omega) (HR.out.below HX.out)).mono ?_); rintro e W ⟨z, rfl, hR, hb⟩; obtain ⟨A, c, rfl, hlc, hC⟩ := RdI.of_R hR; have HW := Aside0.mk (show RdI W (.slice A (pre f id).length c) (pre f id) from ⟨A, c, rfl, hlc, hC⟩); have HLC := Aside0.mk hlc; have HX := Aside0.mk (below_then HX.out HX.out.size hb); clear hb hR hlc hC)
          | fail)
        have z0 : (0 ≤ most) = True := eq_true HM.out.1
        have z1 : (most ≤ (c : Int)) = True := eq_true (by have := HM.out.2; have := HLC.out; omega)
        go_upto_region 7 with (first | fail)
        have HW : Aside0 (RdI W (.slice A most.toNat c) (firstR (pre f id) most)) := ⟨by
          obtain ⟨A', c', e, _, hC⟩ := HW.out
          injection e with e1 e2 e3
          subst e1 e3
          unfold firstR
          rw [if_pos HM.out]
          have hl : ((pre f id).take most.toNat).length = most.toNat := by rw [List.length_take]; have := HM.out; omega
          refine ⟨A, c, by rw [hl], by rw [hl]; have := HM.out; have := HLC.out; omega, Kd.C_take hC (by have := HM.out; omega)⟩⟩
        clear z0 z1 d1 d2
        have dn : (n == n) = true := by simp
        go_wp2_with (first
          | (go_at_call 14; (with_reducible refine (list_calls v f next id most _ (HD.out.below HX.out) HG.out).mono ?_); rintro e W ⟨z, rfl, hR, hb⟩; (first | (have HW := Aside0.mk (HW.out.below hb)) | skip); (first | (have HL1 := Aside0.mk (HL1.out.below hb)) | skip); have HX := Aside0.mk (below_then HX.out HX.out.size hb); clear hb; have HL1 := Aside0.mk (RdI.of_R hR); clear hR)
          | (go_at_call 13; (with_reducible refine (ints_calls _ _ (firstR (pre f id) most) _ HL1.out HW.out (by have := HPL.out.1; have := firstR_len (pre f id) most; omega)).mono ?_); rintro e W ⟨rfl, hb⟩; have HX := Aside0.mk (below_then HX.out HX.out.size hb); clear hb)
          | (go_at_call 15; (with_reducible refine (order_calls v f next _ (HD.out.below HX.out) HG.out).mono ?_); rintro e W ⟨z, rfl, hR, hb⟩; clear HL1; have HX := Aside0.mk (below_then HX.out HX.out.size hb); clear hb; have HL1 := Aside0.mk (RdI.of_R hR); clear hR)
          | (go_at_call 12; (with_reducible refine (runder_calls u f next HG.out 513 1 _ (by omega) (HR.out.below HX.out)).mono ?_); rintro e W ⟨z, rfl, hR, hb⟩; (first | (have HW := Aside0.mk (HW.out.below hb)) | skip); (first | (have HL1 := Aside0.mk (HL1.out.below hb)) | skip); have HX := Aside0.mk (below_then HX.out HX.out.size hb); clear hb; have HU1 := Aside0.mk (RdI.of_R hR); clear hR)
          | (go_at_call 13; (with_reducible refine (ints_calls _ _ (pre f 1) _ HL1.out HU1.out (by have := HPL.out.2.1; omega)).mono ?_); rintro e W ⟨rfl, hb⟩; have HX := Aside0.mk (below_then HX.out HX.out.size hb); clear hb)
          | (go_at_call 16; (with_reducible refine (up_calls v f next id _ (HD.out.below HX.out) HG.out).mono ?_); rintro e W ⟨z, rfl, hR, hb⟩; clear HL1; have HX := Aside0.mk (below_then HX.out HX.out.size hb); clear hb; have HL1 := Aside0.mk (RdI.of_R hR); clear hR)
          | (go_at_call 17; (with_reducible refine (rup_calls u f next id _ (HR.out.below HX.out) HG.out).mono ?_); rintro e W ⟨z, rfl, hR, hb⟩; (have HL1 := Aside0.mk (HL1.out.below hb)); have HX := Aside0.mk (below_then HX.out HX.out.size hb); clear hb; have HU1 := Aside0.mk (RdI.of_R hR); clear hR)
          | (go_at_call 13; (with_reducible refine (ints_calls _ _ (upR f id) _ HL1.out HU1.out (by have := HPL.out.2.2; omega)).mono ?_); rintro e W ⟨rfl, hb⟩; have HX := Aside0.mk (below_then HX.out HX.out.size hb); clear hb)
          | (go_at_call 18; (with_reducible refine (wdepth_calls v f next id _ (HD.out.below HX.out) HG.out).mono ?_); rintro e W ⟨rfl, hb⟩; rw [HCH.out]; have HX := Aside0.mk (below_then HX.out HX.out.size hb); clear hb)
          | (go_at_call 19; (with_reducible refine (rdepth_calls u f next id _ (HR.out.below HX.out) HG.out).mono ?_); rintro e W ⟨rfl, hb⟩; rw [HCH.out]; have HX := Aside0.mk (below_then HX.out HX.out.size hb); clear hb)
          | (go_at_call 10; refine (lives_calls _).mono ?_; rintro e WL ⟨rfl, hb⟩; have HX := Aside0.mk (below_then HX.out HX.out.size hb); clear hb)
          | fail)
        go_ret
        exact ⟨rfl, below_then HB2.out HB2.out.size HX.out⟩
      · have d2 : decide (most < ((pre f id).length : Int)) = false := decide_eq_false c2
        have HFR : Aside0 (firstR (pre f id) most = pre f id) := ⟨if_neg (fun h => c2 h.2)⟩
        clear c1 c2
        go_upto_region 7 with (first
          | (go_at_call 9; refine HLI.out.mono ?_; rintro e W1 ⟨rfl, hb1⟩; have HB1 := Aside0.mk hb1; clear hb1)
          | (go_at_call 11; refine (HT.out _ HB1.out).mono ?_; rintro e W2 ⟨v, u, rfl, hd, hr, hb2⟩; have HD := Aside0.mk hd; have HR := Aside0.mk hr; have HB2 := Aside0.mk (below_then HB1.out HB1.out.size hb2); clear hd hr hb2; have HX := Aside0.mk (Below.refl W2.heap.size W2))
          | (go_at_call 12; (with_reducible refine (runder_calls u f next HG.out 513 id _ (by omega) (HR.out.below HX.out)).mono ?_); rintro e W ⟨z, rfl, hR, hb⟩; obtain ⟨A, c, rfl, hlc, hC⟩ := RdI.of_R hR; have HW := Aside0.mk (show RdI W (.slice A (pre f id).length c) (pre f id) from ⟨A, c, rfl, hlc, hC⟩); have HLC := Aside0.mk hlc; have HX := Aside0.mk (below_then HX.out HX.out.size hb); clear hb hR hlc hC)
          | fail)
        have HW : Aside0 (RdI W (.slice A (pre f id).length c) (firstR (pre f id) most)) := ⟨by rw [HFR.out]; exact HW.out⟩
        clear d1 d2
        have dn : (n == n) = true := by simp
        go_wp2_with (first
          | (go_at_call 14; (with_reducible refine (list_calls v f next id most _ (HD.out.below HX.out) HG.out).mono ?_); rintro e W ⟨z, rfl, hR, hb⟩; (first | (have HW := Aside0.mk (HW.out.below hb)) | skip); (first | (have HL1 := Aside0.mk (HL1.out.below hb)) | skip); have HX := Aside0.mk (below_then HX.out HX.out.size hb); clear hb; have HL1 := Aside0.mk (RdI.of_R hR); clear hR)
          | (go_at_call 13; (with_reducible refine (ints_calls _ _ (firstR (pre f id) most) _ HL1.out HW.out (by have := HPL.out.1; have := firstR_len (pre f id) most; omega)).mono ?_); rintro e W ⟨rfl, hb⟩; have HX := Aside0.mk (below_then HX.out HX.out.size hb); clear hb)
          | (go_at_call 15; (with_reducible refine (order_calls v f next _ (HD.out.below HX.out) HG.out).mono ?_); rintro e W ⟨z, rfl, hR, hb⟩; clear HL1; have HX := Aside0.mk (below_then HX.out HX.out.size hb); clear hb; have HL1 := Aside0.mk (RdI.of_R hR); clear hR)
          | (go_at_call 12; (with_reducible refine (runder_calls u f next HG.out 513 1 _ (by omega) (HR.out.below HX.out)).mono ?_); rintro e W ⟨z, rfl, hR, hb⟩; (first | (have HW := Aside0.mk (HW.out.below hb)) | skip); (first | (have HL1 := Aside0.mk (HL1.out.below hb)) | skip); have HX := Aside0.mk (below_then HX.out HX.out.size hb); clear hb; have HU1 := Aside0.mk (RdI.of_R hR); clear hR)
          | (go_at_call 13; (with_reducible refine (ints_calls _ _ (pre f 1) _ HL1.out HU1.out (by have := HPL.out.2.1; omega)).mono ?_); rintro e W ⟨rfl, hb⟩; have HX := Aside0.mk (below_then HX.out HX.out.size hb); clear hb)
          | (go_at_call 16; (with_reducible refine (up_calls v f next id _ (HD.out.below HX.out) HG.out).mono ?_); rintro e W ⟨z, rfl, hR, hb⟩; clear HL1; have HX := Aside0.mk (below_then HX.out HX.out.size hb); clear hb; have HL1 := Aside0.mk (RdI.of_R hR); clear hR)
          | (go_at_call 17; (with_reducible refine (rup_calls u f next id _ (HR.out.below HX.out) HG.out).mono ?_); rintro e W ⟨z, rfl, hR, hb⟩; (have HL1 := Aside0.mk (HL1.out.below hb)); have HX := Aside0.mk (below_then HX.out HX.out.size hb); clear hb; have HU1 := Aside0.mk (RdI.of_R hR); clear hR)
          | (go_at_call 13; (with_reducible refine (ints_calls _ _ (upR f id) _ HL1.out HU1.out (by have := HPL.out.2.2; omega)).mono ?_); rintro e W ⟨rfl, hb⟩; have HX := Aside0.mk (below_then HX.out HX.out.size hb); clear hb)
          | (go_at_call 18; (with_reducible refine (wdepth_calls v f next id _ (HD.out.below HX.out) HG.out).mono ?_); rintro e W ⟨rfl, hb⟩; rw [HCH.out]; have HX := Aside0.mk (below_then HX.out HX.out.size hb); clear hb)
          | (go_at_call 19; (with_reducible refine (rdepth_calls u f next id _ (HR.out.below HX.out) HG.out).mono ?_); rintro e W ⟨rfl, hb⟩; rw [HCH.out]; have HX := Aside0.mk (below_then HX.out HX.out.size hb); clear hb)
          | (go_at_call 10; refine (lives_calls _).mono ?_; rintro e WL ⟨rfl, hb⟩; have HX := Aside0.mk (below_then HX.out HX.out.size hb); clear hb)
          | fail)
        go_ret
        exact ⟨rfl, below_then HB2.out HB2.out.size HX.out⟩
    · have d1 : decide (0 ≤ most) = false := decide_eq_false c1
      have HFR : Aside0 (firstR (pre f id) most = pre f id) := ⟨if_neg (fun h => c1 h.1)⟩
      clear c1
      go_upto_region 7 with (first
        | (go_at_call 9; refine HLI.out.mono ?_; rintro e W1 ⟨rfl, hb1⟩; have HB1 := Aside0.mk hb1; clear hb1)
        | (go_at_call 11; refine (HT.out _ HB1.out).mono ?_; rintro e W2 ⟨v, u, rfl, hd, hr, hb2⟩; have HD := Aside0.mk hd; have HR := Aside0.mk hr; have HB2 := Aside0.mk (below_then HB1.out HB1.out.size hb2); clear hd hr hb2; have HX := Aside0.mk (Below.refl W2.heap.size W2))
        | (go_at_call 12; (with_reducible refine (runder_calls u f next HG.out 513 id _ (by omega) (HR.out.below HX.out)).mono ?_); rintro e W ⟨z, rfl, hR, hb⟩; obtain ⟨A, c, rfl, hlc, hC⟩ := RdI.of_R hR; have HW := Aside0.mk (show RdI W (.slice A (pre f id).length c) (pre f id) from ⟨A, c, rfl, hlc, hC⟩); have HLC := Aside0.mk hlc; have HX := Aside0.mk (below_then HX.out HX.out.size hb); clear hb hR hlc hC)
        | fail)
      have HW : Aside0 (RdI W (.slice A (pre f id).length c) (firstR (pre f id) most)) := ⟨by rw [HFR.out]; exact HW.out⟩
      clear d1
      have dn : (n == n) = true := by simp
      go_wp2_with (first
        | (go_at_call 14; (with_reducible refine (list_calls v f next id most _ (HD.out.below HX.out) HG.out).mono ?_); rintro e W ⟨z, rfl, hR, hb⟩; (first | (have HW := Aside0.mk (HW.out.below hb)) | skip); (first | (have HL1 := Aside0.mk (HL1.out.below hb)) | skip); have HX := Aside0.mk (below_then HX.out HX.out.size hb); clear hb; have HL1 := Aside0.mk (RdI.of_R hR); clear hR)
        | (go_at_call 13; (with_reducible refine (ints_calls _ _ (firstR (pre f id) most) _ HL1.out HW.out (by have := HPL.out.1; have := firstR_len (pre f id) most; omega)).mono ?_); rintro e W ⟨rfl, hb⟩; have HX := Aside0.mk (below_then HX.out HX.out.size hb); clear hb)
        | (go_at_call 15; (with_reducible refine (order_calls v f next _ (HD.out.below HX.out) HG.out).mono ?_); rintro e W ⟨z, rfl, hR, hb⟩; clear HL1; have HX := Aside0.mk (below_then HX.out HX.out.size hb); clear hb; have HL1 := Aside0.mk (RdI.of_R hR); clear hR)
        | (go_at_call 12; (with_reducible refine (runder_calls u f next HG.out 513 1 _ (by omega) (HR.out.below HX.out)).mono ?_); rintro e W ⟨z, rfl, hR, hb⟩; (first | (have HW := Aside0.mk (HW.out.below hb)) | skip); (first | (have HL1 := Aside0.mk (HL1.out.below hb)) | skip); have HX := Aside0.mk (below_then HX.out HX.out.size hb); clear hb; have HU1 := Aside0.mk (RdI.of_R hR); clear hR)
        | (go_at_call 13; (with_reducible refine (ints_calls _ _ (pre f 1) _ HL1.out HU1.out (by have := HPL.out.2.1; omega)).mono ?_); rintro e W ⟨rfl, hb⟩; have HX := Aside0.mk (below_then HX.out HX.out.size hb); clear hb)
        | (go_at_call 16; (with_reducible refine (up_calls v f next id _ (HD.out.below HX.out) HG.out).mono ?_); rintro e W ⟨z, rfl, hR, hb⟩; clear HL1; have HX := Aside0.mk (below_then HX.out HX.out.size hb); clear hb; have HL1 := Aside0.mk (RdI.of_R hR); clear hR)
        | (go_at_call 17; (with_reducible refine (rup_calls u f next id _ (HR.out.below HX.out) HG.out).mono ?_); rintro e W ⟨z, rfl, hR, hb⟩; (have HL1 := Aside0.mk (HL1.out.below hb)); have HX := Aside0.mk (below_then HX.out HX.out.size hb); clear hb; have HU1 := Aside0.mk (RdI.of_R hR); clear hR)
        | (go_at_call 13; (with_reducible refine (ints_calls _ _ (upR f id) _ HL1.out HU1.out (by have := HPL.out.2.2; omega)).mono ?_); rintro e W ⟨rfl, hb⟩; have HX := Aside0.mk (below_then HX.out HX.out.size hb); clear hb)
        | (go_at_call 18; (with_reducible refine (wdepth_calls v f next id _ (HD.out.below HX.out) HG.out).mono ?_); rintro e W ⟨rfl, hb⟩; rw [HCH.out]; have HX := Aside0.mk (below_then HX.out HX.out.size hb); clear hb)
        | (go_at_call 19; (with_reducible refine (rdepth_calls u f next id _ (HR.out.below HX.out) HG.out).mono ?_); rintro e W ⟨rfl, hb⟩; rw [HCH.out]; have HX := Aside0.mk (below_then HX.out HX.out.size hb); clear hb)
        | (go_at_call 10; refine (lives_calls _).mono ?_; rintro e WL ⟨rfl, hb⟩; have HX := Aside0.mk (below_then HX.out HX.out.size hb); clear hb)
        | fail)
      go_ret
      exact ⟨rfl, below_then HB2.out HB2.out.size HX.out⟩
theorem lawWalkUnders.calls (k : Unit) (A : Option Addr) (c : Nat) (l : List S52) (id : Int) (most : Int) (r : Bool) (w : World) (hC : Kd.C k52 w A l.length l) (hc : l.length ≤ c) (h : ∀ p, p ∈ l → p.f4.size ≤ 140737488351232 ∧ p.f5.size ≤ 140737488351232) :
    Calls Try.prog 3 #[.slice A l.length c, .int .i64 id, .int .i64 most] w fun e w' => e = .returned (.bool true) ∧ Below w.heap.size w w' :=
  unders_calls l A c id most w hC hc (fun p hp => by have := h p hp; omega)
theorem pure_WalkUnders (l : List S52) (id : Int) (most : Int) (h : ∀ p, p ∈ l → p.f4.size ≤ 140737488351232 ∧ p.f5.size ≤ 140737488351232) : ∃ k : Unit, ∀ p, p ∈ l → p.f4.size ≤ 140737488351232 ∧ p.f5.size ≤ 140737488351232 := ⟨(), h⟩
end Go.Proofs.Ytpnlbmeeihbjaaa.P
end
