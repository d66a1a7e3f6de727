/- WalkOnce: for every input the law returns true, and each argument reads behind the call as it read before. -/
import Derived.Test.YtpnlbmeeihbjaaaZWC9
import Derived.Test.YtpnlbmeeihbjaaaZWC28
import Derived.Test.YtpnlbmeeihbjaaaZWC29
import Derived.Test.YtpnlbmeeihbjaaaZWC32
section
set_option linter.unusedVariables false
set_option linter.unusedSimpArgs false
namespace Go.Proofs.Ytpnlbmeeihbjaaa.P
open Go.RowKit Go.Proofs.YtpnlbmeeihbjaaaW.PrintWords Go.Proofs.YtpnlbmeeihbjaaaW.PrintLast Go.Proofs.YtpnlbmeeihbjaaaW.PrintMore
attribute [local go_sem] max2_int min2_int max_two min_two max_three min_three max_four min_four
set_option linter.unusedVariables false
set_option linter.unusedSimpArgs false
theorem ints_from (l : List Int) (hl : l.length ≤ 9223372036854775807) : ∀ (d i : Nat), i + d = l.length → gouacheref01_Ints.l0 (d + 1) l l (l.length : Int) (i : Int) = some true
  | 0, i, h => by
    unfold gouacheref01_Ints.l0
    rw [if_neg (by omega)]
  | d + 1, i, h => by
    unfold gouacheref01_Ints.l0
    rw [if_pos (by omega), if_pos (by omega), if_pos (by omega), if_pos (by omega), if_pos rfl, show wrap64 ((i : Int) + 1) = ((i + 1 : Nat) : Int) by unfold wrap64; omega]
    exact ints_from l hl d (i + 1) (by omega)
theorem ints_same (l : List Int) (hl : l.length ≤ 9223372036854775807) : gouacheref01_Ints.f (l.length + 1) l l = some true := by
  unfold gouacheref01_Ints.f
  rw [if_pos rfl]
  exact ints_from l hl l.length 0 (by omega)
theorem has_eq (l : List Int) (k : Int) (hl : l.length ≤ 9223372036854775807) : gouacheref08_Has.f (l.length + 1) l k = some (decide (k ∈ l)) := by
  unfold gouacheref08_Has.f
  rw [at_eq l k hl]
  show (if idxI l k ≥ 0 then _ else _) = _
  by_cases c : k ∈ l
  · rw [if_pos (by rw [idxI_mem c]; omega), decide_eq_true c]
    unfold gouacheref01_Ints.f
    rw [if_neg (by have := List.length_pos_of_mem c; simp; intro h; rw [h] at c; cases c)]
    rfl
  · rw [if_neg (by rw [idxI_no c]; omega), decide_eq_false c]
theorem ints_calls (u v : Value) (l : List Int) (w : World) (h : RdI w u l) (h2 : RdI w v l) (hl : l.length ≤ 9223372036854775807) : Calls Try.prog 13 #[u, v] w fun e w' => e = .returned (.bool true) ∧ Below w.heap.size w w' := by
  obtain ⟨A, c, rfl, hc, hC⟩ := h
  obtain ⟨A2, c2, rfl, hc2, hC2⟩ := h2
  refine (gouacheref01_Ints.calls _ A c l A2 c2 l true w hC hc hC2 hc2 (ints_same l hl)).mono ?_
  rintro e w' ⟨rfl, hd⟩
  exact ⟨rfl, by obtain ⟨m, rfl⟩ := hd; exact pw_below_drewN (Below.refl _ _) _⟩
theorem has_calls (u : Value) (l : List Int) (k : Int) (w : World) (h : RdI w u l) (hl : l.length ≤ 9223372036854775807) : Calls Try.prog 30 #[u, .int .i64 k] w fun e w' => e = .returned (.bool (decide (k ∈ l))) ∧ Below w.heap.size w w' := by
  obtain ⟨A, c, rfl, hc, hC⟩ := h
  refine (gouacheref08_Has.calls _ A c l k _ w hC hc (has_eq l k hl)).mono ?_
  rintro e w' ⟨rfl, hd⟩
  exact ⟨rfl, by obtain ⟨m, rfl⟩ := hd; exact pw_below_drewN (Below.refl _ _) _⟩
def lv : List S52 := [⟨0, 1, 0, 0, ⟨#[98]⟩, ⟨#[]⟩⟩, ⟨0, 1, 1, 0, ⟨#[100]⟩, ⟨#[]⟩⟩, ⟨0, 2, 0, 0, ⟨#[99]⟩, ⟨#[]⟩⟩]
theorem lv_pre : pre (runA tree0 lv).1 1 = [1, 2, 4, 3] := by kernel_rfl
theorem lv_row : rowR (runA tree0 lv).1 3 = [2, 3] := by kernel_rfl
theorem lv_ch : (ch (runA tree0 lv).1 4).length = 3 := by kernel_rfl
theorem lv_cmp : cmpR (runA tree0 lv).1 4 3 = -1 := by
  have hg := good_tree lv
  have h1 : ∀ k ∈ pre (runA tree0 lv).1 1, look (runA tree0 lv).1 k ≠ none := fun k hk e => by
    obtain ⟨x, hx⟩ := pre_look hg hk
    rw [e] at hx; cases hx
  rw [cmp_some (by
    rintro (h | h | h)
    · exact h1 4 (by rw [lv_pre]; simp) h
    · exact h1 3 (by rw [lv_pre]; simp) h
    · exact absurd h (by decide)), lv_pre]
  rfl
theorem lv_plc : plc1 (runA tree0 lv).1 3 = 2 ∧ plc2 (runA tree0 lv).1 3 = 1 := by
  unfold plc1 plc2
  rw [lv_row]
  exact ⟨rfl, rfl⟩
theorem lv_C (w : World) (g : Nat) (h : w.heap[g]? = some (.cells #[.int .i64 0, .int .i64 1, .int .i64 0, .int .i64 0, .string ⟨#[98]⟩, .string ⟨#[]⟩, .int .i64 0, .int .i64 1, .int .i64 1, .int .i64 0, .string ⟨#[100]⟩, .string ⟨#[]⟩, .int .i64 0, .int .i64 2, .int .i64 0, .int .i64 0, .string ⟨#[99]⟩, .string ⟨#[]⟩] 52 (0, 0))) : Kd.C k52 w (some ⟨g, 0, none⟩) lv.length lv := by
  refine ⟨rfl, by decide, fun _ => ⟨⟨g, 0, none⟩, rfl, fun j p hj => ?_⟩⟩
  rcases j with _ | _ | _ | j
  · obtain rfl := Option.some.inj hj
    refine ⟨_, rfl, k52_mk w _, fun m u hm => ?_⟩
    rcases m with _ | _ | _ | _ | _ | _ | m <;> first | exact (blk_cell h _).trans hm | simp at hm
  · obtain rfl := Option.some.inj hj
    refine ⟨_, rfl, k52_mk w _, fun m u hm => ?_⟩
    rcases m with _ | _ | _ | _ | _ | _ | m <;> first | exact (blk_cell h _).trans hm | simp at hm
  · obtain rfl := Option.some.inj hj
    refine ⟨_, rfl, k52_mk w _, fun m u hm => ?_⟩
    rcases m with _ | _ | _ | _ | _ | _ | m <;> first | exact (blk_cell h _).trans hm | simp at hm
  · simp [lv] at hj
set_option maxHeartbeats 8000000 in
set_option maxRecDepth 100000 in
theorem lives_calls (w : World) : Calls Try.prog 10 #[] w fun e w' => e = .returned (.bool true) ∧ Below w.heap.size w w' := by
  have hu52 := Try.underlying52
  have hu29 := Try.underlying29
  have HG := Aside0.mk (good_tree lv)
  have HPR := Aside0.mk lv_pre
  have HCH := Aside0.mk lv_ch
  have HCM := Aside0.mk lv_cmp
  have HPL := Aside0.mk lv_plc
  have HT : Aside0 (∀ (W : World) (g : Nat), W.heap[g]? = some (.cells #[.int .i64 0, .int .i64 1, .int .i64 0, .int .i64 0, .string ⟨#[98]⟩, .string ⟨#[]⟩, .int .i64 0, .int .i64 1, .int .i64 1, .int .i64 0, .string ⟨#[100]⟩, .string ⟨#[]⟩, .int .i64 0, .int .i64 2, .int .i64 0, .int .i64 0, .string ⟨#[99]⟩, .string ⟨#[]⟩] 52 (0, 0)) →
      Calls Try.prog 11 #[.slice (some ⟨g, 0, none⟩) 3 3] W fun e w' => ∃ v u, e = .returned (.tuple #[v, u]) ∧ DocF w' v (runA tree0 lv).1 (runA tree0 lv).2 ∧ Below W.heap.size W w') := ⟨fun W g h => by
    refine (tree_calls lv (some ⟨g, 0, none⟩) 3 W (lv_C W g h) (by decide) (by intro p hp; simp [lv] at hp; rcases hp with rfl | rfl | rfl <;> decide)).mono ?_
    rintro e w' ⟨v, u, he, hd, _, hb⟩
    exact ⟨v, u, he, hd, hb⟩⟩
  generalize (runA tree0 lv).1 = f at HG HPR HCH HCM HPL HT
  generalize (runA tree0 lv).2 = next at HG HT
  go_enter Try.func10, Try.ntmps10
  go_upto_region 2 with (first | (go_at_call 11; refine (HT.out _ _ (blk_new _ _)).mono ?_; rintro e W1 ⟨v, u, rfl, hd, hb1⟩; have HD := Aside0.mk hd; have HB1 := Aside0.mk (below_then (below_alloc (Below.refl w.heap.size w) _) (below_alloc (Below.refl w.heap.size w) _).size hb1); clear hd hb1) | fail)
  go_upto_region 3 with (first | (go_at_call 22; refine (place_calls v f next 3 _ HD.out HG.out).mono ?_; rintro e W2 ⟨rfl, hb2⟩; rw [HPL.out.1, HPL.out.2]; have HD2 := Aside0.mk (HD.out.below hb2); have HB2 := Aside0.mk (below_then HB1.out HB1.out.size hb2); clear hb2) | fail)
  go_wp2_with (first
    | (go_at_call 15; refine (order_calls v f next _ HD2.out HG.out).mono ?_; rintro e W3 ⟨o, rfl, hR, hb3⟩; rw [HPR.out] at hR; have HR3 := Aside0.mk (RdI.of_R hR); have HB23 := Aside0.mk hb3; obtain ⟨A, c, rfl, _, _⟩ := RdI.of_R hR; clear hb3 hR)
    | (go_at_call 13; refine (ints_calls _ _ [1, 2, 4, 3] _ (HR3.out.below (below_alloc (Below.refl _ _) _)) (RdI.of_R (own_laid (xs := [1, 2, 4, 3]) (n := 4) (cap := 4) (base := 0) (Nat.zero_le _) (blk_new _ _) rfl (Nat.le_refl _) (show 4 ≤ maxLen by decide) rfl rfl (fun _ => True) trivial)) (by simp)).mono ?_; rintro e W4 ⟨rfl, hb4⟩; have HB24 := Aside0.mk (below_then (below_alloc HB23.out _) (below_alloc HB23.out _).size hb4); clear hb4)
    | (go_at_call 21; refine (wcmp_calls v f next 4 3 _ (HD2.out.below HB24.out) HG.out).mono ?_; rintro e W5 ⟨rfl, hb5⟩; rw [HCM.out]; have HB25 := Aside0.mk (below_then HB24.out HB24.out.size hb5); clear hb5)
    | (go_at_call 18; refine (wdepth_calls v f next 4 _ (HD2.out.below HB25.out) HG.out).mono ?_; rintro e W6 ⟨rfl, hb6⟩; rw [HCH.out]; have HB26 := Aside0.mk (below_then HB25.out HB25.out.size hb6); clear hb6)
    | fail)
  go_ret
  exact ⟨rfl, below_then HB2.out HB2.out.size HB26.out⟩
end Go.Proofs.Ytpnlbmeeihbjaaa.P
end
section
set_option linter.unusedVariables false
set_option linter.unusedSimpArgs false
namespace Go.Proofs.Ytpnlbmeeihbjaaa.P
open Go.RowKit Go.Proofs.YtpnlbmeeihbjaaaW.PrintWords Go.Proofs.YtpnlbmeeihbjaaaW.PrintLast Go.Proofs.YtpnlbmeeihbjaaaW.PrintMore
attribute [local go_sem] max2_int min2_int max_two min_two max_three min_three max_four min_four
set_option linter.unusedVariables false
set_option linter.unusedSimpArgs false
theorem light8 (l : List S52) (A : Option Addr) (c : Nat) (w : World) (hC : Kd.C k52 w A l.length l) (hc : l.length ≤ c) : ∃ b, Calls Try.prog 9 #[.slice A l.length c, .int .i64 80] w fun e w' => e = .returned (.bool b) ∧ Below w.heap.size w w' := by
  obtain ⟨k, b, hb⟩ := light_some l 80 hC.2.1
  refine ⟨b, (gouacheref07_Light.calls k A c l 80 b w hC hc hb).mono ?_⟩
  rintro e w' ⟨rfl, hd⟩
  exact ⟨rfl, hd⟩
section
variable {f : Nat → Option S40} {next : Int}
theorem up_root (hg : Good f next) {k : Int} {x : S40} (hk : look f k = some x) (h : upR f k = []) : k = 1 := by
  by_cases e : k = 1
  · exact e
  · obtain ⟨p, hp, _⟩ := hg.par k x hk e
    have := hg.dom _ p hp
    rw [(up_next hg hk (by omega)).1] at h
    cases h
theorem up_some (hg : Good f next) {k : Int} (h : upR f k ≠ []) : ∃ x, look f k = some x ∧ 0 < x.f2 ∧ upR f k = x.f2 :: upR f x.f2 ∧ (look f x.f2).isSome = true := by
  cases e : look f k with
  | none => exact absurd (up_none e) h
  | some x =>
    by_cases c : 0 < x.f2
    · refine ⟨x, rfl, c, (up_next hg e c).1, ?_⟩
      have hk1 : k ≠ 1 := fun h1 => by
        subst h1
        obtain ⟨r, hr, hr0⟩ := hg.root
        rw [e] at hr
        obtain rfl := Option.some.inj hr
        omega
      obtain ⟨p, hp, _⟩ := hg.par k x e hk1
      rw [hp]; rfl
    · exact absurd (up_stop hg e c) h
end
set_option maxHeartbeats 32000000 in
set_option maxRecDepth 100000 in
theorem ups_calls (l : List S52) (A : Option Addr) (c : Nat) (id : Int) (w : World) (hC : Kd.C k52 w A l.length l) (hc : l.length ≤ c) (hs : ∀ p, p ∈ l → p.f4.size ≤ 140737488355328 ∧ p.f5.size ≤ 140737488355328) :
    Calls Try.prog 4 #[.slice A l.length c, .int .i64 id] w fun e w' => e = .returned (.bool true) ∧ Below w.heap.size w w' := by
  obtain ⟨b, hlight⟩ := light8 l A c w hC hc
  have HLI := Aside0.mk hlight
  have HT : Aside0 (∀ W, Below w.heap.size w W → Calls Try.prog 11 #[.slice A l.length c] W fun e w' => ∃ v u, e = .returned (.tuple #[v, u]) ∧ DocF w' v (runA tree0 l).1 (runA tree0 l).2 ∧ RD w' u (runA tree0 l).1 (runA tree0 l).2 ∧ Below W.heap.size W w') := ⟨fun W hW => tree_calls l A c W (Kd.C_below hC hW) hc hs⟩
  have HG := Aside0.mk (good_tree l)
  generalize (runA tree0 l).1 = f at HT HG
  generalize (runA tree0 l).2 = next at HT HG
  have hu40 := Try.underlying40
  have hu29 := Try.underlying29
  clear hlight hC hs hc
  cases b with
  | false =>
    go_enter Try.func4, Try.ntmps4
    go_wp2_with (first
      | (go_at_call 9; refine HLI.out.mono ?_; rintro e W1 ⟨rfl, hb1⟩; have HB1 := Aside0.mk hb1; clear hb1)
      | (go_at_call 10; refine (lives_calls _).mono ?_; rintro e W2 ⟨rfl, hb2⟩; have HB2 := Aside0.mk (below_then HB1.out HB1.out.size hb2); clear hb2)
      | fail)
    go_ret
    exact ⟨rfl, HB2.out⟩
  | true =>
    go_enter Try.func4, Try.ntmps4
    go_upto_region 6 with (first
      | (go_at_call 9; refine HLI.out.mono ?_; rintro e W1 ⟨rfl, hb1⟩; have HB1 := Aside0.mk hb1; clear hb1)
      | (go_at_call 11; refine (HT.out _ HB1.out).mono ?_; rintro e W2 ⟨v, u, rfl, hd, hr, hb2⟩; have HD := Aside0.mk hd; have HR := Aside0.mk hr; have HB2 := Aside0.mk (below_then HB1.out HB1.out.size hb2); clear hd hr hb2)
      | (go_at_call 16; refine (up_calls v f next id _ HD.out HG.out).mono ?_; rintro e W3 ⟨o, rfl, hR, hb3⟩; have HO := Aside0.mk (RdI.of_R hR); have HB23 := Aside0.mk hb3; have HB3 := Aside0.mk (below_then HB2.out HB2.out.size hb3); clear hb3 hR)
      | fail)
    obtain ⟨L, hL⟩ : ∃ L, L = upR f id := ⟨_, rfl⟩
    rw [← hL] at HO
    obtain ⟨Au, cu, rfl, hcu, hCu⟩ := HO.out
    have HCU := Aside0.mk hCu
    have HLL : Aside0 (L = upR f id ∧ L.length ≤ 512) := ⟨hL, by rw [hL, up_len]; have := ch_le HG.out id; omega⟩
    clear hL hcu hCu
    go_wp2_with fail
    go_loopg [8, 30] (L.length + 1) (fun kq v8 v30 w' => ∃ (at_ : Int) (i : Nat) (dn : List Int), v8 = .int .i64 at_ ∧ v30 = .int .i64 i ∧ Aside0 (i + kq = L.length + 1) ∧ Aside0 (dn.length = i) ∧ Aside0 (L = dn ++ upR f at_) ∧ Aside0 ((look f at_).isSome = (look f id).isSome) ∧ Aside0 (Below W3.heap.size W3 w'))
    case atStart => exact ⟨id, 0, [], rfl, rfl, ⟨by omega⟩, ⟨rfl⟩, ⟨by rw [HLL.out.1]; rfl⟩, ⟨rfl⟩, ⟨Below.refl _ _⟩⟩
    case round =>
      obtain ⟨k, i, dn, rfl, rfl, HK, HDN, HE, HIS, HBW⟩ := hrel
      cases gk with
      | zero => exact absurd HK.out (by have := congrArg List.length HE.out; have := HDN.out; simp at *; omega)
      | succ g0 =>
        by_cases c0 : i < L.length
        · have hne : upR f k ≠ [] := fun h => by have h2 := congrArg List.length HE.out; rw [h] at h2; have := HDN.out; simp at h2; omega
          obtain ⟨x, hx, hx2, hup, hsx⟩ := up_some HG.out hne
          obtain ⟨ad, cc, rfl, hcl, hK2, hcell⟩ := Kd.C_get (Kd.C_below HCU.out HBW.out) (0 : Int) (i : Int) (by omega) (by omega)
          have hk0 : cc = [.int .i64 (L.getD i 0)] := hK2
          have hq := hcell 0 _ (by rw [hk0]; rfl)
          have hLi : L.getD i 0 = x.f2 := by rw [HE.out, hup, ← HDN.out]; simp
          rw [hLi, Int.toNat_natCast, show i * (Kd.int .i64).sz + 0 = i by show i * 1 + 0 = _; omega] at hq
          have HX := Aside0.mk (And.intro hx (And.intro hup hsx))
          have HCM : Aside0 (cmpR f x.f2 id = -1) := ⟨cmp_up HG.out (by rw [← HLL.out.1, HE.out, hup]; simp)⟩
          have HBW2 := Aside0.mk (below_then HB23.out HB23.out.size HBW.out)
          have c1 : decide (i < L.length) = true := decide_eq_true c0
          have z0 : (0 ≤ (i : Int)) = True := eq_true (by omega)
          have z1 : ((i : Int) < (L.length : Int)) = True := eq_true (by omega)
          have HI0 := Aside0.mk c0
          clear hne hcl hK2 hcell hk0 hLi hx hx2 hup hsx c0
          go_wp2_with (first
            | (go_at_call 20; refine (copy_calls v f next k W2 _ HD.out HBW2.out (HG.out.sizes k).1 (HG.out.sizes k).2).mono ?_; rintro e W4 ⟨cs, rfl, hM, hb4⟩; rw [HX.out.1] at hM ⊢; obtain ⟨A3, c3, A4, c4, rfl⟩ := k40_cellsM (x := x) hM; have HB4 := Aside0.mk (below_alloc hb4 (.cells #[.int .i64 x.f0, .string x.f1, .int .i64 x.f2, .slice A3 x.f3.length c3, .slice A4 x.f4.length c4] 40)); clear hM hb4)
            | (go_at_call 21; refine (wcmp_calls v f next x.f2 id _ (HD.out.below (below_then HBW2.out HBW2.out.size HB4.out)) HG.out).mono ?_; rintro e W5 ⟨rfl, hb5⟩; rw [HCM.out]; have HB5 := Aside0.mk (below_then HBW.out HBW.out.size (below_then HB4.out HB4.out.size hb5)); clear hb5)
            | fail)
          go_roundg g0
          case measure => have := HK.out; omega
          case rel => exact ⟨x.f2, i + 1, dn ++ [x.f2], rfl, (by have := HI0.out; have := HLL.out.2; congr 1; unfold wrap64; omega), ⟨by have := HK.out; omega⟩, ⟨by have := HDN.out; simp; omega⟩, ⟨by rw [HE.out, HX.out.2.1]; simp⟩, ⟨by rw [← HIS.out, HX.out.1, HX.out.2.2]; rfl⟩, HB5⟩
        · have c1 : decide (i < L.length) = false := decide_eq_false c0
          have hup : upR f k = [] := by
            have h2 := congrArg List.length HE.out
            have := HDN.out
            simp at h2
            exact List.eq_nil_of_length_eq_zero (by omega)
          have hLd : L.length = (upR f id).length := by rw [← HLL.out.1]
          have HBW2 := Aside0.mk (below_then HB23.out HB23.out.size HBW.out)
          cases hl : look f id with
          | none =>
            have hk1 : (k == 1) = false := by
              have h3 := HIS.out
              rw [hl] at h3
              obtain ⟨r, hr, _⟩ := HG.out.root
              have : k ≠ 1 := fun e => by rw [e, hr] at h3; cases h3
              simpa using this
            have hL0 : L.length = 0 := by rw [hLd, up_none hl]; rfl
            have HL := Aside0.mk hl
            have HCH : Aside0 (((ch f id).length : Int) = 0) := ⟨by rw [ch_none id hl]; rfl⟩
            obtain rfl := List.eq_nil_of_length_eq_zero hL0
            clear hl hup hLd c0 hL0
            go_wp2_with (first
              | (go_at_call 20; refine (copy_calls v f next id W2 _ HD.out HBW2.out (HG.out.sizes id).1 (HG.out.sizes id).2).mono ?_; rintro e W4 ⟨cs, rfl, hM, hb4⟩; rw [HL.out] at hM ⊢; obtain ⟨A3, c3, A4, c4, rfl⟩ := k40_cellsM (x := z40) hM; have HB4 := Aside0.mk (below_then HBW2.out HBW2.out.size (below_alloc hb4 (.cells #[.int .i64 z40.f0, .string z40.f1, .int .i64 z40.f2, .slice A3 z40.f3.length c3, .slice A4 z40.f4.length c4] 40))); clear hM hb4)
              | (go_at_call 18; refine (wdepth_calls v f next id _ (HD.out.below HB4.out) HG.out).mono ?_; rintro e W5 ⟨rfl, hb5⟩; rw [HCH.out]; have HB5 := Aside0.mk (below_then HB4.out HB4.out.size hb5); clear hb5)
              | (go_at_call 10; refine (lives_calls _).mono ?_; rintro e WL ⟨rfl, hbl⟩; have HBL := Aside0.mk (below_then HB5.out HB5.out.size hbl); clear hbl)
              | fail)
            go_ret
            exact ⟨rfl, below_then HB2.out HB2.out.size HBL.out⟩
          | some y =>
            obtain rfl : k = 1 := by
              have h3 := HIS.out
              rw [hl] at h3
              cases hk : look f k with
              | none => rw [hk] at h3; cases h3
              | some z => exact up_root HG.out hk hup
            have HL := Aside0.mk hl
            obtain ⟨n, hn⟩ : ∃ n : Int, n = ((ch f id).length : Int) := ⟨_, rfl⟩
            have HCH : Aside0 (((ch f id).length : Int) = n) := ⟨hn.symm⟩
            have d0 : (wrap64 ((L.length : Int) + 1) == n) = true := by rw [hn, hLd, up_len]; have := ch_pos HG.out hl; have := ch_le HG.out id; simp; unfold wrap64; omega
            clear hl hup hLd c0 hn
            go_wp2_with (first
              | (go_at_call 20; refine (copy_calls v f next id W2 _ HD.out HBW2.out (HG.out.sizes id).1 (HG.out.sizes id).2).mono ?_; rintro e W4 ⟨cs, rfl, hM, hb4⟩; rw [HL.out] at hM ⊢; obtain ⟨A3, c3, A4, c4, rfl⟩ := k40_cellsM (x := y) hM; have HB4 := Aside0.mk (below_then HBW2.out HBW2.out.size (below_alloc hb4 (.cells #[.int .i64 y.f0, .string y.f1, .int .i64 y.f2, .slice A3 y.f3.length c3, .slice A4 y.f4.length c4] 40))); clear hM hb4)
              | (go_at_call 18; refine (wdepth_calls v f next id _ (HD.out.below HB4.out) HG.out).mono ?_; rintro e W5 ⟨rfl, hb5⟩; rw [HCH.out]; have HB5 := Aside0.mk (below_then HB4.out HB4.out.size hb5); clear hb5)
              | (go_at_call 10; refine (lives_calls _).mono ?_; rintro e WL ⟨rfl, hbl⟩; have HBL := Aside0.mk (below_then HB5.out HB5.out.size hbl); clear hbl)
              | fail)
            go_ret
            exact ⟨rfl, below_then HB2.out HB2.out.size HBL.out⟩
theorem lawWalkUps.calls (k : Unit) (A : Option Addr) (c : Nat) (l : List S52) (id : Int) (r : Bool) (w : World) (hC : Kd.C k52 w A l.length l) (hc : l.length ≤ c) (h : ∀ p, p ∈ l → p.f4.size ≤ 140737488351232 ∧ p.f5.size ≤ 140737488351232) :
    Calls Try.prog 4 #[.slice A l.length c, .int .i64 id] w fun e w' => e = .returned (.bool true) ∧ Below w.heap.size w w' :=
  ups_calls l A c id w hC hc (fun p hp => by have := h p hp; omega)
end Go.Proofs.Ytpnlbmeeihbjaaa.P
end
section
set_option linter.unusedVariables false
set_option linter.unusedSimpArgs false
namespace Go.Proofs.Ytpnlbmeeihbjaaa.P
open Go.RowKit Go.Proofs.YtpnlbmeeihbjaaaW.PrintWords Go.Proofs.YtpnlbmeeihbjaaaW.PrintLast Go.Proofs.YtpnlbmeeihbjaaaW.PrintMore
attribute [local go_sem] max2_int min2_int max_two min_two max_three min_three max_four min_four
set_option linter.unusedVariables false
set_option linter.unusedSimpArgs false
def domL (f : Nat → Option S40) (n : Nat) : List Int := ((List.range n).filter fun j => (f j).isSome).map Int.ofNat
theorem cnt_dom (f : Nat → Option S40) : ∀ n, cnt n f = (domL f n).length
  | 0 => rfl
  | n + 1 => by
    have h := cnt_dom f n
    unfold domL at h ⊢
    rw [List.range_succ, List.filter_append, List.map_append, List.length_append]
    simp only [cnt, h]
    unfold one
    cases hf : (f n).isSome with
    | true => simp [hf]
    | false => simp [hf]
theorem dom_mem (f : Nat → Option S40) (c : Int) : c ∈ domL f 1048576 ↔ ∃ x, look f c = some x := by
  unfold domL
  rw [List.mem_map]
  constructor
  · rintro ⟨j, hj, rfl⟩
    rw [List.mem_filter, List.mem_range] at hj
    obtain ⟨x, hx⟩ := Option.isSome_iff_exists.1 hj.2
    exact ⟨x, by show look f (j : Int) = _; rw [look_nat f j hj.1]; exact hx⟩
  · rintro ⟨x, hx⟩
    by_cases hr : 0 ≤ c ∧ c < 1048576
    · refine ⟨c.toNat, ?_, by show ((c.toNat : Nat) : Int) = c; omega⟩
      rw [List.mem_filter, List.mem_range]
      refine ⟨by omega, ?_⟩
      have := look_nat f c.toNat (by omega)
      rw [show ((c.toNat : Nat) : Int) = c by omega, hx] at this
      rw [← this]; rfl
    · rw [look_out f c (by omega)] at hx; cases hx
theorem dom_nodup (f : Nat → Option S40) (n : Nat) : (domL f n).Nodup := by
  unfold domL
  refine List.pairwise_map.2 (List.Pairwise.imp ?_ (List.Pairwise.filter _ List.nodup_range))
  intro a b hab e
  exact hab (by have := Int.ofNat.inj e; exact this)
section
variable {f : Nat → Option S40} {next : Int}
theorem ord_cnt (hg : Good f next) : cnt 1048576 f = ((pre f 1).length : Int) := by
  rw [cnt_dom]
  have h := (List.perm_ext_iff_of_nodup (dom_nodup f 1048576) (pre_nodup hg 1)).2 (fun c => by rw [dom_mem, pre_all hg])
  rw [h.length_eq]
theorem split_at {l : List Int} {i : Nat} (hi : i < l.length) : l = l.take i ++ l[i] :: l.drop (i + 1) := by
  rw [List.getElem_cons_drop, List.take_append_drop]
theorem at_not_take {l : List Int} (hn : l.Nodup) {i : Nat} (hi : i < l.length) : l[i] ∉ l.take i := by
  intro h
  have e := split_at hi
  rw [e] at hn
  have := (List.nodup_append.1 hn).2.2 _ h _ (List.mem_cons_self)
  exact this rfl
theorem mem_take_of_idx {l : List Int} {a : Int} (hm : a ∈ l) {i : Nat} (h : l.idxOf a < i) : a ∈ l.take i := by
  have hl : l.idxOf a < l.length := List.idxOf_lt_length_iff.2 hm
  refine List.mem_take_iff_getElem.2 ⟨l.idxOf a, by omega, ?_⟩
  exact List.getElem_idxOf hl
theorem once_at (hg : Good f next) (i : Nat) (hi : i < (pre f 1).length) : ∃ x, look f (pre f 1)[i] = some x ∧ (pre f 1)[i] ∉ (pre f 1).take i ∧ ((pre f 1)[i] ≠ 1 → x.f2 ∈ (pre f 1).take i) := by
  obtain ⟨x, hx⟩ := (pre_all hg _).1 (List.getElem_mem hi)
  refine ⟨x, hx, at_not_take (pre_nodup hg 1) hi, fun h1 => ?_⟩
  obtain ⟨p, hp, _⟩ := hg.par _ x hx h1
  have hc : x.f2 ∈ ch f (pre f 1)[i] := by rw [ch_step hg hx, ch_step hg hp]; simp
  have hne : x.f2 ≠ (pre f 1)[i] := fun e => by
    have h2 := hg.depc hx
    rw [e] at h2
    omega
  obtain ⟨h3, h4, _, _⟩ := bef_idx (pre_nodup hg 1) (bef_up hg hc hne)
  rw [(pre_nodup hg 1).idxOf_getElem i hi] at h3
  exact mem_take_of_idx h4 h3
theorem in_up (hg : Good f next) {k top : Int} {x : S40} (hx : look f k = some x) : (k ∈ pre f top) ↔ (k = top ∨ top ∈ upR f k) := by
  rw [pre_mem hg]
  have : ch f k = k :: upR f k := by unfold upR; rw [ch_step hg hx]; rfl
  rw [this, List.mem_cons]
  constructor
  · rintro (h | h)
    · exact .inl h.symm
    · exact .inr h
  · rintro (h | h)
    · exact .inl h.symm
    · exact .inr h
end
end Go.Proofs.Ytpnlbmeeihbjaaa.P
end
section
set_option linter.unusedVariables false
set_option linter.unusedSimpArgs false
namespace Go.Proofs.Ytpnlbmeeihbjaaa.P
open Go.RowKit Go.Proofs.YtpnlbmeeihbjaaaW.PrintWords Go.Proofs.YtpnlbmeeihbjaaaW.PrintLast Go.Proofs.YtpnlbmeeihbjaaaW.PrintMore
attribute [local go_sem] max2_int min2_int max_two min_two max_three min_three max_four min_four
set_option linter.unusedVariables false
set_option linter.unusedSimpArgs false
set_option maxHeartbeats 32000000 in
set_option maxRecDepth 100000 in
theorem once_calls (l : List S52) (A : Option Addr) (c : Nat) (top : Int) (w : World) (hC : Kd.C k52 w A l.length l) (hc : l.length ≤ c) (hs : ∀ p, p ∈ l → p.f4.size ≤ 140737488355328 ∧ p.f5.size ≤ 140737488355328) :
    Calls Try.prog 8 #[.slice A l.length c, .int .i64 top] w fun e w' => e = .returned (.bool true) ∧ Below w.heap.size w w' := by
  obtain ⟨b, hlight⟩ := light8 l A c w hC hc
  have HLI := Aside0.mk hlight
  have HT : Aside0 (∀ W, Below w.heap.size w W → Calls Try.prog 11 #[.slice A l.length c] W fun e w' => ∃ v u, e = .returned (.tuple #[v, u]) ∧ DocF w' v (runA tree0 l).1 (runA tree0 l).2 ∧ RD w' u (runA tree0 l).1 (runA tree0 l).2 ∧ Below W.heap.size W w') := ⟨fun W hW => tree_calls l A c W (Kd.C_below hC hW) hc hs⟩
  have HG := Aside0.mk (good_tree l)
  generalize (runA tree0 l).1 = f at HT HG
  generalize (runA tree0 l).2 = next at HT HG
  have hu40 := Try.underlying40
  have hu29 := Try.underlying29
  clear hlight hC hs hc
  cases b with
  | false =>
    go_enter Try.func8, Try.ntmps8
    go_wp2_with (first
      | (go_at_call 9; refine HLI.out.mono ?_; rintro e W1 ⟨rfl, hb1⟩; have HB1 := Aside0.mk hb1; clear hb1)
      | (go_at_call 10; refine (lives_calls _).mono ?_; rintro e W2 ⟨rfl, hb2⟩; have HB2 := Aside0.mk (below_then HB1.out HB1.out.size hb2); clear hb2)
      | fail)
    go_ret
    exact ⟨rfl, HB2.out⟩
  | true =>
    go_enter Try.func8, Try.ntmps8
    obtain ⟨l, hl⟩ : ∃ l, l = pre f 1 := ⟨_, rfl⟩
    have HLL := Aside0.mk hl.symm
    have HCN : Aside0 (cnt 1048576 f = (l.length : Int)) := ⟨by rw [hl]; exact ord_cnt HG.out⟩
    have HFR : Aside0 (firstR (pre f top) (-1) = pre f top) := ⟨if_neg (fun h => by omega)⟩
    have HON : Aside0 (∀ i (hi : i < l.length), ∃ x, look f l[i] = some x ∧ l[i] ∉ l.take i ∧ (l[i] ≠ 1 → x.f2 ∈ l.take i)) := ⟨by subst hl; exact once_at HG.out⟩
    have HLB : Aside0 (l.length ≤ 1048576 ∧ (pre f top).length ≤ 1048576 ∧ ∀ k, (upR f k).length ≤ 512) := ⟨by rw [hl]; exact pre_len HG.out 1, pre_len HG.out top, fun k => by rw [up_len]; have := ch_le HG.out k; omega⟩
    have dn : ((l.length : Int) != (l.length : Int)) = false := by simp
    clear hl
    go_wp2_with (first
      | (go_at_call 9; refine HLI.out.mono ?_; rintro e W1 ⟨rfl, hb1⟩; have HB1 := Aside0.mk hb1; clear hb1)
      | (go_at_call 11; refine (HT.out _ HB1.out).mono ?_; rintro e W2 ⟨v, u, rfl, hd, hr, hb2⟩; have HD := Aside0.mk hd; have HR := Aside0.mk hr; have HB2 := Aside0.mk (below_then HB1.out HB1.out.size hb2); clear hd hr hb2; have HX := Aside0.mk (Below.refl W2.heap.size W2))
      | (go_at_call 15; (with_reducible refine (order_calls v f next _ (HD.out.below HX.out) HG.out).mono ?_); rw [HLL.out]; rintro e W3 ⟨z, rfl, hR, hb⟩; obtain ⟨A, c, rfl, hlc, hC⟩ := RdI.of_R hR; have HO := Aside0.mk (show RdI W3 (.slice A l.length c) l from ⟨A, c, rfl, hlc, hC⟩); have HLC := Aside0.mk hlc; have HX := Aside0.mk (below_then HX.out HX.out.size hb); clear hb hR hlc hC)
      | (go_at_call 29; (with_reducible refine (dlen_calls v f next _ (HD.out.below HX.out)).mono ?_); rintro e W4 ⟨rfl, hb⟩; rw [HCN.out]; have HO := Aside0.mk (HO.out.below hb); have HX := Aside0.mk (below_then HX.out HX.out.size hb); clear hb)
      | (go_at_call 14; (with_reducible refine (list_calls v f next top (-1) _ (HD.out.below HX.out) HG.out).mono ?_); rw [HFR.out]; rintro e W5 ⟨z, rfl, hR, hb⟩; have HO := Aside0.mk (HO.out.below hb); have HX := Aside0.mk (below_then HX.out HX.out.size hb); clear hb; have HIN := Aside0.mk (RdI.of_R hR); clear hR)
      | fail)
    go_loopg [34] (l.length + 1) (fun kq v34 w' => ∃ (i : Nat), v34 = .int .i64 i ∧ Aside0 (i + kq = l.length + 1) ∧ Aside0 (i ≤ l.length) ∧ Aside0 (Below W5.heap.size W5 w'))
    case atStart => exact ⟨0, rfl, ⟨by omega⟩, ⟨by omega⟩, ⟨Below.refl _ _⟩⟩
    case round =>
      obtain ⟨i, rfl, HK, HI, HBW⟩ := hrel
      cases gk with
      | zero => exact absurd HK.out (by have := HI.out; omega)
      | succ g0 =>
        have HB5W := Aside0.mk (below_then HX.out HX.out.size HBW.out)
        by_cases c0 : i < l.length
        · obtain ⟨x, hx1, hx2, hx3⟩ := HON.out i c0
          obtain ⟨A', c', e1, hcl, hC⟩ := HO.out.below HBW.out
          injection e1 with e1 e2 e3
          subst e1 e3
          obtain ⟨ad, cc, rfl, hcl2, hK2, hcell⟩ := Kd.C_get hC (0 : Int) (i : Int) (by omega) (by omega)
          have hk0 : cc = [.int .i64 (l.getD i 0)] := hK2
          have hq := hcell 0 _ (by rw [hk0]; rfl)
          rw [Int.toNat_natCast, show i * (Kd.int .i64).sz + 0 = i by show i * 1 + 0 = _; omega] at hq
          have hgl : l.getD i 0 = l[i] := by simp [c0]
          rw [hgl] at hq
          obtain ⟨k, hk⟩ : ∃ k, k = l[i] := ⟨_, rfl⟩
          rw [← hk] at hq hx1 hx2 hx3
          have HXX := Aside0.mk (And.intro hx1 True.intro)
          have HDE : Aside0 (decide (k ∈ l.take i) = false ∧ True) := ⟨decide_eq_false hx2, trivial⟩
          obtain ⟨t1, ht1⟩ : ∃ t, t = decide (k ∈ pre f top) := ⟨_, rfl⟩
          obtain ⟨t2, ht2⟩ : ∃ t, t = (k == top) := ⟨_, rfl⟩
          obtain ⟨t3, ht3⟩ : ∃ t, t = decide (top ∈ upR f k) := ⟨_, rfl⟩
          have HT : Aside0 (t1 = (t2 || t3)) := ⟨by rw [ht1, ht2, ht3, Bool.eq_iff_iff, decide_eq_true_iff, in_up HG.out hx1, Bool.or_eq_true, beq_iff_eq, decide_eq_true_iff]⟩
          have hk2 : (k == top) = t2 := ht2.symm
          have HT1 := Aside0.mk ht1.symm
          have HT3 := Aside0.mk ht3.symm
          have c1 : decide (i < l.length) = true := decide_eq_true c0
          have z0 : (0 ≤ (i : Int)) = True := eq_true (by omega)
          have z1 : ((i : Int) < (l.length : Int)) = True := eq_true (by omega)
          have HI0 := Aside0.mk c0
          have hz : (some x).isSome = true := rfl
          have HX3 := Aside0.mk hx3
          clear hcl hC hcl2 hK2 hcell hk0 hgl hk hx1 hx2 hx3 ht1 ht2 ht3 c0
          go_upto_region 12 with (first | (go_at_call 20; (with_reducible refine (copy_calls v f next k W2 _ HD.out HB5W.out (HG.out.sizes k).1 (HG.out.sizes k).2).mono ?_); rintro e W6 ⟨cs, rfl, hM, hb⟩; rw [HXX.out.1] at hM ⊢; obtain ⟨A6, c6, B6, d6, rfl⟩ := k40_cellsM (x := x) hM; have HB6 := Aside0.mk hb; clear hM hb) | fail)
          have hn4 := blk_new W6 (.cells #[.int .i64 x.f0, .string x.f1, .int .i64 x.f2, .slice A6 x.f3.length c6, .slice B6 x.f4.length d6] 40)
          have HB67 : Aside0 (Below wr.heap.size wr (W6.alloc (.cells #[.int .i64 x.f0, .string x.f1, .int .i64 x.f2, .slice A6 x.f3.length c6, .slice B6 x.f4.length d6] 40))) := ⟨below_alloc HB6.out _⟩
          generalize W6.alloc (.cells #[.int .i64 x.f0, .string x.f1, .int .i64 x.f2, .slice A6 x.f3.length c6, .slice B6 x.f4.length d6] 40) = W7 at hn4 HB67 ⊢
          obtain ⟨g, hgd⟩ : ∃ g, g = W6.heap.size := ⟨_, rfl⟩
          rw [← hgd] at hn4 ⊢
          have q2 := (blk_cell hn4 2).trans (show _ = some (.int .i64 x.f2) from rfl)
          have HTK7 : Aside0 (RdI W7 (.slice (some ad) i c) (l.take i)) := ⟨by
            obtain ⟨A', c', e1, hcl, hC⟩ := HO.out.below (below_then HBW.out HBW.out.size HB67.out)
            injection e1 with e1 e2 e3
            subst e1 e3
            have hlt : (l.take i).length = i := by rw [List.length_take]; have := HI0.out; omega
            exact ⟨some ad, c, by rw [hlt], by rw [hlt]; have := HI0.out; omega, Kd.C_take hC (by have := HI0.out; omega)⟩⟩
          have z2 : ((i : Int) ≤ (c : Int)) = True := eq_true (by have := HI0.out; have := HLC.out; omega)
          have z3 : (i ≤ c) = True := eq_true (by have := HI0.out; have := HLC.out; omega)
          clear hn4 hgd hq z1
          by_cases k1 : k = 1
          · have dk : (k != 1) = false := by simp [k1]
            clear k1
            refine wp_region_noPanic ?_
            refine wp_region_held_drew (S := (fun w' : World => w'.cell? ⟨g, 2, none⟩ = some (.int .i64 x.f2))) (by kernel_rfl) q2 (fun hHeld => ?_)
            refine wpAnyH_take (i := 0) (v := ?_) rfl (by kernel_rfl) (by kernel_rfl) (by kernel_rfl) (fun _ _ _ h => h) (Or.inl ⟨by rfl, ?_⟩) (by assumption) ?_
            rotate_left
            focus (intro w hSw; (try dsimp only at hSw); go_simp; try with_reducible rfl)
            try simp only [Act.put, List.setIfInBounds_toArray, List.set_cons_zero, List.set_cons_succ, List.getElem_toArray, List.getElem_cons_succ, List.getElem_cons_zero]
            refine wpAnyH_take (i := 1) (v := ?_) rfl (by kernel_rfl) (by kernel_rfl) (by kernel_rfl) (fun _ _ _ h => h) (Or.inl ⟨by rfl, ?_⟩) (by assumption) ?_
            rotate_left
            focus (intro w hSw; (try dsimp only at hSw); go_simp; try with_reducible rfl)
            try simp only [Act.put, List.setIfInBounds_toArray, List.set_cons_zero, List.set_cons_succ, List.getElem_toArray, List.getElem_cons_succ, List.getElem_cons_zero]
            refine wpAnyH_take (i := 2) (v := ?_) rfl (by kernel_rfl) (by kernel_rfl) (by kernel_rfl) (fun _ _ _ h => h) (Or.inl ⟨by rfl, ?_⟩) (by assumption) ?_
            rotate_left
            focus (intro w hSw; (try dsimp only at hSw); go_simp; try with_reducible rfl)
            try simp only [Act.put, List.setIfInBounds_toArray, List.set_cons_zero, List.set_cons_succ, List.getElem_toArray, List.getElem_cons_succ, List.getElem_cons_zero]
            refine wpAnyH_take (i := 3) (v := ?_) rfl (by kernel_rfl) (by kernel_rfl) (by kernel_rfl) (fun _ _ _ h => h) (Or.inl ⟨by rfl, ?_⟩) (by assumption) ?_
            rotate_left
            focus (intro w hSw; (try dsimp only at hSw); go_simp; try with_reducible rfl)
            try simp only [Act.put, List.setIfInBounds_toArray, List.set_cons_zero, List.set_cons_succ, List.getElem_toArray, List.getElem_cons_succ, List.getElem_cons_zero]
            refine wpAnyH_take (i := 4) (v := ?_) rfl (by kernel_rfl) (by kernel_rfl) (by kernel_rfl) (fun _ _ _ h => h) (Or.inl ⟨by rfl, ?_⟩) (by assumption) ?_
            rotate_left
            focus (intro w hSw; (try dsimp only at hSw); go_simp; try with_reducible rfl)
            try simp only [Act.put, List.setIfInBounds_toArray, List.set_cons_zero, List.set_cons_succ, List.getElem_toArray, List.getElem_cons_succ, List.getElem_cons_zero]
            refine wpAnyH_take (i := 5) (v := ?_) rfl (by kernel_rfl) (by kernel_rfl) (by kernel_rfl) (fun _ _ _ h => h) (Or.inl ⟨by rfl, ?_⟩) (by assumption) ?_
            rotate_left
            focus (intro w hSw; (try dsimp only at hSw); go_simp; try with_reducible rfl)
            try simp only [Act.put, List.setIfInBounds_toArray, List.set_cons_zero, List.set_cons_succ, List.getElem_toArray, List.getElem_cons_succ, List.getElem_cons_zero]
            refine wpAnyH_take (i := 6) (v := ?_) rfl (by kernel_rfl) (by kernel_rfl) (by kernel_rfl) (fun _ _ _ h => h) (Or.inl ⟨by rfl, ?_⟩) (by assumption) ?_
            rotate_left
            focus (intro w hSw; (try dsimp only at hSw); go_simp; try with_reducible rfl)
            try simp only [Act.put, List.setIfInBounds_toArray, List.set_cons_zero, List.set_cons_succ, List.getElem_toArray, List.getElem_cons_succ, List.getElem_cons_zero]
            refine wpAnyH_ready (rs := [7]) (by kernel_rfl) (by simp) ?_
            refine AllReadyH.cons rfl (fun K hK => ?_) AllReadyH.nil
            go_simp
            (go_at_call 30; (with_reducible refine (has_calls _ (l.take i) k _ (HTK7.out.below (by repeat (first | exact Below.refl _ _ | apply below_drew1 | apply pw_below_drewN))) (by have := HLB.out; rw [List.length_take]; omega)).mono ?_); rintro e W8 ⟨rfl, hb⟩; rw [HDE.out.1]; have HBW8 := Aside0.mk (show Below W7.heap.size W7 W8 from ⟨hb.os, hb.tape, hb.output, hb.size, hb.block⟩); clear hb)
            refine hK.out _ _ (pw_cell_below HBW8.out q2) (fun hHeld2 => ?_)
            clear hK K
            try simp only [Act.put, List.setIfInBounds_toArray, List.set_cons_zero, List.set_cons_succ, List.getElem_toArray, List.getElem_cons_succ, List.getElem_cons_zero]
            refine wpAnyH_take (i := 8) (v := ?_) rfl (by kernel_rfl) (by kernel_rfl) (by kernel_rfl) (fun _ _ _ h => h) (Or.inl ⟨by rfl, ?_⟩) (by assumption) ?_
            rotate_left
            focus (intro w hSw; (try dsimp only at hSw); go_simp; try with_reducible rfl)
            try simp only [Act.put, List.setIfInBounds_toArray, List.set_cons_zero, List.set_cons_succ, List.getElem_toArray, List.getElem_cons_succ, List.getElem_cons_zero]
            refine wpAnyH_take (i := 9) (v := ?_) rfl (by kernel_rfl) (by kernel_rfl) (by kernel_rfl) (fun _ _ _ h => h) (Or.inl ⟨by rfl, ?_⟩) (by assumption) ?_
            rotate_left
            focus (intro w hSw; (try dsimp only at hSw); go_simp; try with_reducible rfl)
            try simp only [Act.put, List.setIfInBounds_toArray, List.set_cons_zero, List.set_cons_succ, List.getElem_toArray, List.getElem_cons_succ, List.getElem_cons_zero]
            refine wpAnyH_take (i := 10) (v := ?_) rfl (by kernel_rfl) (by kernel_rfl) (by kernel_rfl) (fun _ _ _ h => h) (Or.inl ⟨by rfl, ?_⟩) (by assumption) ?_
            rotate_left
            focus (intro w hSw; (try dsimp only at hSw); go_simp; try with_reducible rfl)
            try simp only [Act.put, List.setIfInBounds_toArray, List.set_cons_zero, List.set_cons_succ, List.getElem_toArray, List.getElem_cons_succ, List.getElem_cons_zero]
            refine wpAnyH_take (i := 11) (v := ?_) rfl (by kernel_rfl) (by kernel_rfl) (by kernel_rfl) (fun _ _ _ h => h) (Or.inl ⟨by rfl, ?_⟩) (by assumption) ?_
            rotate_left
            focus (intro w hSw; (try dsimp only at hSw); go_simp; try with_reducible rfl)
            try simp only [Act.put, List.setIfInBounds_toArray, List.set_cons_zero, List.set_cons_succ, List.getElem_toArray, List.getElem_cons_succ, List.getElem_cons_zero]
            refine wpAnyH_take (i := 12) (v := ?_) rfl (by kernel_rfl) (by kernel_rfl) (by kernel_rfl) (fun _ _ _ h => h) (Or.inl ⟨by rfl, ?_⟩) (by assumption) ?_
            rotate_left
            focus (intro w hSw; (try dsimp only at hSw); go_simp; try with_reducible rfl)
            try simp only [Act.put, List.setIfInBounds_toArray, List.set_cons_zero, List.set_cons_succ, List.getElem_toArray, List.getElem_cons_succ, List.getElem_cons_zero]
            refine wpAnyH_take (i := 13) (v := undef) rfl (by kernel_rfl) (by kernel_rfl) (by kernel_rfl) (fun _ _ _ h => h) (Or.inr ⟨by rfl, rfl⟩) (by assumption) ?_
            try simp only [Act.put, List.setIfInBounds_toArray, List.set_cons_zero, List.set_cons_succ, List.getElem_toArray, List.getElem_cons_succ, List.getElem_cons_zero]
            refine wpAnyH_take (i := 14) (v := undef) rfl (by kernel_rfl) (by kernel_rfl) (by kernel_rfl) (fun _ _ _ h => h) (Or.inr ⟨by rfl, rfl⟩) (by assumption) ?_
            try simp only [Act.put, List.setIfInBounds_toArray, List.set_cons_zero, List.set_cons_succ, List.getElem_toArray, List.getElem_cons_succ, List.getElem_cons_zero]
            refine wpAnyH_take (i := 15) (v := undef) rfl (by kernel_rfl) (by kernel_rfl) (by kernel_rfl) (fun _ _ _ h => h) (Or.inr ⟨by rfl, rfl⟩) (by assumption) ?_
            try simp only [Act.put, List.setIfInBounds_toArray, List.set_cons_zero, List.set_cons_succ, List.getElem_toArray, List.getElem_cons_succ, List.getElem_cons_zero]
            refine wpAnyH_take (i := 16) (v := undef) rfl (by kernel_rfl) (by kernel_rfl) (by kernel_rfl) (fun _ _ _ h => h) (Or.inr ⟨by rfl, rfl⟩) (by assumption) ?_
            try simp only [Act.put, List.setIfInBounds_toArray, List.set_cons_zero, List.set_cons_succ, List.getElem_toArray, List.getElem_cons_succ, List.getElem_cons_zero]
            refine wpAnyH_take (i := 17) (v := undef) rfl (by kernel_rfl) (by kernel_rfl) (by kernel_rfl) (fun _ _ _ h => h) (Or.inr ⟨by rfl, rfl⟩) (by assumption) ?_
            try simp only [Act.put, List.setIfInBounds_toArray, List.set_cons_zero, List.set_cons_succ, List.getElem_toArray, List.getElem_cons_succ, List.getElem_cons_zero]
            refine wpAnyH_ready (rs := [18]) (by kernel_rfl) (by simp) ?_
            refine AllReadyH.cons rfl (fun K hK => ?_) AllReadyH.nil
            rw [if_neg (by simp [Region.wanted, yielded])]
            refine hK.out _ _ (by assumption) (fun hHeld2 => ?_)
            clear hK K
            try simp only [Act.put, List.setIfInBounds_toArray, List.set_cons_zero, List.set_cons_succ, List.getElem_toArray, List.getElem_cons_succ, List.getElem_cons_zero]
            refine wpAnyH_take (i := 19) (v := undef) rfl (by kernel_rfl) (by kernel_rfl) (by kernel_rfl) (fun _ _ _ h => h) (Or.inr ⟨by rfl, rfl⟩) (by assumption) ?_
            try simp only [Act.put, List.setIfInBounds_toArray, List.set_cons_zero, List.set_cons_succ, List.getElem_toArray, List.getElem_cons_succ, List.getElem_cons_zero]
            refine wpAnyH_take (i := 20) (v := ?_) rfl (by kernel_rfl) (by kernel_rfl) (by kernel_rfl) (fun _ _ _ h => h) (Or.inl ⟨by rfl, ?_⟩) (by assumption) ?_
            rotate_left
            focus (intro w hSw; (try dsimp only at hSw); go_simp; try with_reducible rfl)
            try simp only [Act.put, List.setIfInBounds_toArray, List.set_cons_zero, List.set_cons_succ, List.getElem_toArray, List.getElem_cons_succ, List.getElem_cons_zero]
            refine wpAnyH_take (i := 21) (v := ?_) rfl (by kernel_rfl) (by kernel_rfl) (by kernel_rfl) (fun _ _ _ h => h) (Or.inl ⟨by rfl, ?_⟩) (by assumption) ?_
            rotate_left
            focus (intro w hSw; (try dsimp only at hSw); go_simp; try with_reducible rfl)
            try simp only [Act.put, List.setIfInBounds_toArray, List.set_cons_zero, List.set_cons_succ, List.getElem_toArray, List.getElem_cons_succ, List.getElem_cons_zero]
            refine wpAnyH_done (by kernel_rfl) ?_ _
            refine NoPanic.normal ?_
            have HBZ : Aside0 (Below W7.heap.size W7 _) := ⟨by repeat (first | exact HBW8.out | apply below_drew1 | apply pw_below_drewN)⟩
            cases t2 <;> cases t3
            all_goals obtain rfl := HT.out
            all_goals (go_wp2_with (first | (go_at_call 30; (with_reducible refine (has_calls _ (pre f top) k _ (HIN.out.below (below_then HBW.out HBW.out.size (below_then HB67.out HB67.out.size HBZ.out))) (by have := HLB.out; omega)).mono ?_); rintro e W10 ⟨rfl, hb⟩; rw [HT1.out]; have HBZ := Aside0.mk (below_then HBZ.out HBZ.out.size hb); clear hb) | (go_at_call 16; (with_reducible refine (up_calls v f next k _ (HD.out.below (below_then HB5W.out HB5W.out.size (below_then HB67.out HB67.out.size HBZ.out))) HG.out).mono ?_); rintro e W11 ⟨zu, rfl, hR, hb⟩; have HUP := Aside0.mk (RdI.of_R hR); have HBZ := Aside0.mk (below_then HBZ.out HBZ.out.size hb); clear hb hR) | (go_at_call 30; (with_reducible refine (has_calls _ (upR f k) top _ HUP.out (by have := HLB.out.2.2 k; omega)).mono ?_); rintro e W12 ⟨rfl, hb⟩; rw [HT3.out]; have HBZ := Aside0.mk (below_then HBZ.out HBZ.out.size hb); clear hb) | fail))
            all_goals go_roundg g0
            all_goals first
              | (have := HK.out; omega)
              | exact ⟨i + 1, (by have := HI0.out; have := HLB.out; congr 1; unfold wrap64; omega), ⟨by have := HK.out; omega⟩, ⟨HI0.out⟩, ⟨below_then HBW.out HBW.out.size (below_then HB67.out HB67.out.size HBZ.out)⟩⟩
          · have dk : (k != 1) = true := by simp [k1]
            have HDE2 : Aside0 (decide (x.f2 ∈ l.take i) = true) := ⟨decide_eq_true (HX3.out k1)⟩
            clear k1
            refine wp_region_noPanic ?_
            refine wp_region_held_drew (S := (fun w' : World => w'.cell? ⟨g, 2, none⟩ = some (.int .i64 x.f2))) (by kernel_rfl) q2 (fun hHeld => ?_)
            refine wpAnyH_take (i := 0) (v := ?_) rfl (by kernel_rfl) (by kernel_rfl) (by kernel_rfl) (fun _ _ _ h => h) (Or.inl ⟨by rfl, ?_⟩) (by assumption) ?_
            rotate_left
            focus (intro w hSw; (try dsimp only at hSw); go_simp; try with_reducible rfl)
            try simp only [Act.put, List.setIfInBounds_toArray, List.set_cons_zero, List.set_cons_succ, List.getElem_toArray, List.getElem_cons_succ, List.getElem_cons_zero]
            refine wpAnyH_take (i := 1) (v := ?_) rfl (by kernel_rfl) (by kernel_rfl) (by kernel_rfl) (fun _ _ _ h => h) (Or.inl ⟨by rfl, ?_⟩) (by assumption) ?_
            rotate_left
            focus (intro w hSw; (try dsimp only at hSw); go_simp; try with_reducible rfl)
            try simp only [Act.put, List.setIfInBounds_toArray, List.set_cons_zero, List.set_cons_succ, List.getElem_toArray, List.getElem_cons_succ, List.getElem_cons_zero]
            refine wpAnyH_take (i := 2) (v := ?_) rfl (by kernel_rfl) (by kernel_rfl) (by kernel_rfl) (fun _ _ _ h => h) (Or.inl ⟨by rfl, ?_⟩) (by assumption) ?_
            rotate_left
            focus (intro w hSw; (try dsimp only at hSw); go_simp; try with_reducible rfl)
            try simp only [Act.put, List.setIfInBounds_toArray, List.set_cons_zero, List.set_cons_succ, List.getElem_toArray, List.getElem_cons_succ, List.getElem_cons_zero]
            refine wpAnyH_take (i := 3) (v := ?_) rfl (by kernel_rfl) (by kernel_rfl) (by kernel_rfl) (fun _ _ _ h => h) (Or.inl ⟨by rfl, ?_⟩) (by assumption) ?_
            rotate_left
            focus (intro w hSw; (try dsimp only at hSw); go_simp; try with_reducible rfl)
            try simp only [Act.put, List.setIfInBounds_toArray, List.set_cons_zero, List.set_cons_succ, List.getElem_toArray, List.getElem_cons_succ, List.getElem_cons_zero]
            refine wpAnyH_take (i := 4) (v := ?_) rfl (by kernel_rfl) (by kernel_rfl) (by kernel_rfl) (fun _ _ _ h => h) (Or.inl ⟨by rfl, ?_⟩) (by assumption) ?_
            rotate_left
            focus (intro w hSw; (try dsimp only at hSw); go_simp; try with_reducible rfl)
            try simp only [Act.put, List.setIfInBounds_toArray, List.set_cons_zero, List.set_cons_succ, List.getElem_toArray, List.getElem_cons_succ, List.getElem_cons_zero]
            refine wpAnyH_take (i := 5) (v := ?_) rfl (by kernel_rfl) (by kernel_rfl) (by kernel_rfl) (fun _ _ _ h => h) (Or.inl ⟨by rfl, ?_⟩) (by assumption) ?_
            rotate_left
            focus (intro w hSw; (try dsimp only at hSw); go_simp; try with_reducible rfl)
            try simp only [Act.put, List.setIfInBounds_toArray, List.set_cons_zero, List.set_cons_succ, List.getElem_toArray, List.getElem_cons_succ, List.getElem_cons_zero]
            refine wpAnyH_take (i := 6) (v := ?_) rfl (by kernel_rfl) (by kernel_rfl) (by kernel_rfl) (fun _ _ _ h => h) (Or.inl ⟨by rfl, ?_⟩) (by assumption) ?_
            rotate_left
            focus (intro w hSw; (try dsimp only at hSw); go_simp; try with_reducible rfl)
            try simp only [Act.put, List.setIfInBounds_toArray, List.set_cons_zero, List.set_cons_succ, List.getElem_toArray, List.getElem_cons_succ, List.getElem_cons_zero]
            refine wpAnyH_ready (rs := [7]) (by kernel_rfl) (by simp) ?_
            refine AllReadyH.cons rfl (fun K hK => ?_) AllReadyH.nil
            go_simp
            (go_at_call 30; (with_reducible refine (has_calls _ (l.take i) k _ (HTK7.out.below (by repeat (first | exact Below.refl _ _ | apply below_drew1 | apply pw_below_drewN))) (by have := HLB.out; rw [List.length_take]; omega)).mono ?_); rintro e W8 ⟨rfl, hb⟩; rw [HDE.out.1]; have HBW8 := Aside0.mk (show Below W7.heap.size W7 W8 from ⟨hb.os, hb.tape, hb.output, hb.size, hb.block⟩); clear hb)
            refine hK.out _ _ (pw_cell_below HBW8.out q2) (fun hHeld2 => ?_)
            clear hK K
            try simp only [Act.put, List.setIfInBounds_toArray, List.set_cons_zero, List.set_cons_succ, List.getElem_toArray, List.getElem_cons_succ, List.getElem_cons_zero]
            refine wpAnyH_take (i := 8) (v := ?_) rfl (by kernel_rfl) (by kernel_rfl) (by kernel_rfl) (fun _ _ _ h => h) (Or.inl ⟨by rfl, ?_⟩) (by assumption) ?_
            rotate_left
            focus (intro w hSw; (try dsimp only at hSw); go_simp; try with_reducible rfl)
            try simp only [Act.put, List.setIfInBounds_toArray, List.set_cons_zero, List.set_cons_succ, List.getElem_toArray, List.getElem_cons_succ, List.getElem_cons_zero]
            refine wpAnyH_take (i := 9) (v := ?_) rfl (by kernel_rfl) (by kernel_rfl) (by kernel_rfl) (fun _ _ _ h => h) (Or.inl ⟨by rfl, ?_⟩) (by assumption) ?_
            rotate_left
            focus (intro w hSw; (try dsimp only at hSw); go_simp; try with_reducible rfl)
            try simp only [Act.put, List.setIfInBounds_toArray, List.set_cons_zero, List.set_cons_succ, List.getElem_toArray, List.getElem_cons_succ, List.getElem_cons_zero]
            refine wpAnyH_take (i := 10) (v := ?_) rfl (by kernel_rfl) (by kernel_rfl) (by kernel_rfl) (fun _ _ _ h => h) (Or.inl ⟨by rfl, ?_⟩) (by assumption) ?_
            rotate_left
            focus (intro w hSw; (try dsimp only at hSw); go_simp; try with_reducible rfl)
            try simp only [Act.put, List.setIfInBounds_toArray, List.set_cons_zero, List.set_cons_succ, List.getElem_toArray, List.getElem_cons_succ, List.getElem_cons_zero]
            refine wpAnyH_take (i := 11) (v := ?_) rfl (by kernel_rfl) (by kernel_rfl) (by kernel_rfl) (fun _ _ _ h => h) (Or.inl ⟨by rfl, ?_⟩) (by assumption) ?_
            rotate_left
            focus (intro w hSw; (try dsimp only at hSw); go_simp; try with_reducible rfl)
            try simp only [Act.put, List.setIfInBounds_toArray, List.set_cons_zero, List.set_cons_succ, List.getElem_toArray, List.getElem_cons_succ, List.getElem_cons_zero]
            refine wpAnyH_take (i := 12) (v := ?_) rfl (by kernel_rfl) (by kernel_rfl) (by kernel_rfl) (fun _ _ _ h => h) (Or.inl ⟨by rfl, ?_⟩) (by assumption) ?_
            rotate_left
            focus (intro w hSw; (try dsimp only at hSw); go_simp; try with_reducible rfl)
            try simp only [Act.put, List.setIfInBounds_toArray, List.set_cons_zero, List.set_cons_succ, List.getElem_toArray, List.getElem_cons_succ, List.getElem_cons_zero]
            refine wpAnyH_take (i := 13) (v := ?_) rfl (by kernel_rfl) (by kernel_rfl) (by kernel_rfl) (fun _ _ _ h => h) (Or.inl ⟨by rfl, ?_⟩) (by assumption) ?_
            rotate_left
            focus (intro w hSw; (try dsimp only at hSw); go_simp; try with_reducible rfl)
            try simp only [Act.put, List.setIfInBounds_toArray, List.set_cons_zero, List.set_cons_succ, List.getElem_toArray, List.getElem_cons_succ, List.getElem_cons_zero]
            refine wpAnyH_take (i := 14) (v := ?_) rfl (by kernel_rfl) (by kernel_rfl) (by kernel_rfl) (fun _ _ _ h => h) (Or.inl ⟨by rfl, ?_⟩) (by assumption) ?_
            rotate_left
            focus (intro w hSw; (try dsimp only at hSw); go_simp; try with_reducible rfl)
            try simp only [Act.put, List.setIfInBounds_toArray, List.set_cons_zero, List.set_cons_succ, List.getElem_toArray, List.getElem_cons_succ, List.getElem_cons_zero]
            refine wpAnyH_take (i := 15) (v := ?_) rfl (by kernel_rfl) (by kernel_rfl) (by kernel_rfl) (fun _ _ _ h => h) (Or.inl ⟨by rfl, ?_⟩) (by assumption) ?_
            rotate_left
            focus (intro w hSw; (try dsimp only at hSw); go_simp; try with_reducible rfl)
            try simp only [Act.put, List.setIfInBounds_toArray, List.set_cons_zero, List.set_cons_succ, List.getElem_toArray, List.getElem_cons_succ, List.getElem_cons_zero]
            refine wpAnyH_take (i := 16) (v := ?_) rfl (by kernel_rfl) (by kernel_rfl) (by kernel_rfl) (fun _ _ _ h => h) (Or.inl ⟨by rfl, ?_⟩) (by assumption) ?_
            rotate_left
            focus (intro w hSw; (try dsimp only at hSw); go_simp; try with_reducible rfl)
            try simp only [Act.put, List.setIfInBounds_toArray, List.set_cons_zero, List.set_cons_succ, List.getElem_toArray, List.getElem_cons_succ, List.getElem_cons_zero]
            refine wpAnyH_take (i := 17) (v := ?_) rfl (by kernel_rfl) (by kernel_rfl) (by kernel_rfl) (fun _ _ _ h => h) (Or.inl ⟨by rfl, ?_⟩) (by assumption) ?_
            rotate_left
            focus (intro w hSw; (try dsimp only at hSw); go_simp; try with_reducible rfl)
            try simp only [Act.put, List.setIfInBounds_toArray, List.set_cons_zero, List.set_cons_succ, List.getElem_toArray, List.getElem_cons_succ, List.getElem_cons_zero]
            refine wpAnyH_ready (rs := [18]) (by kernel_rfl) (by simp) ?_
            refine AllReadyH.cons rfl (fun K hK => ?_) AllReadyH.nil
            go_simp
            (go_at_call 30; (with_reducible refine (has_calls _ (l.take i) x.f2 _ (HTK7.out.below (by repeat (first | exact HBW8.out | apply below_drew1 | apply pw_below_drewN))) (by have := HLB.out; rw [List.length_take]; omega)).mono ?_); rintro e W9 ⟨rfl, hb⟩; rw [HDE2.out]; have HBW9 := Aside0.mk (below_then HBW8.out HBW8.out.size (show Below W8.heap.size W8 W9 from ⟨hb.os, hb.tape, hb.output, hb.size, hb.block⟩)); clear hb)
            refine hK.out _ _ (pw_cell_below HBW9.out q2) (fun hHeld2 => ?_)
            clear hK K
            try simp only [Act.put, List.setIfInBounds_toArray, List.set_cons_zero, List.set_cons_succ, List.getElem_toArray, List.getElem_cons_succ, List.getElem_cons_zero]
            refine wpAnyH_take (i := 19) (v := ?_) rfl (by kernel_rfl) (by kernel_rfl) (by kernel_rfl) (fun _ _ _ h => h) (Or.inl ⟨by rfl, ?_⟩) (by assumption) ?_
            rotate_left
            focus (intro w hSw; (try dsimp only at hSw); go_simp; try with_reducible rfl)
            try simp only [Act.put, List.setIfInBounds_toArray, List.set_cons_zero, List.set_cons_succ, List.getElem_toArray, List.getElem_cons_succ, List.getElem_cons_zero]
            refine wpAnyH_take (i := 20) (v := ?_) rfl (by kernel_rfl) (by kernel_rfl) (by kernel_rfl) (fun _ _ _ h => h) (Or.inl ⟨by rfl, ?_⟩) (by assumption) ?_
            rotate_left
            focus (intro w hSw; (try dsimp only at hSw); go_simp; try with_reducible rfl)
            try simp only [Act.put, List.setIfInBounds_toArray, List.set_cons_zero, List.set_cons_succ, List.getElem_toArray, List.getElem_cons_succ, List.getElem_cons_zero]
            refine wpAnyH_take (i := 21) (v := ?_) rfl (by kernel_rfl) (by kernel_rfl) (by kernel_rfl) (fun _ _ _ h => h) (Or.inl ⟨by rfl, ?_⟩) (by assumption) ?_
            rotate_left
            focus (intro w hSw; (try dsimp only at hSw); go_simp; try with_reducible rfl)
            try simp only [Act.put, List.setIfInBounds_toArray, List.set_cons_zero, List.set_cons_succ, List.getElem_toArray, List.getElem_cons_succ, List.getElem_cons_zero]
            refine wpAnyH_done (by kernel_rfl) ?_ _
            refine NoPanic.normal ?_
            have HBZ : Aside0 (Below W7.heap.size W7 _) := ⟨by repeat (first | exact HBW9.out | apply below_drew1 | apply pw_below_drewN)⟩
            cases t2 <;> cases t3
            all_goals obtain rfl := HT.out
            all_goals (go_wp2_with (first | (go_at_call 30; (with_reducible refine (has_calls _ (pre f top) k _ (HIN.out.below (below_then HBW.out HBW.out.size (below_then HB67.out HB67.out.size HBZ.out))) (by have := HLB.out; omega)).mono ?_); rintro e W10 ⟨rfl, hb⟩; rw [HT1.out]; have HBZ := Aside0.mk (below_then HBZ.out HBZ.out.size hb); clear hb) | (go_at_call 16; (with_reducible refine (up_calls v f next k _ (HD.out.below (below_then HB5W.out HB5W.out.size (below_then HB67.out HB67.out.size HBZ.out))) HG.out).mono ?_); rintro e W11 ⟨zu, rfl, hR, hb⟩; have HUP := Aside0.mk (RdI.of_R hR); have HBZ := Aside0.mk (below_then HBZ.out HBZ.out.size hb); clear hb hR) | (go_at_call 30; (with_reducible refine (has_calls _ (upR f k) top _ HUP.out (by have := HLB.out.2.2 k; omega)).mono ?_); rintro e W12 ⟨rfl, hb⟩; rw [HT3.out]; have HBZ := Aside0.mk (below_then HBZ.out HBZ.out.size hb); clear hb) | fail))
            all_goals go_roundg g0
            all_goals first
              | (have := HK.out; omega)
              | exact ⟨i + 1, (by have := HI0.out; have := HLB.out; congr 1; unfold wrap64; omega), ⟨by have := HK.out; omega⟩, ⟨HI0.out⟩, ⟨below_then HBW.out HBW.out.size (below_then HB67.out HB67.out.size HBZ.out)⟩⟩
        · obtain rfl : i = l.length := by have := HI.out; omega
          have c1 : decide (l.length < l.length) = false := decide_eq_false (by omega)
          clear c0
          go_wp2_with (first | (go_at_call 10; refine (lives_calls _).mono ?_; rintro e WL ⟨rfl, hb⟩; have HBL := Aside0.mk (below_then HB5W.out HB5W.out.size hb); clear hb) | fail)
          go_ret
          exact ⟨rfl, below_then HB2.out HB2.out.size HBL.out⟩
theorem lawWalkOnce.calls (k : Unit) (A : Option Addr) (c : Nat) (l : List S52) (top : Int) (r : Bool) (w : World) (hC : Kd.C k52 w A l.length l) (hc : l.length ≤ c) (h : ∀ p, p ∈ l → p.f4.size ≤ 140737488351232 ∧ p.f5.size ≤ 140737488351232) :
    Calls Try.prog 8 #[.slice A l.length c, .int .i64 top] w fun e w' => e = .returned (.bool true) ∧ Below w.heap.size w w' :=
  once_calls l A c top w hC hc (fun p hp => by have := h p hp; omega)
theorem pure_WalkOnce (l : List S52) (top : Int) (h : ∀ p, p ∈ l → p.f4.size ≤ 140737488351232 ∧ p.f5.size ≤ 140737488351232) : ∃ k : Unit, ∀ p, p ∈ l → p.f4.size ≤ 140737488351232 ∧ p.f5.size ≤ 140737488351232 := ⟨(), h⟩
end Go.Proofs.Ytpnlbmeeihbjaaa.P
end
