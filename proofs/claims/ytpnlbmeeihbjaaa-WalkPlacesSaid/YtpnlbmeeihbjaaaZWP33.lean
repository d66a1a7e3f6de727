/- WalkPlaces: for every input the law returns true, and each argument reads behind the call as it read before. -/
import Derived.Test.YtpnlbmeeihbjaaaZWP28
import Derived.Test.YtpnlbmeeihbjaaaZWP29
import Derived.Test.YtpnlbmeeihbjaaaZWP32
section
set_option linter.unusedVariables false
set_option linter.unusedSimpArgs false
namespace Go.Proofs.Ytpnlbmeeihbjaaa.P
open Go.RowKit Go.Proofs.YtpnlbmeeihbjaaaW.PrintWords Go.Proofs.YtpnlbmeeihbjaaaW.PrintLast Go.Proofs.YtpnlbmeeihbjaaaW.PrintMore
attribute [local go_sem] max2_int min2_int max_two min_two max_three min_three max_four min_four
set_option linter.unusedVariables false
set_option linter.unusedSimpArgs false
theorem ints_from (l : List Int) (hl : l.length ≤ 9223372036854775807) : ∀ (d i : Nat), i + d = l.length → gouacheref01_Ints.l0 (d + 1) l l (l.length : Int) (i : Int) = some true
  | 0, i, h => by
    unfold gouacheref01_Ints.l0
    rw [if_neg (by omega)]
  | d + 1, i, h => by
    unfold gouacheref01_Ints.l0
    rw [if_pos (by omega), if_pos (by omega), if_pos (by omega), if_pos (by omega), if_pos rfl, show wrap64 ((i : Int) + 1) = ((i + 1 : Nat) : Int) by unfold wrap64; omega]
    exact ints_from l hl d (i + 1) (by omega)
theorem ints_same (l : List Int) (hl : l.length ≤ 9223372036854775807) : gouacheref01_Ints.f (l.length + 1) l l = some true := by
  unfold gouacheref01_Ints.f
  rw [if_pos rfl]
  exact ints_from l hl l.length 0 (by omega)
theorem ints_calls (u v : Value) (l : List Int) (w : World) (h : RdI w u l) (h2 : RdI w v l) (hl : l.length ≤ 9223372036854775807) : Calls Try.prog 13 #[u, v] w fun e w' => e = .returned (.bool true) ∧ Below w.heap.size w w' := by
  obtain ⟨A, c, rfl, hc, hC⟩ := h
  obtain ⟨A2, c2, rfl, hc2, hC2⟩ := h2
  refine (gouacheref01_Ints.calls _ A c l A2 c2 l true w hC hc hC2 hc2 (ints_same l hl)).mono ?_
  rintro e w' ⟨rfl, hd⟩
  exact ⟨rfl, by obtain ⟨m, rfl⟩ := hd; exact pw_below_drewN (Below.refl _ _) _⟩
theorem at_calls8 (u : Value) (l : List Int) (k : Int) (w : World) (h : RdI w u l) (hl : l.length ≤ 9223372036854775807) : Calls Try.prog 47 #[u, .int .i64 k] w fun e w' => e = .returned (.int .i64 (idxI l k)) ∧ Below w.heap.size w w' := by
  obtain ⟨A, c, rfl, hc, hC⟩ := h
  refine (gouacheref08_at.calls _ A c l k _ w hC hc (at_eq l k hl)).mono ?_
  rintro e w' ⟨rfl, hd⟩
  exact ⟨rfl, by obtain ⟨m, rfl⟩ := hd; exact pw_below_drewN (Below.refl _ _) _⟩
def lv : List S52 := [⟨0, 1, 0, 0, ⟨#[98]⟩, ⟨#[]⟩⟩, ⟨0, 1, 1, 0, ⟨#[100]⟩, ⟨#[]⟩⟩, ⟨0, 2, 0, 0, ⟨#[99]⟩, ⟨#[]⟩⟩]
theorem lv_pre : pre (runA tree0 lv).1 1 = [1, 2, 4, 3] := by kernel_rfl
theorem lv_row : rowR (runA tree0 lv).1 3 = [2, 3] := by kernel_rfl
theorem lv_ch : (ch (runA tree0 lv).1 4).length = 3 := by kernel_rfl
theorem lv_cmp : cmpR (runA tree0 lv).1 4 3 = -1 := by
  have hg := good_tree lv
  have h1 : ∀ k ∈ pre (runA tree0 lv).1 1, look (runA tree0 lv).1 k ≠ none := fun k hk e => by
    obtain ⟨x, hx⟩ := pre_look hg hk
    rw [e] at hx; cases hx
  rw [cmp_some (by
    rintro (h | h | h)
    · exact h1 4 (by rw [lv_pre]; simp) h
    · exact h1 3 (by rw [lv_pre]; simp) h
    · exact absurd h (by decide)), lv_pre]
  rfl
theorem lv_plc : plc1 (runA tree0 lv).1 3 = 2 ∧ plc2 (runA tree0 lv).1 3 = 1 := by
  unfold plc1 plc2
  rw [lv_row]
  exact ⟨rfl, rfl⟩
theorem lv_C (w : World) (g : Nat) (h : w.heap[g]? = some (.cells #[.int .i64 0, .int .i64 1, .int .i64 0, .int .i64 0, .string ⟨#[98]⟩, .string ⟨#[]⟩, .int .i64 0, .int .i64 1, .int .i64 1, .int .i64 0, .string ⟨#[100]⟩, .string ⟨#[]⟩, .int .i64 0, .int .i64 2, .int .i64 0, .int .i64 0, .string ⟨#[99]⟩, .string ⟨#[]⟩] 52 (0, 0))) : Kd.C k52 w (some ⟨g, 0, none⟩) lv.length lv := by
  refine ⟨rfl, by decide, fun _ => ⟨⟨g, 0, none⟩, rfl, fun j p hj => ?_⟩⟩
  rcases j with _ | _ | _ | j
  · obtain rfl := Option.some.inj hj
    refine ⟨_, rfl, k52_mk w _, fun m u hm => ?_⟩
    rcases m with _ | _ | _ | _ | _ | _ | m <;> first | exact (blk_cell h _).trans hm | simp at hm
  · obtain rfl := Option.some.inj hj
    refine ⟨_, rfl, k52_mk w _, fun m u hm => ?_⟩
    rcases m with _ | _ | _ | _ | _ | _ | m <;> first | exact (blk_cell h _).trans hm | simp at hm
  · obtain rfl := Option.some.inj hj
    refine ⟨_, rfl, k52_mk w _, fun m u hm => ?_⟩
    rcases m with _ | _ | _ | _ | _ | _ | m <;> first | exact (blk_cell h _).trans hm | simp at hm
  · simp [lv] at hj
set_option maxHeartbeats 8000000 in
set_option maxRecDepth 100000 in
theorem lives_calls (w : World) : Calls Try.prog 10 #[] w fun e w' => e = .returned (.bool true) ∧ Below w.heap.size w w' := by
  have hu52 := Try.underlying52
  have hu29 := Try.underlying29
  have HG := Aside0.mk (good_tree lv)
  have HPR := Aside0.mk lv_pre
  have HCH := Aside0.mk lv_ch
  have HCM := Aside0.mk lv_cmp
  have HPL := Aside0.mk lv_plc
  have HT : Aside0 (∀ (W : World) (g : Nat), W.heap[g]? = some (.cells #[.int .i64 0, .int .i64 1, .int .i64 0, .int .i64 0, .string ⟨#[98]⟩, .string ⟨#[]⟩, .int .i64 0, .int .i64 1, .int .i64 1, .int .i64 0, .string ⟨#[100]⟩, .string ⟨#[]⟩, .int .i64 0, .int .i64 2, .int .i64 0, .int .i64 0, .string ⟨#[99]⟩, .string ⟨#[]⟩] 52 (0, 0)) →
      Calls Try.prog 11 #[.slice (some ⟨g, 0, none⟩) 3 3] W fun e w' => ∃ v u, e = .returned (.tuple #[v, u]) ∧ DocF w' v (runA tree0 lv).1 (runA tree0 lv).2 ∧ Below W.heap.size W w') := ⟨fun W g h => by
    refine (tree_calls lv (some ⟨g, 0, none⟩) 3 W (lv_C W g h) (by decide) (by intro p hp; simp [lv] at hp; rcases hp with rfl | rfl | rfl <;> decide)).mono ?_
    rintro e w' ⟨v, u, he, hd, _, hb⟩
    exact ⟨v, u, he, hd, hb⟩⟩
  generalize (runA tree0 lv).1 = f at HG HPR HCH HCM HPL HT
  generalize (runA tree0 lv).2 = next at HG HT
  go_enter Try.func10, Try.ntmps10
  go_upto_region 2 with (first | (go_at_call 11; refine (HT.out _ _ (blk_new _ _)).mono ?_; rintro e W1 ⟨v, u, rfl, hd, hb1⟩; have HD := Aside0.mk hd; have HB1 := Aside0.mk (below_then (below_alloc (Below.refl w.heap.size w) _) (below_alloc (Below.refl w.heap.size w) _).size hb1); clear hd hb1) | fail)
  go_upto_region 3 with (first | (go_at_call 22; refine (place_calls v f next 3 _ HD.out HG.out).mono ?_; rintro e W2 ⟨rfl, hb2⟩; rw [HPL.out.1, HPL.out.2]; have HD2 := Aside0.mk (HD.out.below hb2); have HB2 := Aside0.mk (below_then HB1.out HB1.out.size hb2); clear hb2) | fail)
  go_wp2_with (first
    | (go_at_call 15; refine (order_calls v f next _ HD2.out HG.out).mono ?_; rintro e W3 ⟨o, rfl, hR, hb3⟩; rw [HPR.out] at hR; have HR3 := Aside0.mk (RdI.of_R hR); have HB23 := Aside0.mk hb3; obtain ⟨A, c, rfl, _, _⟩ := RdI.of_R hR; clear hb3 hR)
    | (go_at_call 13; refine (ints_calls _ _ [1, 2, 4, 3] _ (HR3.out.below (below_alloc (Below.refl _ _) _)) (RdI.of_R (own_laid (xs := [1, 2, 4, 3]) (n := 4) (cap := 4) (base := 0) (Nat.zero_le _) (blk_new _ _) rfl (Nat.le_refl _) (show 4 ≤ maxLen by decide) rfl rfl (fun _ => True) trivial)) (by simp)).mono ?_; rintro e W4 ⟨rfl, hb4⟩; have HB24 := Aside0.mk (below_then (below_alloc HB23.out _) (below_alloc HB23.out _).size hb4); clear hb4)
    | (go_at_call 21; refine (wcmp_calls v f next 4 3 _ (HD2.out.below HB24.out) HG.out).mono ?_; rintro e W5 ⟨rfl, hb5⟩; rw [HCM.out]; have HB25 := Aside0.mk (below_then HB24.out HB24.out.size hb5); clear hb5)
    | (go_at_call 18; refine (wdepth_calls v f next 4 _ (HD2.out.below HB25.out) HG.out).mono ?_; rintro e W6 ⟨rfl, hb6⟩; rw [HCH.out]; have HB26 := Aside0.mk (below_then HB25.out HB25.out.size hb6); clear hb6)
    | fail)
  go_ret
  exact ⟨rfl, below_then HB2.out HB2.out.size HB26.out⟩
end Go.Proofs.Ytpnlbmeeihbjaaa.P
end
section
set_option linter.unusedVariables false
set_option linter.unusedSimpArgs false
namespace Go.Proofs.Ytpnlbmeeihbjaaa.P
open Go.RowKit Go.Proofs.YtpnlbmeeihbjaaaW.PrintWords Go.Proofs.YtpnlbmeeihbjaaaW.PrintLast Go.Proofs.YtpnlbmeeihbjaaaW.PrintMore
attribute [local go_sem] max2_int min2_int max_two min_two max_three min_three max_four min_four
set_option linter.unusedVariables false
set_option linter.unusedSimpArgs false
theorem light8 (l : List S52) (A : Option Addr) (c : Nat) (w : World) (hC : Kd.C k52 w A l.length l) (hc : l.length ≤ c) : ∃ b, Calls Try.prog 9 #[.slice A l.length c, .int .i64 80] w fun e w' => e = .returned (.bool b) ∧ Below w.heap.size w w' := by
  obtain ⟨k, b, hb⟩ := light_some l 80 hC.2.1
  refine ⟨b, (gouacheref07_Light.calls k A c l 80 b w hC hc hb).mono ?_⟩
  rintro e w' ⟨rfl, hd⟩
  exact ⟨rfl, hd⟩
section
variable {f : Nat → Option S40} {next : Int}
theorem up_root (hg : Good f next) {k : Int} {x : S40} (hk : look f k = some x) (h : upR f k = []) : k = 1 := by
  by_cases e : k = 1
  · exact e
  · obtain ⟨p, hp, _⟩ := hg.par k x hk e
    have := hg.dom _ p hp
    rw [(up_next hg hk (by omega)).1] at h
    cases h
theorem up_some (hg : Good f next) {k : Int} (h : upR f k ≠ []) : ∃ x, look f k = some x ∧ 0 < x.f2 ∧ upR f k = x.f2 :: upR f x.f2 ∧ (look f x.f2).isSome = true := by
  cases e : look f k with
  | none => exact absurd (up_none e) h
  | some x =>
    by_cases c : 0 < x.f2
    · refine ⟨x, rfl, c, (up_next hg e c).1, ?_⟩
      have hk1 : k ≠ 1 := fun h1 => by
        subst h1
        obtain ⟨r, hr, hr0⟩ := hg.root
        rw [e] at hr
        obtain rfl := Option.some.inj hr
        omega
      obtain ⟨p, hp, _⟩ := hg.par k x e hk1
      rw [hp]; rfl
    · exact absurd (up_stop hg e c) h
end
set_option maxHeartbeats 32000000 in
set_option maxRecDepth 100000 in
theorem ups_calls (l : List S52) (A : Option Addr) (c : Nat) (id : Int) (w : World) (hC : Kd.C k52 w A l.length l) (hc : l.length ≤ c) (hs : ∀ p, p ∈ l → p.f4.size ≤ 140737488355328 ∧ p.f5.size ≤ 140737488355328) :
    Calls Try.prog 4 #[.slice A l.length c, .int .i64 id] w fun e w' => e = .returned (.bool true) ∧ Below w.heap.size w w' := by
  obtain ⟨b, hlight⟩ := light8 l A c w hC hc
  have HLI := Aside0.mk hlight
  have HT : Aside0 (∀ W, Below w.heap.size w W → Calls Try.prog 11 #[.slice A l.length c] W fun e w' => ∃ v u, e = .returned (.tuple #[v, u]) ∧ DocF w' v (runA tree0 l).1 (runA tree0 l).2 ∧ RD w' u (runA tree0 l).1 (runA tree0 l).2 ∧ Below W.heap.size W w') := ⟨fun W hW => tree_calls l A c W (Kd.C_below hC hW) hc hs⟩
  have HG := Aside0.mk (good_tree l)
  generalize (runA tree0 l).1 = f at HT HG
  generalize (runA tree0 l).2 = next at HT HG
  have hu40 := Try.underlying40
  have hu29 := Try.underlying29
  clear hlight hC hs hc
  cases b with
  | false =>
    go_enter Try.func4, Try.ntmps4
    go_wp2_with (first
      | (go_at_call 9; refine HLI.out.mono ?_; rintro e W1 ⟨rfl, hb1⟩; have HB1 := Aside0.mk hb1; clear hb1)
      | (go_at_call 10; refine (lives_calls _).mono ?_; rintro e W2 ⟨rfl, hb2⟩; have HB2 := Aside0.mk (below_then HB1.out HB1.out.size hb2); clear hb2)
      | fail)
    go_ret
    exact ⟨rfl, HB2.out⟩
  | true =>
    go_enter Try.func4, Try.ntmps4
    go_upto_region 6 with (first
      | (go_at_call 9; refine HLI.out.mono ?_; rintro e W1 ⟨rfl, hb1⟩; have HB1 := Aside0.mk hb1; clear hb1)
      | (go_at_call 11; refine (HT.out _ HB1.out).mono ?_; rintro e W2 ⟨v, u, rfl, hd, hr, hb2⟩; have HD := Aside0.mk hd; have HR := Aside0.mk hr; have HB2 := Aside0.mk (below_then HB1.out HB1.out.size hb2); clear hd hr hb2)
      | (go_at_call 16; refine (up_calls v f next id _ HD.out HG.out).mono ?_; rintro e W3 ⟨o, rfl, hR, hb3⟩; have HO := Aside0.mk (RdI.of_R hR); have HB23 := Aside0.mk hb3; have HB3 := Aside0.mk (below_then HB2.out HB2.out.size hb3); clear hb3 hR)
      | fail)
    obtain ⟨L, hL⟩ : ∃ L, L = upR f id := ⟨_, rfl⟩
    rw [← hL] at HO
    obtain ⟨Au, cu, rfl, hcu, hCu⟩ := HO.out
    have HCU := Aside0.mk hCu
    have HLL : Aside0 (L = upR f id ∧ L.length ≤ 512) := ⟨hL, by rw [hL, up_len]; have := ch_le HG.out id; omega⟩
    clear hL hcu hCu
    go_wp2_with fail
    go_loopg [8, 30] (L.length + 1) (fun kq v8 v30 w' => ∃ (at_ : Int) (i : Nat) (dn : List Int), v8 = .int .i64 at_ ∧ v30 = .int .i64 i ∧ Aside0 (i + kq = L.length + 1) ∧ Aside0 (dn.length = i) ∧ Aside0 (L = dn ++ upR f at_) ∧ Aside0 ((look f at_).isSome = (look f id).isSome) ∧ Aside0 (Below W3.heap.size W3 w'))
    case atStart => exact ⟨id, 0, [], rfl, rfl, ⟨by omega⟩, ⟨rfl⟩, ⟨by rw [HLL.out.1]; rfl⟩, ⟨rfl⟩, ⟨Below.refl _ _⟩⟩
    case round =>
      obtain ⟨k, i, dn, rfl, rfl, HK, HDN, HE, HIS, HBW⟩ := hrel
      cases gk with
      | zero => exact absurd HK.out (by have := congrArg List.length HE.out; have := HDN.out; simp at *; omega)
      | succ g0 =>
        by_cases c0 : i < L.length
        · have hne : upR f k ≠ [] := fun h => by have h2 := congrArg List.length HE.out; rw [h] at h2; have := HDN.out; simp at h2; omega
          obtain ⟨x, hx, hx2, hup, hsx⟩ := up_some HG.out hne
          obtain ⟨ad, cc, rfl, hcl, hK2, hcell⟩ := Kd.C_get (Kd.C_below HCU.out HBW.out) (0 : Int) (i : Int) (by omega) (by omega)
          have hk0 : cc = [.int .i64 (L.getD i 0)] := hK2
          have hq := hcell 0 _ (by rw [hk0]; rfl)
          have hLi : L.getD i 0 = x.f2 := by rw [HE.out, hup, ← HDN.out]; simp
          rw [hLi, Int.toNat_natCast, show i * (Kd.int .i64).sz + 0 = i by show i * 1 + 0 = _; omega] at hq
          have HX := Aside0.mk (And.intro hx (And.intro hup hsx))
          have HCM : Aside0 (cmpR f x.f2 id = -1) := ⟨cmp_up HG.out (by rw [← HLL.out.1, HE.out, hup]; simp)⟩
          have HBW2 := Aside0.mk (below_then HB23.out HB23.out.size HBW.out)
          have c1 : decide (i < L.length) = true := decide_eq_true c0
          have z0 : (0 ≤ (i : Int)) = True := eq_true (by omega)
          have z1 : ((i : Int) < (L.length : Int)) = True := eq_true (by omega)
          have HI0 := Aside0.mk c0
          clear hne hcl hK2 hcell hk0 hLi hx hx2 hup hsx c0
          go_wp2_with (first
            | (go_at_call 20; refine (copy_calls v f next k W2 _ HD.out HBW2.out (HG.out.sizes k).1 (HG.out.sizes k).2).mono ?_; rintro e W4 ⟨cs, rfl, hM, hb4⟩; rw [HX.out.1] at hM ⊢; obtain ⟨A3, c3, A4, c4, rfl⟩ := k40_cellsM (x := x) hM; have HB4 := Aside0.mk (below_alloc hb4 (.cells #[.int .i64 x.f0, .string x.f1, .int .i64 x.f2, .slice A3 x.f3.length c3, .slice A4 x.f4.length c4] 40)); clear hM hb4)
            | (go_at_call 21; refine (wcmp_calls v f next x.f2 id _ (HD.out.below (below_then HBW2.out HBW2.out.size HB4.out)) HG.out).mono ?_; rintro e W5 ⟨rfl, hb5⟩; rw [HCM.out]; have HB5 := Aside0.mk (below_then HBW.out HBW.out.size (below_then HB4.out HB4.out.size hb5)); clear hb5)
            | fail)
          go_roundg g0
          case measure => have := HK.out; omega
          case rel => exact ⟨x.f2, i + 1, dn ++ [x.f2], rfl, (by have := HI0.out; have := HLL.out.2; congr 1; unfold wrap64; omega), ⟨by have := HK.out; omega⟩, ⟨by have := HDN.out; simp; omega⟩, ⟨by rw [HE.out, HX.out.2.1]; simp⟩, ⟨by rw [← HIS.out, HX.out.1, HX.out.2.2]; rfl⟩, HB5⟩
        · have c1 : decide (i < L.length) = false := decide_eq_false c0
          have hup : upR f k = [] := by
            have h2 := congrArg List.length HE.out
            have := HDN.out
            simp at h2
            exact List.eq_nil_of_length_eq_zero (by omega)
          have hLd : L.length = (upR f id).length := by rw [← HLL.out.1]
          have HBW2 := Aside0.mk (below_then HB23.out HB23.out.size HBW.out)
          cases hl : look f id with
          | none =>
            have hk1 : (k == 1) = false := by
              have h3 := HIS.out
              rw [hl] at h3
              obtain ⟨r, hr, _⟩ := HG.out.root
              have : k ≠ 1 := fun e => by rw [e, hr] at h3; cases h3
              simpa using this
            have hL0 : L.length = 0 := by rw [hLd, up_none hl]; rfl
            have HL := Aside0.mk hl
            have HCH : Aside0 (((ch f id).length : Int) = 0) := ⟨by rw [ch_none id hl]; rfl⟩
            obtain rfl := List.eq_nil_of_length_eq_zero hL0
            clear hl hup hLd c0 hL0
            go_wp2_with (first
              | (go_at_call 20; refine (copy_calls v f next id W2 _ HD.out HBW2.out (HG.out.sizes id).1 (HG.out.sizes id).2).mono ?_; rintro e W4 ⟨cs, rfl, hM, hb4⟩; rw [HL.out] at hM ⊢; obtain ⟨A3, c3, A4, c4, rfl⟩ := k40_cellsM (x := z40) hM; have HB4 := Aside0.mk (below_then HBW2.out HBW2.out.size (below_alloc hb4 (.cells #[.int .i64 z40.f0, .string z40.f1, .int .i64 z40.f2, .slice A3 z40.f3.length c3, .slice A4 z40.f4.length c4] 40))); clear hM hb4)
              | (go_at_call 18; refine (wdepth_calls v f next id _ (HD.out.below HB4.out) HG.out).mono ?_; rintro e W5 ⟨rfl, hb5⟩; rw [HCH.out]; have HB5 := Aside0.mk (below_then HB4.out HB4.out.size hb5); clear hb5)
              | (go_at_call 10; refine (lives_calls _).mono ?_; rintro e WL ⟨rfl, hbl⟩; have HBL := Aside0.mk (below_then HB5.out HB5.out.size hbl); clear hbl)
              | fail)
            go_ret
            exact ⟨rfl, below_then HB2.out HB2.out.size HBL.out⟩
          | some y =>
            obtain rfl : k = 1 := by
              have h3 := HIS.out
              rw [hl] at h3
              cases hk : look f k with
              | none => rw [hk] at h3; cases h3
              | some z => exact up_root HG.out hk hup
            have HL := Aside0.mk hl
            obtain ⟨n, hn⟩ : ∃ n : Int, n = ((ch f id).length : Int) := ⟨_, rfl⟩
            have HCH : Aside0 (((ch f id).length : Int) = n) := ⟨hn.symm⟩
            have d0 : (wrap64 ((L.length : Int) + 1) == n) = true := by rw [hn, hLd, up_len]; have := ch_pos HG.out hl; have := ch_le HG.out id; simp; unfold wrap64; omega
            clear hl hup hLd c0 hn
            go_wp2_with (first
              | (go_at_call 20; refine (copy_calls v f next id W2 _ HD.out HBW2.out (HG.out.sizes id).1 (HG.out.sizes id).2).mono ?_; rintro e W4 ⟨cs, rfl, hM, hb4⟩; rw [HL.out] at hM ⊢; obtain ⟨A3, c3, A4, c4, rfl⟩ := k40_cellsM (x := y) hM; have HB4 := Aside0.mk (below_then HBW2.out HBW2.out.size (below_alloc hb4 (.cells #[.int .i64 y.f0, .string y.f1, .int .i64 y.f2, .slice A3 y.f3.length c3, .slice A4 y.f4.length c4] 40))); clear hM hb4)
              | (go_at_call 18; refine (wdepth_calls v f next id _ (HD.out.below HB4.out) HG.out).mono ?_; rintro e W5 ⟨rfl, hb5⟩; rw [HCH.out]; have HB5 := Aside0.mk (below_then HB4.out HB4.out.size hb5); clear hb5)
              | (go_at_call 10; refine (lives_calls _).mono ?_; rintro e WL ⟨rfl, hbl⟩; have HBL := Aside0.mk (below_then HB5.out HB5.out.size hbl); clear hbl)
              | fail)
            go_ret
            exact ⟨rfl, below_then HB2.out HB2.out.size HBL.out⟩
theorem lawWalkUps.calls (k : Unit) (A : Option Addr) (c : Nat) (l : List S52) (id : Int) (r : Bool) (w : World) (hC : Kd.C k52 w A l.length l) (hc : l.length ≤ c) (h : ∀ p, p ∈ l → p.f4.size ≤ 140737488351232 ∧ p.f5.size ≤ 140737488351232) :
    Calls Try.prog 4 #[.slice A l.length c, .int .i64 id] w fun e w' => e = .returned (.bool true) ∧ Below w.heap.size w w' :=
  ups_calls l A c id w hC hc (fun p hp => by have := h p hp; omega)
end Go.Proofs.Ytpnlbmeeihbjaaa.P
end
section
set_option linter.unusedVariables false
set_option linter.unusedSimpArgs false
namespace Go.Proofs.Ytpnlbmeeihbjaaa.P
open Go.RowKit Go.Proofs.YtpnlbmeeihbjaaaW.PrintWords Go.Proofs.YtpnlbmeeihbjaaaW.PrintLast Go.Proofs.YtpnlbmeeihbjaaaW.PrintMore
attribute [local go_sem] max2_int min2_int max_two min_two max_three min_three max_four min_four
set_option linter.unusedVariables false
set_option linter.unusedSimpArgs false
theorem rnodeD_calls (v : Value) (f : Nat → Option S40) (next n : Int) (w : World) (h : RD w v f next) (hg : Good f next) : Calls Try.prog 38 #[v, .int .i64 n] w (CopyPost w (look f n)) := rnode_calls v f next n w h hg
set_option maxHeartbeats 8000000 in
set_option maxRecDepth 100000 in
theorem rkids_calls (v : Value) (f : Nat → Option S40) (next id : Int) (w : World) (h : RD w v f next) (hg : Good f next) :
    Calls Try.prog 46 #[v, .int .i64 id] w fun e w' => ∃ u, e = .returned u ∧ RdI w' u (rowR f id) ∧ Below w.heap.size w w' := by
  have HD := Aside0.mk h
  have HG := Aside0.mk hg
  have HB0 := Aside0.mk (Below.refl w.heap.size w)
  have hu40 := Try.underlying40
  have hu29 := Try.underlying29
  cases hl : look f id with
  | none =>
    have HL := Aside0.mk hl
    rw [rowR_none hl]
    clear h hg hl
    go_enter Try.func46, Try.ntmps46
    go_wp2_with (first
      | (go_at_call 38; (with_reducible refine (rnodeD_calls v f next id _ (HD.out.below HB0.out) HG.out).mono ?_); rintro e W2 ⟨cs, rfl, hM, hb2⟩; rw [HL.out] at hM ⊢; obtain ⟨A2, c2, B2, d2, rfl⟩ := k40_cellsM (x := z40) hM; have HB2 := Aside0.mk (below_alloc (below_then HB0.out HB0.out.size hb2) (.cells #[.int .i64 z40.f0, .string z40.f1, .int .i64 z40.f2, .slice A2 z40.f3.length c2, .slice B2 z40.f4.length d2] 40)); clear hM hb2)
      | fail)
    go_ret
    exact ⟨_, rfl, ⟨none, 0, rfl, Nat.le_refl _, Kd.C_nil _ _⟩, HB2.out⟩
  | some x =>
    have HL := Aside0.mk hl
    by_cases c : x.f2 = 0
    · have hr : rowR f id = [id] := by unfold rowR; rw [hl]; simp only [c, hg.zero]
      have d0 : (x.f2 == 0) = true := by simp [c]
      rw [hr]
      clear h hg hl hr c
      go_enter Try.func46, Try.ntmps46
      go_wp2_with (first
        | (go_at_call 38; (with_reducible refine (rnodeD_calls v f next id _ (HD.out.below HB0.out) HG.out).mono ?_); rintro e W2 ⟨cs, rfl, hM, hb2⟩; rw [HL.out] at hM ⊢; obtain ⟨A2, c2, B2, d2, rfl⟩ := k40_cellsM (x := x) hM; have HB2 := Aside0.mk (below_alloc (below_then HB0.out HB0.out.size hb2) (.cells #[.int .i64 x.f0, .string x.f1, .int .i64 x.f2, .slice A2 x.f3.length c2, .slice B2 x.f4.length d2] 40)); clear hM hb2)
        | fail)
      go_ret
      have hq := blk_new (W2.alloc (.cells #[.int .i64 x.f0, .string x.f1, .int .i64 x.f2, .slice A2 x.f3.length c2, .slice B2 x.f4.length d2] 40)) (.cells #[.int .i64 id] 3)
      rw [World.size_alloc] at hq
      exact ⟨.slice (some ⟨W2.heap.size + 1, 0, none⟩) 1 1, rfl, RdI.of_R (own_laid (xs := [id]) (n := 1) (cap := 1) (base := 0) (Nat.zero_le _) hq rfl (Nat.le_refl _) (show 1 ≤ maxLen by decide) rfl rfl (fun _ => True) trivial), below_alloc HB2.out _⟩
    · obtain ⟨p, hp⟩ : ∃ p, look f x.f2 = some p := by
        have hk1 : id ≠ 1 := fun h1 => by
          subst h1
          obtain ⟨r, hr, hr0⟩ := hg.root
          rw [hl] at hr
          obtain rfl := Option.some.inj hr
          exact c hr0
        obtain ⟨p, hp, _⟩ := hg.par id x hl hk1
        exact ⟨p, hp⟩
      have HP := Aside0.mk hp
      have hr : rowR f id = p.f3 := by unfold rowR; rw [hl]; simp only [hp]
      have d0 : (x.f2 == 0) = false := by simp [c]
      rw [hr]
      clear h hg hl hp hr c
      go_enter Try.func46, Try.ntmps46
      go_wp2_with (first
        | (go_at_call 38; (with_reducible refine (rnodeD_calls v f next id _ (HD.out.below HB0.out) HG.out).mono ?_); rintro e W2 ⟨cs, rfl, hM, hb2⟩; rw [HL.out] at hM ⊢; obtain ⟨A2, c2, B2, d2, rfl⟩ := k40_cellsM (x := x) hM; have HB2 := Aside0.mk (below_alloc (below_then HB0.out HB0.out.size hb2) (.cells #[.int .i64 x.f0, .string x.f1, .int .i64 x.f2, .slice A2 x.f3.length c2, .slice B2 x.f4.length d2] 40)); clear hM hb2)
        | (go_at_call 38; refine (rnodeD_calls v f next x.f2 _ (HD.out.below HB2.out) HG.out).mono ?_; rintro e W3 ⟨cs, rfl, hM, hb3⟩; rw [HP.out] at hM ⊢; obtain ⟨v3, vv4, hcs, hR3, hR4⟩ := k40_openM hM; obtain ⟨cs⟩ := cs; simp only at hcs; obtain ⟨A3, c3, rfl, hd3, hC3⟩ := Kd.R_reads hR3; obtain ⟨B3, d3, rfl, _, _⟩ := Kd.R_reads hR4; subst hcs; have HC3 := Aside0.mk (show RdI W3 (.slice A3 p.f3.length c3) p.f3 from ⟨A3, c3, rfl, hd3, hC3⟩); have HB3 := Aside0.mk (below_alloc (below_then HB2.out HB2.out.size hb3) (.cells #[.int .i64 p.f0, .string p.f1, .int .i64 p.f2, .slice A3 p.f3.length c3, .slice B3 p.f4.length d3] 40)); clear hM hb3 hR3 hR4 hC3 hd3)
        | fail)
      go_ret
      exact ⟨_, rfl, HC3.out.below (below_alloc (Below.refl _ W3) _), HB3.out⟩
set_option maxHeartbeats 8000000 in
set_option maxRecDepth 100000 in
theorem rplace_calls (v : Value) (f : Nat → Option S40) (next id : Int) (w : World) (h : RD w v f next) (hg : Good f next) :
    Calls Try.prog 24 #[v, .int .i64 id] w fun e w' => e = .returned (.tuple #[.int .i64 (plc1 f id), .int .i64 (plc2 f id)]) ∧ Below w.heap.size w w' := by
  have HC := Aside0.mk (rkids_calls v f next id w h hg)
  have HLN := Aside0.mk (rowR_len hg id)
  have hln := HLN.out
  have hlt := idxI_lt (rowR f id) id
  unfold plc1 plc2
  obtain ⟨l, hl⟩ : ∃ l, l = rowR f id := ⟨_, rfl⟩
  rw [← hl] at HC HLN hln hlt ⊢
  obtain ⟨i, hi⟩ : ∃ i, i = idxI l id := ⟨_, rfl⟩
  have HI := Aside0.mk hi.symm
  rw [← hi] at hlt ⊢
  clear hl hi hg h
  by_cases c : i < 0
  · rw [if_pos c, if_pos c]
    have c1 : decide (i < 0) = true := decide_eq_true c
    clear c hln hlt
    go_enter Try.func24, Try.ntmps24
    go_wp2_with (first | (go_at_call 46; refine HC.out.mono ?_; rintro e W1 ⟨u, rfl, hR, hb⟩; have HB := Aside0.mk hb; have HR := Aside0.mk hR; obtain ⟨A, c, rfl, _, hC⟩ := hR; clear hb hC) | (go_at_call 47; refine (at_calls8 _ l id _ HR.out (by have := HLN.out; omega)).mono ?_; rintro e W2 ⟨rfl, hb⟩; rw [HI.out]; have HB12 := Aside0.mk hb; have HB2 := Aside0.mk (below_then HB.out HB.out.size hb); clear hb) | fail)
    go_ret2
    exact ⟨rfl, HB2.out⟩
  · rw [if_neg c, if_neg c]
    have c1 : decide (i < 0) = false := decide_eq_false c
    have e1 : wrap64 (i + 1) = i + 1 := by unfold wrap64; omega
    have e2 : wrap64 ((l.length : Int) - i) = (l.length : Int) - i := by unfold wrap64; omega
    have HE := Aside0.mk (And.intro e1 e2)
    clear c hln hlt e1 e2
    go_enter Try.func24, Try.ntmps24
    go_wp2_with (first | (go_at_call 46; refine HC.out.mono ?_; rintro e W1 ⟨u, rfl, hR, hb⟩; have HB := Aside0.mk hb; have HR := Aside0.mk hR; obtain ⟨A, c, rfl, _, hC⟩ := hR; clear hb hC) | (go_at_call 47; refine (at_calls8 _ l id _ HR.out (by have := HLN.out; omega)).mono ?_; rintro e W2 ⟨rfl, hb⟩; rw [HI.out]; have HB12 := Aside0.mk hb; have HB2 := Aside0.mk (below_then HB.out HB.out.size hb); clear hb) | fail)
    go_ret2
    refine ⟨?_, HB2.out⟩
    show Ending.returned (.tuple #[.int .i64 (wrap64 (i + 1)), .int .i64 (wrap64 ((l.length : Int) - i))]) = _
    rw [HE.out.1, HE.out.2]
set_option maxHeartbeats 8000000 in
set_option maxRecDepth 100000 in
theorem rbefore_calls (v : Value) (f : Nat → Option S40) (next id : Int) (w : World) (h : RD w v f next) (hg : Good f next) :
    Calls Try.prog 26 #[v, .int .i64 id] w fun e w' => e = .returned (.int .i64 (besR f id (-1))) ∧ Below w.heap.size w w' := by
  have HC := Aside0.mk (rkids_calls v f next id w h hg)
  have HLN := Aside0.mk (rowR_len hg id)
  have hln := HLN.out
  have hlt := idxI_lt (rowR f id) id
  unfold besR
  obtain ⟨l, hl⟩ : ∃ l, l = rowR f id := ⟨_, rfl⟩
  rw [← hl] at HC HLN hln hlt ⊢
  obtain ⟨i, hi⟩ : ∃ i, i = idxI l id := ⟨_, rfl⟩
  have HI := Aside0.mk hi.symm
  rw [← hi] at hlt ⊢
  clear hl hi hg h
  obtain ⟨k, hk⟩ : ∃ k, k = i + (-1) := ⟨_, rfl⟩
  have e0 : wrap64 (i - 1) = k := by rw [hk]; unfold wrap64; omega
  rw [← hk]
  by_cases c : 0 ≤ i ∧ 0 ≤ k ∧ k < l.length
  · rw [if_pos c]
    have HK := Aside0.mk c.2
    have c1 : decide (0 < i) = true := decide_eq_true (by omega)
    have z0 : (0 ≤ k) = True := eq_true c.2.1
    have z1 : (k < (l.length : Int)) = True := eq_true c.2.2
    obtain ⟨q, hq⟩ : ∃ q, q = l.getD k.toNat 0 := ⟨_, rfl⟩
    rw [← hq]
    have HQ := Aside0.mk hq
    clear c hln hlt hq hk
    go_enter Try.func26, Try.ntmps26
    go_wp2_with (first | (go_at_call 46; refine HC.out.mono ?_; rintro e W1 ⟨u, rfl, hR, hb⟩; have HB := Aside0.mk hb; have HR := Aside0.mk hR; obtain ⟨A, c, rfl, _, hC⟩ := hR; clear hb hC) | (go_at_call 47; refine (at_calls8 _ l id _ HR.out (by have := HLN.out; omega)).mono ?_; rintro e W2 ⟨rfl, hb⟩; rw [HI.out]; have HB12 := Aside0.mk hb; have HB2 := Aside0.mk (below_then HB.out HB.out.size hb); obtain ⟨A', c', e', _, hC⟩ := HR.out.below HB12.out; injection e' with e1' e2' e3'; subst e1' e3'; obtain ⟨ad, cc, rfl, hcl, hK2, hcell⟩ := Kd.C_get hC (0 : Int) k HK.out.1 HK.out.2; have hk0 : cc = [.int .i64 (l.getD k.toNat 0)] := hK2; have hc0 := hcell 0 _ (by rw [hk0]; rfl); rw [show k.toNat * (Kd.int .i64).sz + 0 = k.toNat by show k.toNat * 1 + 0 = _; omega, ← HQ.out] at hc0; clear hb hC hcl hK2 hcell hk0) | fail)
    go_ret
    exact ⟨rfl, HB2.out⟩
  · rw [if_neg c]
    have c1 : decide (0 < i) = false := decide_eq_false (by omega)
    clear c hln hlt hk
    go_enter Try.func26, Try.ntmps26
    go_wp2_with (first | (go_at_call 46; refine HC.out.mono ?_; rintro e W1 ⟨u, rfl, hR, hb⟩; have HB := Aside0.mk hb; have HR := Aside0.mk hR; obtain ⟨A, c, rfl, _, hC⟩ := hR; clear hb hC) | (go_at_call 47; refine (at_calls8 _ l id _ HR.out (by have := HLN.out; omega)).mono ?_; rintro e W2 ⟨rfl, hb⟩; rw [HI.out]; have HB12 := Aside0.mk hb; have HB2 := Aside0.mk (below_then HB.out HB.out.size hb); clear hb) | fail)
    go_ret
    exact ⟨rfl, HB2.out⟩
set_option maxHeartbeats 8000000 in
set_option maxRecDepth 100000 in
theorem rafter_calls (v : Value) (f : Nat → Option S40) (next id : Int) (w : World) (h : RD w v f next) (hg : Good f next) :
    Calls Try.prog 27 #[v, .int .i64 id] w fun e w' => e = .returned (.int .i64 (besR f id (1))) ∧ Below w.heap.size w w' := by
  have HC := Aside0.mk (rkids_calls v f next id w h hg)
  have HLN := Aside0.mk (rowR_len hg id)
  have hln := HLN.out
  have hlt := idxI_lt (rowR f id) id
  unfold besR
  obtain ⟨l, hl⟩ : ∃ l, l = rowR f id := ⟨_, rfl⟩
  rw [← hl] at HC HLN hln hlt ⊢
  obtain ⟨i, hi⟩ : ∃ i, i = idxI l id := ⟨_, rfl⟩
  have HI := Aside0.mk hi.symm
  rw [← hi] at hlt ⊢
  clear hl hi hg h
  obtain ⟨k, hk⟩ : ∃ k, k = i + (1) := ⟨_, rfl⟩
  have e0 : wrap64 (i + 1) = k := by rw [hk]; unfold wrap64; omega
  rw [← hk]
  by_cases c : 0 ≤ i ∧ 0 ≤ k ∧ k < l.length
  · rw [if_pos c]
    have HK := Aside0.mk c.2
    have c1 : decide (0 ≤ i) = true := decide_eq_true c.1
    have c3 : decide (k < (l.length : Int)) = true := decide_eq_true c.2.2
    have z0 : (0 ≤ k) = True := eq_true c.2.1
    have z1 : (k < (l.length : Int)) = True := eq_true c.2.2
    obtain ⟨q, hq⟩ : ∃ q, q = l.getD k.toNat 0 := ⟨_, rfl⟩
    rw [← hq]
    have HQ := Aside0.mk hq
    clear c hln hlt hq hk
    go_enter Try.func27, Try.ntmps27
    go_wp2_with (first | (go_at_call 46; refine HC.out.mono ?_; rintro e W1 ⟨u, rfl, hR, hb⟩; have HB := Aside0.mk hb; have HR := Aside0.mk hR; obtain ⟨A, c, rfl, _, hC⟩ := hR; clear hb hC) | (go_at_call 47; refine (at_calls8 _ l id _ HR.out (by have := HLN.out; omega)).mono ?_; rintro e W2 ⟨rfl, hb⟩; rw [HI.out]; have HB12 := Aside0.mk hb; have HB2 := Aside0.mk (below_then HB.out HB.out.size hb); obtain ⟨A', c', e', _, hC⟩ := HR.out.below HB12.out; injection e' with e1' e2' e3'; subst e1' e3'; obtain ⟨ad, cc, rfl, hcl, hK2, hcell⟩ := Kd.C_get hC (0 : Int) k HK.out.1 HK.out.2; have hk0 : cc = [.int .i64 (l.getD k.toNat 0)] := hK2; have hc0 := hcell 0 _ (by rw [hk0]; rfl); rw [show k.toNat * (Kd.int .i64).sz + 0 = k.toNat by show k.toNat * 1 + 0 = _; omega, ← HQ.out] at hc0; clear hb hC hcl hK2 hcell hk0) | fail)
    go_ret
    exact ⟨rfl, HB2.out⟩
  · rw [if_neg c]
    by_cases c1 : 0 ≤ i
    · have d3 : decide (k < (l.length : Int)) = false := decide_eq_false (fun h3 => c ⟨c1, by omega, h3⟩)
      have d1 : decide (0 ≤ i) = true := decide_eq_true c1
      clear c1
      clear c hln hlt hk
      go_enter Try.func27, Try.ntmps27
      go_wp2_with (first | (go_at_call 46; refine HC.out.mono ?_; rintro e W1 ⟨u, rfl, hR, hb⟩; have HB := Aside0.mk hb; have HR := Aside0.mk hR; obtain ⟨A, c, rfl, _, hC⟩ := hR; clear hb hC) | (go_at_call 47; refine (at_calls8 _ l id _ HR.out (by have := HLN.out; omega)).mono ?_; rintro e W2 ⟨rfl, hb⟩; rw [HI.out]; have HB12 := Aside0.mk hb; have HB2 := Aside0.mk (below_then HB.out HB.out.size hb); clear hb) | fail)
      go_ret
      exact ⟨rfl, HB2.out⟩
    · have d1 : decide (0 ≤ i) = false := decide_eq_false c1
      clear c1
      clear c hln hlt hk
      go_enter Try.func27, Try.ntmps27
      go_wp2_with (first | (go_at_call 46; refine HC.out.mono ?_; rintro e W1 ⟨u, rfl, hR, hb⟩; have HB := Aside0.mk hb; have HR := Aside0.mk hR; obtain ⟨A, c, rfl, _, hC⟩ := hR; clear hb hC) | (go_at_call 47; refine (at_calls8 _ l id _ HR.out (by have := HLN.out; omega)).mono ?_; rintro e W2 ⟨rfl, hb⟩; rw [HI.out]; have HB12 := Aside0.mk hb; have HB2 := Aside0.mk (below_then HB.out HB.out.size hb); clear hb) | fail)
      go_ret
      exact ⟨rfl, HB2.out⟩
end Go.Proofs.Ytpnlbmeeihbjaaa.P
end
section
set_option linter.unusedVariables false
set_option linter.unusedSimpArgs false
namespace Go.Proofs.Ytpnlbmeeihbjaaa.P
open Go.RowKit Go.Proofs.YtpnlbmeeihbjaaaW.PrintWords Go.Proofs.YtpnlbmeeihbjaaaW.PrintLast Go.Proofs.YtpnlbmeeihbjaaaW.PrintMore
attribute [local go_sem] max2_int min2_int max_two min_two max_three min_three max_four min_four
set_option linter.unusedVariables false
set_option linter.unusedSimpArgs false
def upto (f : Nat → Option S40) (id : Int) (l : List Int) (i : Nat) : List Int := id :: (l.take i).flatMap (pre f)
section
variable {f : Nat → Option S40} {next : Int}
theorem upto_succ (id : Int) (l : List Int) (i : Nat) (h : i < l.length) : upto f id l (i + 1) = upto f id l i ++ pre f (l.getD i 0) := by
  unfold upto
  rw [List.take_succ_eq_append_getElem h, List.flatMap_append]
  simp [List.getD_eq_getElem?_getD, h]
theorem upto_all (hg : Good f next) {id : Int} {x : S40} (hx : look f id = some x) : upto f id x.f3 x.f3.length = pre f id := by
  unfold upto
  rw [List.take_length, pre_step hg hx]
theorem upto_len (hg : Good f next) {id : Int} {x : S40} (hx : look f id = some x) (i : Nat) (h : i < x.f3.length) : (upto f id x.f3 i).length + (pre f (x.f3.getD i 0)).length ≤ 1048576 := by
  have h1 := pre_len hg id
  rw [← upto_all hg hx] at h1
  have h2 : (upto f id x.f3 (i + 1)).length ≤ (upto f id x.f3 x.f3.length).length := by
    unfold upto
    have e : x.f3.flatMap (pre f) = (x.f3.take (i + 1)).flatMap (pre f) ++ (x.f3.drop (i + 1)).flatMap (pre f) := by rw [← List.flatMap_append, List.take_append_drop]
    rw [List.take_length, e]
    simp only [List.length_cons, List.length_append]
    omega
  rw [upto_succ id x.f3 i h, List.length_append] at h2
  omega
end
set_option maxHeartbeats 16000000 in
set_option maxRecDepth 100000 in
theorem runder_calls (v : Value) (f : Nat → Option S40) (next : Int) (hg : Good f next) : ∀ (m : Nat) (id : Int) (w : World), 513 ≤ m + (ch f id).length → RD w v f next →
    Calls Try.prog 12 #[v, .int .i64 id] w fun e w' => ∃ u, e = .returned u ∧ Kd.R (Kd.int .i64) 3 w' w.heap.size (fun _ => True) u (pre f id) ∧ Below w.heap.size w w'
  | 0, id, w, hm, h => absurd (ch_le hg id) (by omega)
  | m + 1, id, w, hm, h => by
    have HD := Aside0.mk h
    have HG := Aside0.mk hg
    have HB0 := Aside0.mk (Below.refl w.heap.size w)
    have hu40 := Try.underlying40
    have hu29 := Try.underlying29
    cases hl : look f id with
    | none =>
      have HL := Aside0.mk hl
      rw [pre_none hl]
      clear h hg hl hm
      go_enter Try.func12, Try.ntmps12
      go_wp2_with (first
        | (go_at_call 38; (with_reducible refine (rnodeD_calls v f next id _ (HD.out.below HB0.out) HG.out).mono ?_); rintro e W2 ⟨cs, rfl, hM, hb2⟩; rw [HL.out] at hM ⊢; obtain ⟨A2, c2, B2, d2, rfl⟩ := k40_cellsM (x := z40) hM; have HB2 := Aside0.mk (below_alloc (below_then HB0.out HB0.out.size hb2) (.cells #[.int .i64 z40.f0, .string z40.f1, .int .i64 z40.f2, .slice A2 z40.f3.length c2, .slice B2 z40.f4.length d2] 40)); clear hM hb2)
        | fail)
      go_ret
      exact ⟨_, rfl, Kd.R_nil _ _ _ _ _, HB2.out⟩
    | some x =>
      have HL := Aside0.mk hl
      have HX : Aside0 (x.f3.length ≤ 1048576) := ⟨hg.kids_le hl⟩
      have HREC : Aside0 (∀ c ∈ x.f3, ∀ W, RD W v f next → Calls Try.prog 12 #[v, .int .i64 c] W fun e w' => ∃ u, e = .returned u ∧ Kd.R (Kd.int .i64) 3 w' W.heap.size (fun _ => True) u (pre f c) ∧ Below W.heap.size W w') := ⟨fun c hc W hW => runder_calls v f next hg m c W (by rw [kid_len hg hl hc]; omega) hW⟩
      clear h hg hl hm
      go_enter Try.func12, Try.ntmps12
      go_upto_region 4 with (first
        | (go_at_call 38; (with_reducible refine (rnodeD_calls v f next id _ (HD.out.below HB0.out) HG.out).mono ?_); rintro e W2 ⟨cs, rfl, hM, hb2⟩; rw [HL.out] at hM ⊢; obtain ⟨v3, vv4, hcs, hR3, hR4⟩ := k40_openM hM; obtain ⟨cs⟩ := cs; simp only at hcs; obtain ⟨A2, c2, rfl, hd3, hC3⟩ := Kd.R_reads hR3; obtain ⟨B2, d2, rfl, _, _⟩ := Kd.R_reads hR4; subst hcs; have HC2 := Aside0.mk (show RdI W2 (.slice A2 x.f3.length c2) x.f3 from ⟨A2, c2, rfl, hd3, hC3⟩); have HB2 := Aside0.mk hb2; clear hM hb2 hR3 hR4 hC3 hd3)
        | fail)
      have hn4 := blk_new W2 (.cells #[.int .i64 x.f0, .string x.f1, .int .i64 x.f2, .slice A2 x.f3.length c2, .slice B2 x.f4.length d2] 40)
      have HB4 : Aside0 (Below w.heap.size w (W2.alloc (.cells #[.int .i64 x.f0, .string x.f1, .int .i64 x.f2, .slice A2 x.f3.length c2, .slice B2 x.f4.length d2] 40))) := ⟨below_alloc HB2.out _⟩
      have HC4 : Aside0 (RdI (W2.alloc (.cells #[.int .i64 x.f0, .string x.f1, .int .i64 x.f2, .slice A2 x.f3.length c2, .slice B2 x.f4.length d2] 40)) (.slice A2 x.f3.length c2) x.f3) := ⟨HC2.out.below (below_alloc (Below.refl _ _) _)⟩
      generalize W2.alloc (.cells #[.int .i64 x.f0, .string x.f1, .int .i64 x.f2, .slice A2 x.f3.length c2, .slice B2 x.f4.length d2] 40) = W4 at hn4 HB4 HC4 ⊢
      obtain ⟨g, hgd⟩ : ∃ g, g = W2.heap.size := ⟨_, rfl⟩
      rw [← hgd] at hn4 ⊢
      have HN4 := Aside0.mk hn4
      clear hn4 hgd
      go_upto_region 5 with (first | fail)
      have hl5 := blk_new W4 (.cells #[.int .i64 id] 3)
      have HR5 : Aside0 (Kd.R (Kd.int .i64) 3 (W4.alloc (.cells #[.int .i64 id] 3)) W4.heap.size (fun _ => True) (.slice (some ⟨W4.heap.size, 0, none⟩) 1 1) [id]) := ⟨own_laid (xs := [id]) (n := 1) (cap := 1) (base := W4.heap.size) (Nat.le_refl _) hl5 rfl (Nat.le_refl _) (show 1 ≤ maxLen by decide) rfl rfl (fun _ => True) trivial⟩
      have HB5 : Aside0 (Below W4.heap.size W4 (W4.alloc (.cells #[.int .i64 id] 3))) := ⟨below_alloc (Below.refl _ _) _⟩
      generalize hS5 : (.slice (some ⟨W4.heap.size, 0, none⟩) 1 1 : Value) = s5 at HR5 ⊢
      generalize W4.alloc (.cells #[.int .i64 id] 3) = W5 at HR5 HB5 ⊢
      have r3 := (blk_cell (blk_below HN4.out HB5.out) 3).trans (show _ = some (.slice A2 x.f3.length c2) from rfl)
      clear hl5 hS5
      go_wp2_with fail
      clear r3
      go_loopg [7, 23] (x.f3.length + 1) (fun kq v7 v23 w' => ∃ (i : Nat), v23 = .int .i64 i ∧ Aside0 (i + kq = x.f3.length + 1) ∧ Aside0 (i ≤ x.f3.length) ∧ Aside0 (Kd.R (Kd.int .i64) 3 w' W4.heap.size (fun _ => True) v7 (upto f id x.f3 i)) ∧ Aside0 (Below W4.heap.size W4 w'))
      case atStart => exact ⟨0, rfl, ⟨by omega⟩, ⟨by omega⟩, HR5, HB5⟩
      case round =>
        obtain ⟨i, rfl, HK, HI, HR, HBW⟩ := hrel
        cases gk with
        | zero => exact absurd HK.out (by have := HI.out; omega)
        | succ g0 =>
          by_cases c0 : i < x.f3.length
          · obtain ⟨A2', c2', e1, hcl, hC⟩ := HC4.out.below HBW.out
            injection e1 with e1 e2 e3
            subst e1 e3
            obtain ⟨ad, cc, rfl, hcl2, hK2, hcell⟩ := Kd.C_get hC (0 : Int) (i : Int) (by omega) (by omega)
            have hk0 : cc = [.int .i64 (x.f3.getD i 0)] := hK2
            have hq := hcell 0 _ (by rw [hk0]; rfl)
            rw [Int.toNat_natCast, show i * (Kd.int .i64).sz + 0 = i by show i * 1 + 0 = _; omega] at hq
            obtain ⟨k, hk⟩ : ∃ k, k = x.f3.getD i 0 := ⟨_, rfl⟩
            rw [← hk] at hq
            have HKM : Aside0 (k ∈ x.f3) := ⟨by rw [hk]; simp [List.getD_eq_getElem?_getD, c0]⟩
            have HLEN := Aside0.mk (upto_len HG.out HL.out i c0)
            have HSU := Aside0.mk (upto_succ (f := f) id x.f3 i c0)
            rw [← hk] at HLEN HSU
            have HB4W := Aside0.mk (below_then HB4.out HB4.out.size HBW.out)
            have c1 : decide (i < x.f3.length) = true := decide_eq_true c0
            have z0 : (0 ≤ (i : Int)) = True := eq_true (by omega)
            have z1 : ((i : Int) < (x.f3.length : Int)) = True := eq_true (by omega)
            have HI0 := Aside0.mk c0
            clear hC hcl hcl2 hK2 hcell hk0 hk c0
            go_wp2_with (first
              | (go_at_call 12; refine (HREC.out k HKM.out _ (HD.out.below HB4W.out)).mono ?_; rintro e W6 ⟨u, rfl, hR6, hb6⟩; obtain ⟨B, d, rfl, hd, hC⟩ := Kd.R_reads hR6; have HC6 := Aside0.mk hC; have HR6 := Aside0.mk (Kd.R_below HR.out hb6); have HB6 := Aside0.mk (below_then HBW.out HBW.out.size hb6); clear hR6 hb6 hC hd)
              | ((with_reducible refine gate_builtin (b := .append) rfl ?_); at_builtin; refine Kd.R_append_row (w0 := W4) (Value.int .i64) (0 : Int) (h1 := fun _ => rfl) W4.heap.size rfl (.tmp 27) (.tmp 30) 29 3 (.int .i64 0) 8 rfl Try.underlying29 info3 rfl (by decide) _ (upto f id x.f3 i) (pre f k) B (pre f k).length d (fun _ => True) rfl rfl (fun _ _ => trivial) HR6.out HC6.out HB6.out HB6.out.size (by have := HLEN.out; omega) ?_; intro v7 W7 hR7 hb7 _ _; have HR7 := Aside0.mk (show Kd.R (Kd.int .i64) 3 W7 W4.heap.size (fun _ => True) v7 (upto f id x.f3 i ++ pre f k) from hR7); have HB7 := Aside0.mk hb7; clear hR7 hb7)
              | fail)
            go_roundg g0
            case measure => have := HK.out; omega
            case rel => exact ⟨i + 1, (by have := HI0.out; have := HX.out; congr 1; unfold wrap64; omega), ⟨by have := HK.out; omega⟩, ⟨HI0.out⟩, ⟨by rw [HSU.out]; exact HR7.out⟩, HB7⟩
          · obtain rfl : i = x.f3.length := by have := HI.out; omega
            have c1 : decide (x.f3.length < x.f3.length) = false := decide_eq_false (by omega)
            clear c0
            go_wp2_with fail
            go_ret
            exact ⟨_, rfl, by rw [← upto_all HG.out HL.out]; exact Kd.R_lower HR.out HB4.out.size, below_then HB4.out HB4.out.size HBW.out⟩
end Go.Proofs.Ytpnlbmeeihbjaaa.P
end
section
set_option linter.unusedVariables false
set_option linter.unusedSimpArgs false
namespace Go.Proofs.Ytpnlbmeeihbjaaa.P
open Go.RowKit Go.Proofs.YtpnlbmeeihbjaaaW.PrintWords Go.Proofs.YtpnlbmeeihbjaaaW.PrintLast Go.Proofs.YtpnlbmeeihbjaaaW.PrintMore
attribute [local go_sem] max2_int min2_int max_two min_two max_three min_three max_four min_four
set_option linter.unusedVariables false
set_option linter.unusedSimpArgs false
section
variable {f : Nat → Option S40} {next : Int}
theorem idx_look (hg : Good f next) (a : Int) : idxI (pre f 1) a < 0 ↔ look f a = none := by
  by_cases c : a ∈ pre f 1
  · rw [idxI_mem c]
    obtain ⟨x, hx⟩ := (pre_all hg a).1 c
    rw [hx]
    constructor
    · intro h; omega
    · intro h; cases h
  · rw [idxI_no c]
    refine ⟨fun _ => ?_, fun _ => by omega⟩
    cases e : look f a with
    | none => rfl
    | some x => exact absurd ((pre_all hg a).2 ⟨x, e⟩) c
theorem cmp_idx (hg : Good f next) (a b : Int) : cmpR f a b = if idxI (pre f 1) a < 0 ∨ idxI (pre f 1) b < 0 ∨ idxI (pre f 1) a = idxI (pre f 1) b then 0 else if idxI (pre f 1) a < idxI (pre f 1) b then -1 else 1 := by
  by_cases c : look f a = none ∨ look f b = none ∨ a = b
  · rw [cmp_no c]
    rw [if_pos]
    rcases c with h | h | h
    · exact .inl ((idx_look hg a).2 h)
    · exact .inr (.inl ((idx_look hg b).2 h))
    · exact .inr (.inr (by rw [h]))
  · rw [cmp_some c]
    obtain ⟨hne, ha, hb⟩ := cmp_ne hg c
    rw [idxI_mem ha, idxI_mem hb]
    have h0 : ¬ (((pre f 1).idxOf a : Int) < 0 ∨ ((pre f 1).idxOf b : Int) < 0 ∨ ((pre f 1).idxOf a : Int) = ((pre f 1).idxOf b : Int)) := by omega
    by_cases d : (pre f 1).idxOf a < (pre f 1).idxOf b
    · rw [if_pos d, if_neg h0, if_pos (by omega)]
    · rw [if_neg d, if_neg h0, if_neg (by omega)]
end
set_option maxHeartbeats 8000000 in
set_option maxRecDepth 100000 in
theorem rcmp_calls (v : Value) (f : Nat → Option S40) (next a b : Int) (w : World) (h : RD w v f next) (hg : Good f next) :
    Calls Try.prog 28 #[v, .int .i64 a, .int .i64 b] w fun e w' => e = .returned (.int .i64 (cmpR f a b)) ∧ Below w.heap.size w w' := by
  have HU := Aside0.mk (runder_calls v f next hg 513 1 w (by omega) h)
  have HLN := Aside0.mk (pre_len hg 1)
  rw [cmp_idx hg]
  have hia := idxI_lt (pre f 1) a
  have hib := idxI_lt (pre f 1) b
  obtain ⟨l, hl⟩ : ∃ l, l = pre f 1 := ⟨_, rfl⟩
  rw [← hl] at HU HLN hia hib ⊢
  obtain ⟨i, hi⟩ : ∃ i, i = idxI l a := ⟨_, rfl⟩
  have HI := Aside0.mk hi.symm
  obtain ⟨k, hk⟩ : ∃ k, k = idxI l b := ⟨_, rfl⟩
  have HK := Aside0.mk hk.symm
  rw [← hi, ← hk]
  rw [← hi] at hia
  rw [← hk] at hib
  clear hl hi hk hg h
  by_cases c1 : i < 0
  · rw [if_pos (.inl c1)]
    have d1 : decide (i < 0) = true := decide_eq_true c1
    clear c1
    clear hia hib
    go_enter Try.func28, Try.ntmps28
    go_wp2_with (first | (go_at_call 12; refine HU.out.mono ?_; rintro e W1 ⟨u, rfl, hR, hb⟩; have HB := Aside0.mk hb; have HR := Aside0.mk (RdI.of_R hR); obtain ⟨A, c, rfl, _, _⟩ := HR.out; clear hb hR) | (go_at_call 47; (with_reducible refine (at_calls8 _ l a _ HR.out (by have := HLN.out; omega)).mono ?_); rintro e W2 ⟨rfl, hb⟩; rw [HI.out]; have HB2 := Aside0.mk (below_then HB.out HB.out.size hb); have HR2 := Aside0.mk (HR.out.below hb); clear hb) | (go_at_call 47; refine (at_calls8 _ l b _ HR2.out (by have := HLN.out; omega)).mono ?_; rintro e W3 ⟨rfl, hb⟩; rw [HK.out]; have HB3 := Aside0.mk (below_then HB2.out HB2.out.size hb); clear hb) | fail)
    go_ret
    exact ⟨rfl, HB3.out⟩
  · have d1 : decide (i < 0) = false := decide_eq_false c1
    by_cases c2 : k < 0
    · rw [if_pos (.inr (.inl c2))]
      have d2 : decide (k < 0) = true := decide_eq_true c2
      clear c1 c2
      clear hia hib
      go_enter Try.func28, Try.ntmps28
      go_wp2_with (first | (go_at_call 12; refine HU.out.mono ?_; rintro e W1 ⟨u, rfl, hR, hb⟩; have HB := Aside0.mk hb; have HR := Aside0.mk (RdI.of_R hR); obtain ⟨A, c, rfl, _, _⟩ := HR.out; clear hb hR) | (go_at_call 47; (with_reducible refine (at_calls8 _ l a _ HR.out (by have := HLN.out; omega)).mono ?_); rintro e W2 ⟨rfl, hb⟩; rw [HI.out]; have HB2 := Aside0.mk (below_then HB.out HB.out.size hb); have HR2 := Aside0.mk (HR.out.below hb); clear hb) | (go_at_call 47; refine (at_calls8 _ l b _ HR2.out (by have := HLN.out; omega)).mono ?_; rintro e W3 ⟨rfl, hb⟩; rw [HK.out]; have HB3 := Aside0.mk (below_then HB2.out HB2.out.size hb); clear hb) | fail)
      go_ret
      exact ⟨rfl, HB3.out⟩
    · have d2 : decide (k < 0) = false := decide_eq_false c2
      by_cases c3 : i = k
      · rw [if_pos (.inr (.inr c3))]
        have d3 : (i == k) = true := by simp [c3]
        clear c1 c2 c3
        clear hia hib
        go_enter Try.func28, Try.ntmps28
        go_wp2_with (first | (go_at_call 12; refine HU.out.mono ?_; rintro e W1 ⟨u, rfl, hR, hb⟩; have HB := Aside0.mk hb; have HR := Aside0.mk (RdI.of_R hR); obtain ⟨A, c, rfl, _, _⟩ := HR.out; clear hb hR) | (go_at_call 47; (with_reducible refine (at_calls8 _ l a _ HR.out (by have := HLN.out; omega)).mono ?_); rintro e W2 ⟨rfl, hb⟩; rw [HI.out]; have HB2 := Aside0.mk (below_then HB.out HB.out.size hb); have HR2 := Aside0.mk (HR.out.below hb); clear hb) | (go_at_call 47; refine (at_calls8 _ l b _ HR2.out (by have := HLN.out; omega)).mono ?_; rintro e W3 ⟨rfl, hb⟩; rw [HK.out]; have HB3 := Aside0.mk (below_then HB2.out HB2.out.size hb); clear hb) | fail)
        go_ret
        exact ⟨rfl, HB3.out⟩
      · rw [if_neg (by omega)]
        have d3 : (i == k) = false := by simp [c3]
        by_cases c4 : i < k
        · rw [if_pos c4]
          have d4 : decide (i < k) = true := decide_eq_true c4
          clear c1 c2 c3 c4
          clear hia hib
          go_enter Try.func28, Try.ntmps28
          go_wp2_with (first | (go_at_call 12; refine HU.out.mono ?_; rintro e W1 ⟨u, rfl, hR, hb⟩; have HB := Aside0.mk hb; have HR := Aside0.mk (RdI.of_R hR); obtain ⟨A, c, rfl, _, _⟩ := HR.out; clear hb hR) | (go_at_call 47; (with_reducible refine (at_calls8 _ l a _ HR.out (by have := HLN.out; omega)).mono ?_); rintro e W2 ⟨rfl, hb⟩; rw [HI.out]; have HB2 := Aside0.mk (below_then HB.out HB.out.size hb); have HR2 := Aside0.mk (HR.out.below hb); clear hb) | (go_at_call 47; refine (at_calls8 _ l b _ HR2.out (by have := HLN.out; omega)).mono ?_; rintro e W3 ⟨rfl, hb⟩; rw [HK.out]; have HB3 := Aside0.mk (below_then HB2.out HB2.out.size hb); clear hb) | fail)
          go_ret
          exact ⟨rfl, HB3.out⟩
        · rw [if_neg c4]
          have d4 : decide (i < k) = false := decide_eq_false c4
          clear c1 c2 c3 c4
          clear hia hib
          go_enter Try.func28, Try.ntmps28
          go_wp2_with (first | (go_at_call 12; refine HU.out.mono ?_; rintro e W1 ⟨u, rfl, hR, hb⟩; have HB := Aside0.mk hb; have HR := Aside0.mk (RdI.of_R hR); obtain ⟨A, c, rfl, _, _⟩ := HR.out; clear hb hR) | (go_at_call 47; (with_reducible refine (at_calls8 _ l a _ HR.out (by have := HLN.out; omega)).mono ?_); rintro e W2 ⟨rfl, hb⟩; rw [HI.out]; have HB2 := Aside0.mk (below_then HB.out HB.out.size hb); have HR2 := Aside0.mk (HR.out.below hb); clear hb) | (go_at_call 47; refine (at_calls8 _ l b _ HR2.out (by have := HLN.out; omega)).mono ?_; rintro e W3 ⟨rfl, hb⟩; rw [HK.out]; have HB3 := Aside0.mk (below_then HB2.out HB2.out.size hb); clear hb) | fail)
          go_ret
          exact ⟨rfl, HB3.out⟩
end Go.Proofs.Ytpnlbmeeihbjaaa.P
end
section
set_option linter.unusedVariables false
set_option linter.unusedSimpArgs false
namespace Go.Proofs.Ytpnlbmeeihbjaaa.P
open Go.RowKit Go.Proofs.YtpnlbmeeihbjaaaW.PrintWords Go.Proofs.YtpnlbmeeihbjaaaW.PrintLast Go.Proofs.YtpnlbmeeihbjaaaW.PrintMore
attribute [local go_sem] max2_int min2_int max_two min_two max_three min_three max_four min_four
set_option linter.unusedVariables false
set_option linter.unusedSimpArgs false
set_option maxHeartbeats 32000000 in
set_option maxRecDepth 100000 in
theorem places_calls (l : List S52) (A : Option Addr) (c : Nat) (a b : Int) (w : World) (hC : Kd.C k52 w A l.length l) (hc : l.length ≤ c) (hs : ∀ p, p ∈ l → p.f4.size ≤ 140737488355328 ∧ p.f5.size ≤ 140737488355328) :
    Calls Try.prog 6 #[.slice A l.length c, .int .i64 a, .int .i64 b] w fun e w' => e = .returned (.bool true) ∧ Below w.heap.size w w' := by
  obtain ⟨b, hlight⟩ := light8 l A c w hC hc
  have HLI := Aside0.mk hlight
  have HT : Aside0 (∀ W, Below w.heap.size w W → Calls Try.prog 11 #[.slice A l.length c] W fun e w' => ∃ v u, e = .returned (.tuple #[v, u]) ∧ DocF w' v (runA tree0 l).1 (runA tree0 l).2 ∧ RD w' u (runA tree0 l).1 (runA tree0 l).2 ∧ Below W.heap.size W w') := ⟨fun W hW => tree_calls l A c W (Kd.C_below hC hW) hc hs⟩
  have HG := Aside0.mk (good_tree l)
  generalize (runA tree0 l).1 = f at HT HG
  generalize (runA tree0 l).2 = next at HT HG
  have hu40 := Try.underlying40
  have hu29 := Try.underlying29
  clear hlight hC hs hc
  cases b with
  | false =>
    go_enter Try.func6, Try.ntmps6
    go_wp2_with (first
      | (go_at_call 9; refine HLI.out.mono ?_; rintro e W1 ⟨rfl, hb1⟩; have HB1 := Aside0.mk hb1; clear hb1)
      | (go_at_call 10; refine (lives_calls _).mono ?_; rintro e W2 ⟨rfl, hb2⟩; have HB2 := Aside0.mk (below_then HB1.out HB1.out.size hb2); clear hb2)
      | fail)
    go_ret
    exact ⟨rfl, HB2.out⟩
  | true =>
    go_enter Try.func6, Try.ntmps6
    obtain ⟨p1, hp1⟩ : ∃ m, m = plc1 f a := ⟨_, rfl⟩
    obtain ⟨p2, hp2⟩ : ∃ m, m = plc2 f a := ⟨_, rfl⟩
    obtain ⟨b1, hb1⟩ : ∃ m, m = besR f a (-1) := ⟨_, rfl⟩
    obtain ⟨b2, hb2⟩ : ∃ m, m = besR f a 1 := ⟨_, rfl⟩
    obtain ⟨c, hc⟩ : ∃ m, m = cmpR f a b := ⟨_, rfl⟩
    have HP := Aside0.mk (And.intro hp1.symm (And.intro hp2.symm (And.intro hb1.symm (And.intro hb2.symm hc.symm))))
    clear hp1 hp2 hb1 hb2 hc
    have d1 : (p1 == p1) = true := by simp
    have d2 : (p2 == p2) = true := by simp
    have d3 : (b1 == b1) = true := by simp
    have d4 : (b2 == b2) = true := by simp
    have d5 : (c == c) = true := by simp
    go_wp2_with (first
      | (go_at_call 9; refine HLI.out.mono ?_; rintro e W1 ⟨rfl, hb1⟩; have HB1 := Aside0.mk hb1; clear hb1)
      | (go_at_call 11; refine (HT.out _ HB1.out).mono ?_; rintro e W2 ⟨v, u, rfl, hd, hr, hb2⟩; have HD := Aside0.mk hd; have HR := Aside0.mk hr; have HB2 := Aside0.mk (below_then HB1.out HB1.out.size hb2); clear hd hr hb2; have HX := Aside0.mk (Below.refl W2.heap.size W2))
      | (go_at_call 22; (with_reducible refine (place_calls v f next a _ (HD.out.below HX.out) HG.out).mono ?_); rintro e W ⟨rfl, hb⟩; rw [HP.out.1, HP.out.2.1]; have HX := Aside0.mk (below_then HX.out HX.out.size hb); clear hb)
      | (go_at_call 24; (with_reducible refine (rplace_calls u f next a _ (HR.out.below HX.out) HG.out).mono ?_); rintro e W ⟨rfl, hb⟩; rw [HP.out.1, HP.out.2.1]; have HX := Aside0.mk (below_then HX.out HX.out.size hb); clear hb)
      | (go_at_call 25; (with_reducible refine (before_calls v f next a _ (HD.out.below HX.out) HG.out).mono ?_); rintro e W ⟨rfl, hb⟩; rw [HP.out.2.2.1]; have HX := Aside0.mk (below_then HX.out HX.out.size hb); clear hb)
      | (go_at_call 26; (with_reducible refine (rbefore_calls u f next a _ (HR.out.below HX.out) HG.out).mono ?_); rintro e W ⟨rfl, hb⟩; rw [HP.out.2.2.1]; have HX := Aside0.mk (below_then HX.out HX.out.size hb); clear hb)
      | (go_at_call 23; (with_reducible refine (after_calls v f next a _ (HD.out.below HX.out) HG.out).mono ?_); rintro e W ⟨rfl, hb⟩; rw [HP.out.2.2.2.1]; have HX := Aside0.mk (below_then HX.out HX.out.size hb); clear hb)
      | (go_at_call 27; (with_reducible refine (rafter_calls u f next a _ (HR.out.below HX.out) HG.out).mono ?_); rintro e W ⟨rfl, hb⟩; rw [HP.out.2.2.2.1]; have HX := Aside0.mk (below_then HX.out HX.out.size hb); clear hb)
      | (go_at_call 21; (with_reducible refine (wcmp_calls v f next a b _ (HD.out.below HX.out) HG.out).mono ?_); rintro e W ⟨rfl, hb⟩; rw [HP.out.2.2.2.2]; have HX := Aside0.mk (below_then HX.out HX.out.size hb); clear hb)
      | (go_at_call 28; (with_reducible refine (rcmp_calls u f next a b _ (HR.out.below HX.out) HG.out).mono ?_); rintro e W ⟨rfl, hb⟩; rw [HP.out.2.2.2.2]; have HX := Aside0.mk (below_then HX.out HX.out.size hb); clear hb)
      | (go_at_call 10; refine (lives_calls _).mono ?_; rintro e WL ⟨rfl, hb⟩; have HX := Aside0.mk (below_then HX.out HX.out.size hb); clear hb)
      | fail)
    go_ret
    exact ⟨rfl, below_then HB2.out HB2.out.size HX.out⟩
theorem lawWalkPlaces.calls (k : Unit) (A : Option Addr) (c : Nat) (l : List S52) (a : Int) (b : Int) (r : Bool) (w : World) (hC : Kd.C k52 w A l.length l) (hc : l.length ≤ c) (h : ∀ p, p ∈ l → p.f4.size ≤ 140737488351232 ∧ p.f5.size ≤ 140737488351232) :
    Calls Try.prog 6 #[.slice A l.length c, .int .i64 a, .int .i64 b] w fun e w' => e = .returned (.bool true) ∧ Below w.heap.size w w' :=
  places_calls l A c a b w hC hc (fun p hp => by have := h p hp; omega)
theorem pure_WalkPlaces (l : List S52) (a : Int) (b : Int) (h : ∀ p, p ∈ l → p.f4.size ≤ 140737488351232 ∧ p.f5.size ≤ 140737488351232) : ∃ k : Unit, ∀ p, p ∈ l → p.f4.size ≤ 140737488351232 ∧ p.f5.size ≤ 140737488351232 := ⟨(), h⟩
end Go.Proofs.Ytpnlbmeeihbjaaa.P
end
