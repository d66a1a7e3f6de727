/- WalkOnce: for every input the law returns true, and each argument reads behind the call as it read before. -/
import Derived.Test.YtpnlbmeeihbjaaaZWC9
import Derived.Test.YtpnlbmeeihbjaaaZWC15
section
set_option linter.unusedVariables false
set_option linter.unusedSimpArgs false
namespace Go.Proofs.Ytpnlbmeeihbjaaa.P
open Go.RowKit Go.Proofs.YtpnlbmeeihbjaaaW.PrintWords Go.Proofs.YtpnlbmeeihbjaaaW.PrintLast Go.Proofs.YtpnlbmeeihbjaaaW.PrintMore
attribute [local go_sem] max2_int min2_int max_two min_two max_three min_three max_four min_four
set_option linter.unusedVariables false
set_option linter.unusedSimpArgs false
def belL (f : Nat → Option S40) : Nat → List Int → Nat → Option (List Int)
  | 0, _, _ => none
  | n + 1, l, i => if i < l.length then belL f n (l ++ ((look f (l.getD i 0)).getD z40).f3) (i + 1) else some l
theorem belL_le (f : Nat → Option S40) : ∀ (n : Nat) (l : List Int) (i : Nat) (r : List Int), belL f n l i = some r → l.length ≤ r.length
  | 0, _, _, _, h => by cases h
  | n + 1, l, i, r, h => by
    rw [belL] at h
    split at h
    · have := belL_le f n _ _ r h
      rw [List.length_append] at this
      omega
    · rw [Option.some.inj h]
      exact Nat.le_refl _
theorem R_cell {w : World} {base : Nat} {ok : Nat → Prop} {v : Value} {l : List Int} (h : Kd.R (Kd.int .i64) 3 w base ok v l) (i : Nat) (hi : i < l.length) : ∃ g c, v = .slice (some ⟨g, 0, none⟩) l.length c ∧ base ≤ g ∧ g < w.heap.size ∧ w.cell? ⟨g, i, none⟩ = some (.int .i64 (l.getD i 0)) := by
  obtain ⟨hlen, h⟩ := Kd.own_of_R h
  rcases h with ⟨rfl, hn⟩ | ⟨g, cap, cur, rfl, hg, hb, hnc, hcm, hcs, htake⟩
  · omega
  · refine ⟨g, cap, rfl, hg, blk_lt hb, ?_⟩
    have htake' : cur.toList.take l.length = l.map (Value.int .i64) := by simpa [encs] using htake
    rw [blk_cell hb i, ← Array.getElem?_toList]
    have : (cur.toList.take l.length)[i]? = some (.int .i64 l[i]) := by rw [htake']; simp [hi]
    rw [List.getElem?_take, if_pos hi] at this
    rw [this]
    simp [hi]
set_option maxHeartbeats 8000000 in
set_option maxRecDepth 100000 in
theorem below_calls (n : Nat) (v : Value) (f : Nat → Option S40) (next id : Int) (r : List Int) (w : World) (h : DocF w v f next) (hr : belL f n [id] 0 = some r) (hl : r.length ≤ 1099511627776) :
    Calls Try.prog 57 #[v, .int .i64 id] w fun e w' => ∃ v', e = .returned v' ∧ Kd.R (Kd.int .i64) 3 w' w.heap.size (fun _ => True) v' r ∧ Below w.heap.size w w' := by
  have HD := Aside0.mk h
  have HR := Aside0.mk hr
  have HL := Aside0.mk hl
  obtain ⟨b, t, rfl, _, _⟩ := h
  have hu40 := Try.underlying40
  clear hr hl
  go_enter Try.func57, Try.ntmps57
  go_wp2_with fail
  go_loopg [5, 6, 7, 8] n (fun kq v5 v6 v7 v8 w' => ∃ (l : List Int) (i : Nat), v6 = .int .i64 i ∧ Aside0 (i ≤ l.length) ∧ Aside0 (Kd.R (Kd.int .i64) 3 w' w.heap.size (fun _ => True) v5 l) ∧ Aside0 (belL f kq l i = some r) ∧ Aside0 (Below w.heap.size w w'))
  case atStart => exact ⟨[id], 0, rfl, ⟨Nat.zero_le _⟩, ⟨own_laid (xs := [id]) (n := 1) (cap := 1) (Nat.le_refl _) (blk_new _ _) rfl (Nat.le_refl _) (show 1 ≤ maxLen by decide) rfl rfl (fun _ => True) trivial⟩, HR, ⟨below_alloc (Below.refl _ _) _⟩⟩
  case round =>
    clear HR
    obtain ⟨l, i, rfl, HI, HO, HE, HB⟩ := hrel
    cases gk with
    | zero => exact absurd HE.out (by simp [belL])
    | succ n =>
      have hE := HE.out
      rw [belL] at hE
      obtain ⟨A, c, rfl, hc, hC⟩ := Kd.R_reads HO.out
      have HC := Aside0.mk hC
      clear hC hc
      by_cases c0 : i < l.length
      · rw [if_pos c0] at hE
        obtain ⟨g, c', e1, _, hglt, hcell⟩ := R_cell HO.out i c0
        injection e1 with e1 _ e3
        subst e1
        subst e3
        have c1 : decide (i < l.length) = true := decide_eq_true c0
        have c2 : decide ((i : Int) < (l.length : Int)) = true := decide_eq_true (by omega)
        have q0 : (0 ≤ (i : Int)) = True := eq_true (by omega)
        have q1 : ((i : Int) < (l.length : Int)) = True := eq_true (by omega)
        have q2 : (i < l.length) = True := eq_true c0
        have HE2 := Aside0.mk hE
        obtain ⟨k, hk⟩ : ∃ k, k = l.getD i 0 := ⟨_, rfl⟩
        rw [← hk] at hcell HE2
        have HLE := Aside0.mk (Nat.le_trans (belL_le f n _ _ r HE2.out) HL.out)
        have HI0 := Aside0.mk c0
        clear hE c0 hk hglt
        go_upto_region 6 with (first | (go_at_call 41; refine (node_calls _ f next k w _ HD.out HB.out).mono ?_; rintro e W2 ⟨cs, rfl, hK, hb2⟩; obtain ⟨y, hy⟩ : ∃ y, y = (look f k).getD z40 := ⟨_, rfl⟩; rw [← hy] at hK HLE; obtain ⟨A3, c3, A4, c4, hcs, hl3, hC3, _, _⟩ := k40_open hK; obtain ⟨cs⟩ := cs; simp only at hcs; subst hcs; have HB2 := Aside0.mk hb2; have HC3 := Aside0.mk hC3; have HY := Aside0.mk hy; clear hb2 hK hC3 hl3 hy) | fail)
        have HB3 : Aside0 (Below wr.heap.size wr (W2.alloc (.cells #[.int .i64 y.f0, .string y.f1, .int .i64 y.f2, .slice A3 y.f3.length c3, .slice A4 y.f4.length c4] 40))) := ⟨below_alloc HB2.out _⟩
        have q3 := (blk_cell (blk_new W2 (.cells #[.int .i64 y.f0, .string y.f1, .int .i64 y.f2, .slice A3 y.f3.length c3, .slice A4 y.f4.length c4] 40)) 3).trans (show _ = some (.slice A3 y.f3.length c3) from rfl)
        generalize W2.alloc (.cells #[.int .i64 y.f0, .string y.f1, .int .i64 y.f2, .slice A3 y.f3.length c3, .slice A4 y.f4.length c4] 40) = W3 at HB3 q3 ⊢
        generalize W2.heap.size = g7 at q3 ⊢
        have HBW := Aside0.mk (below_then HB.out HB.out.size HB3.out)
        have HCON : Aside0 (∀ (W : World) (gb : Nat), Below W3.heap.size W3 W → W.heap[gb]? = some (.cells #[.slice (some ⟨g, 0, none⟩) l.length c, .slice A3 y.f3.length c3] 29 (0, 0)) → Calls Try.prog 88 #[.slice (some ⟨gb, 0, none⟩) 2 2] W fun e w' => ∃ v, e = .returned v ∧ Kd.R (Kd.int .i64) 3 w' w.heap.size (fun _ => True) v (l ++ y.f3) ∧ Below w.heap.size w w') := ⟨fun W gb hW hgb => by
          refine (concat_calls l y.f3 _ _ _ _ gb W hgb (Kd.C_below HC.out (below_then HB3.out HB3.out.size hW)) (Kd.C_below HC3.out (below_then HBW.out HBW.out.size hW)) (by have := HLE.out; rwa [List.length_append] at this)).mono ?_
          rintro e w' ⟨v, he, hR, hb⟩
          have hwW := below_then HBW.out HBW.out.size hW
          exact ⟨v, he, Kd.R_lower hR hwW.size, below_then hwW hwW.size hb⟩⟩
        clear hcell q0 q1 q2 c1 c2
        go_wp2_with (first | (go_at_call 88; refine (HCON.out _ _ (by repeat (first | exact Below.refl _ _ | apply below_alloc)) (by exact blk_new _ _)).mono ?_; rintro e W5 ⟨v5, rfl, hR5, hb5⟩; have HR5 := Aside0.mk hR5; have HB5 := Aside0.mk hb5; clear hR5 hb5) | fail)
        go_roundg n
        case measure => omega
        case rel => exact ⟨_, i + 1, by (have := HI0.out; have := HLE.out; rw [List.length_append] at this; congr 1; unfold wrap64; omega), ⟨by rw [List.length_append]; have := HI0.out; omega⟩, HR5, ⟨by rw [HY.out]; exact HE2.out⟩, HB5⟩
      · rw [if_neg c0] at hE
        obtain rfl := Option.some.inj hE
        have c1 : decide (i < l.length) = false := decide_eq_false c0
        have c2 : decide ((i : Int) < (l.length : Int)) = false := decide_eq_false (by omega)
        clear hE c0
        go_wp2_with fail
        go_ret
        exact ⟨_, rfl, HO.out, HB.out⟩
end Go.Proofs.Ytpnlbmeeihbjaaa.P
end
section
set_option linter.unusedVariables false
set_option linter.unusedSimpArgs false
namespace Go.Proofs.Ytpnlbmeeihbjaaa.P
open Go.RowKit Go.Proofs.YtpnlbmeeihbjaaaW.PrintWords Go.Proofs.YtpnlbmeeihbjaaaW.PrintLast Go.Proofs.YtpnlbmeeihbjaaaW.PrintMore
attribute [local go_sem] max2_int min2_int max_two min_two max_three min_three max_four min_four
set_option linter.unusedVariables false
set_option linter.unusedSimpArgs false
def depD (f : Nat → Option S40) (m : Nat) (k : Int) : Int := (depL f m (look f k) 0).getD 0
theorem depD_eq {f : Nat → Option S40} {m : Nat} {k : Int} (h : (depL f m (look f k) 0).isSome = true) : depL f m (look f k) 0 = some (depD f m k) := by
  unfold depD
  cases e : depL f m (look f k) 0 with
  | none => rw [e] at h; cases h
  | some x => rfl
def mostL (f : Nat → Option S40) (m : Nat) (l : List Int) : Int := l.foldl (fun a k => max a (depD f m k)) 0
theorem mostL_snoc (f : Nat → Option S40) (m : Nat) (l : List Int) (i : Nat) (h : i < l.length) : mostL f m (l.take (i + 1)) = max (mostL f m (l.take i)) (depD f m (l.getD i 0)) := by
  rw [List.take_succ_eq_append_getElem h]
  unfold mostL
  rw [List.foldl_append]
  simp [h]
def tallD (f : Nat → Option S40) (m : Nat) (r : List Int) (id : Int) : Int := wrap64 (wrap64 (mostL f m r - depD f m id) + 1)
set_option maxHeartbeats 8000000 in
set_option maxRecDepth 100000 in
theorem tall_calls (n m : Nat) (v : Value) (f : Nat → Option S40) (next id : Int) (r : List Int) (w : World) (h : DocF w v f next) (hr : belL f n [id] 0 = some r) (hl : r.length ≤ 1099511627776) (hd : ∀ k, k ∈ id :: r → (depL f m (look f k) 0).isSome = true) :
    Calls Try.prog 60 #[v, .int .i64 id] w fun e w' => e = .returned (.int .i64 (tallD f m r id)) ∧ Below w.heap.size w w' := by
  have HD := Aside0.mk h
  have HR := Aside0.mk hr
  have HL := Aside0.mk hl
  have HDD := Aside0.mk hd
  obtain ⟨b, t, rfl, _, _⟩ := h
  clear hr hl hd
  go_enter Try.func60, Try.ntmps60
  go_wp2_with (first | (go_at_call 57; refine (below_calls n _ f next id r _ HD.out HR.out HL.out).mono ?_; rintro e W1 ⟨v1, rfl, hR1, hb1⟩; obtain ⟨A, c, rfl, hc, hC⟩ := Kd.R_reads hR1; have HR1 := Aside0.mk hR1; have HB1 := Aside0.mk hb1; clear hR1 hb1 hC hc) | fail)
  go_loopg [5, 7, 12] (r.length + 1) (fun kq v5 v7 v12 w' => ∃ (i : Nat), v12 = .int .i64 i ∧ v5 = .int .i64 (mostL f m (r.take i)) ∧ Aside0 (i + kq = r.length + 1) ∧ Aside0 (i ≤ r.length) ∧ Aside0 (Kd.R (Kd.int .i64) 3 w' w.heap.size (fun _ => True) (.slice A r.length c) r) ∧ Aside0 (Below w.heap.size w w'))
  case atStart => exact ⟨0, rfl, rfl, ⟨by omega⟩, ⟨Nat.zero_le _⟩, HR1, HB1⟩
  case round =>
    clear HR1 HB1
    obtain ⟨i, rfl, rfl, HK, HI, HO, HB⟩ := hrel
    cases gk with
    | zero => exact absurd HK.out (by have := HI.out; omega)
    | succ g0 =>
      by_cases c0 : i < r.length
      · obtain ⟨g, c', e1, _, hglt, hcell⟩ := R_cell HO.out i c0
        injection e1 with e1 _ e3
        subst e1
        subst e3
        have c1 : decide (i < r.length) = true := decide_eq_true c0
        have c2 : decide ((i : Int) < (r.length : Int)) = true := decide_eq_true (by omega)
        have q0 : (0 ≤ (i : Int)) = True := eq_true (by omega)
        have q1 : ((i : Int) < (r.length : Int)) = True := eq_true (by omega)
        have q2 : (i < r.length) = True := eq_true c0
        obtain ⟨M, hM⟩ : ∃ M, M = mostL f m (r.take i) := ⟨_, rfl⟩
        have HM2 : Aside0 (mostL f m (r.take (i + 1)) = max M (depD f m (r.getD i 0))) := ⟨by rw [mostL_snoc f m r i c0, hM]⟩
        have HDK : Aside0 (depL f m (look f (r.getD i 0)) 0 = some (depD f m (r.getD i 0))) := ⟨depD_eq (HDD.out _ (List.mem_cons_of_mem _ (by rw [List.getD_eq_getElem?_getD, List.getElem?_eq_getElem c0]; exact List.getElem_mem c0)))⟩
        rw [← hM]
        generalize r.getD i 0 = k at hcell HM2 HDK
        generalize depD f m k = D at HM2 HDK
        have HI0 := Aside0.mk c0
        clear c0 hglt hM
        go_wp2_with (first | (go_at_call 53; refine (depth_calls m _ f next k D w _ HD.out HB.out HDK.out).mono ?_; rintro e W2 ⟨rfl, hb2⟩; have HO2 := Aside0.mk (Kd.R_below HO.out hb2); have HB2 := Aside0.mk (below_then HB.out HB.out.size hb2); clear hb2) | fail)
        all_goals
          go_roundg g0
          case measure => have := HK.out; omega
          case rel => exact ⟨i + 1, by (have := HI0.out; have := HL.out; congr 1; unfold wrap64; omega), by (rw [HM2.out]; congr 1; omega), ⟨by have := HK.out; omega⟩, ⟨HI0.out⟩, HO2, HB2⟩
      · have c1 : decide (i < r.length) = false := decide_eq_false c0
        have c2 : decide ((i : Int) < (r.length : Int)) = false := decide_eq_false (by omega)
        have hi : i = r.length := by have := HI.out; omega
        rw [hi, List.take_length]
        have HDI : Aside0 (depL f m (look f id) 0 = some (depD f m id)) := ⟨depD_eq (HDD.out _ (List.mem_cons_self ..))⟩
        obtain ⟨M, hM⟩ : ∃ M, M = mostL f m r := ⟨_, rfl⟩
        have HM := Aside0.mk hM
        rw [← hM]
        have HTL : Aside0 (tallD f m r id = wrap64 (wrap64 (M - depD f m id) + 1)) := ⟨by rw [hM]; rfl⟩
        obtain ⟨D, hD⟩ : ∃ D, D = depD f m id := ⟨_, rfl⟩
        rw [← hD] at HDI HTL
        rw [hi] at c1 c2
        clear c0 hi hM hD
        go_wp2_with (first | (go_at_call 53; refine (depth_calls m _ f next id D w _ HD.out HB.out HDI.out).mono ?_; rintro e W2 ⟨rfl, hb2⟩; have HB2 := Aside0.mk (below_then HB.out HB.out.size hb2); clear hb2) | fail)
        go_ret
        exact ⟨by rw [HTL.out]; rfl, HB2.out⟩
end Go.Proofs.Ytpnlbmeeihbjaaa.P
end
