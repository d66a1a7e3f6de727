/- DomShape: for every input the law returns true, and each argument reads behind the call as it read before. -/
import Derived.Test.YtmkakofnabfinaaZDS5
import Derived.Test.YtmkakofnabfinaaZDS17
import Derived.Test.YtmkakofnabfinaaZDS20
import Derived.Test.YtmkakofnabfinaaZDS25
import Derived.Deep.LoopGhost
import Derived.Deep.QuietTactic
import Derived.BigQuiet
section
set_option linter.unusedVariables false
set_option linter.unusedSimpArgs false
namespace Go.Proofs.Ytmkakofnabfinaa.P
open Go.RowKit Go.Proofs.YtmkakofnabfinaaW.PrintWords Go.Proofs.YtmkakofnabfinaaW.PrintLast Go.Proofs.YtmkakofnabfinaaW.PrintMore
attribute [local go_sem] max2_int min2_int max_two min_two max_three min_three max_four min_four
set_option linter.unusedVariables false
set_option linter.unusedSimpArgs false
theorem light_some (l : List S44) (m : Int) (hl : l.length ≤ 9223372036854775807) : ∃ k b, gouacheref07_Light.f k l m = some b := by
  have key : ∀ (d i : Nat) (n : Int), i + d = l.length → ∃ b, gouacheref07_Light.l0 (d + 1) m n l (l.length : Int) (i : Int) = some b := by
    intro d
    induction d with
    | zero =>
      intro i n h
      refine ⟨true, ?_⟩
      simp only [gouacheref07_Light.l0]
      rw [if_neg (by omega)]
    | succ d ih =>
      intro i n h
      unfold gouacheref07_Light.l0
      rw [if_pos (by omega), if_pos (by omega), if_pos (by omega)]
      split
      · exact ⟨false, rfl⟩
      · rw [show wrap64 ((i : Int) + 1) = ((i + 1 : Nat) : Int) by unfold wrap64; omega]
        exact ih (i + 1) _ (by omega)
  obtain ⟨b, hb⟩ := key l.length 0 0 (by omega)
  exact ⟨l.length + 1, b, hb⟩
theorem light_calls (l : List S44) (A : Option Addr) (c : Nat) (w : World) (hC : Kd.C k44 w A l.length l) (hc : l.length ≤ c) : ∃ b, Calls Try.prog 20 #[.slice A l.length c] w fun e w' => e = .returned (.bool b) ∧ Below w.heap.size w w' := by
  obtain ⟨k, b, hb⟩ := light_some l 130 hC.2.1
  exact ⟨b, gouachelaw07_light.calls k A c l b w hC hc (by unfold gouachelaw07_light.f; rw [hb]; rfl)⟩
theorem attrV_self {l : List S64} (h : SortA l) {i : Nat} (hi : i < l.length) : attrV l l[i].f0 = (l[i].f1, true) := by
  have hh : hasA l l[i].f0 = true := (hasA_mem h).2 ⟨l[i], List.getElem_mem hi, rfl⟩
  obtain ⟨hp, he⟩ := hasA_at hh
  have e : posA l l[i].f0 = i := by
    rcases Nat.lt_trichotomy (posA l l[i].f0) i with h1 | h1 | h1
    · have := h.lt h1 hi; rw [he, lessS_irrefl] at this; cases this
    · exact h1
    · have := h.lt h1 hp; rw [he, lessS_irrefl] at this; cases this
  unfold attrV
  rw [if_pos hh, e, rd_get l i hi]
theorem int_cell {w : World} {A : Option Addr} {l : List Int} (h : Kd.C (Kd.int .i64) w A l.length l) (i : Nat) (hi : i < l.length) : ∃ ad, A = some ad ∧ w.cell? (ad.add i) = some (.int .i64 (l.getD i 0)) := by
  obtain ⟨ad, c, e, hl, hK, hc⟩ := ReadsRow.get_ h (0 : Int) (i : Int) (by omega) (by omega)
  refine ⟨ad, e, ?_⟩
  rw [Int.toNat_natCast] at hK hc
  have hk : c = [.int .i64 (l.getD i 0)] := hK
  have := hc 0 _ (by rw [hk]; rfl)
  rw [show i * (Kd.int .i64).sz + 0 = i by show i * 1 + 0 = i; omega] at this
  exact this
def runA (s : (Nat → Option S56) × Int) (l : List S44) : (Nat → Option S56) × Int := l.foldl (fun s a => (actF s.1 s.2 a, actN s.1 s.2 a)) s
theorem good_run : ∀ (l : List S44) (s : (Nat → Option S56) × Int), Good s.1 s.2 → Good (runA s l).1 (runA s l).2
  | [], _, h => h
  | a :: r, s, h => good_run r (actF s.1 s.2 a, actN s.1 s.2 a) (good_act h a)
theorem run_snoc (s : (Nat → Option S56) × Int) (l : List S44) (i : Nat) (h : i < l.length) : runA s (l.take (i + 1)) = (actF (runA s (l.take i)).1 (runA s (l.take i)).2 (rd_T44 l (i : Nat)), actN (runA s (l.take i)).1 (runA s (l.take i)).2 (rd_T44 l (i : Nat))) := by
  rw [List.take_succ_eq_append_getElem h]
  unfold runA
  rw [List.foldl_append]
  have e : rd_T44 l (i : Nat) = l[i] := by unfold rd_T44; simp [List.getD_eq_getElem?_getD, List.getElem?_eq_getElem h]
  rw [e]; rfl
def tree0 : (Nat → Option S56) × Int := (newF ⟨#[97]⟩, 2)
theorem good_tree (l : List S44) : Good (runA tree0 l).1 (runA tree0 l).2 := good_run l tree0 (good_new _)
def ksum (f : Nat → Option S56) : Nat → Int
  | 0 => 0
  | n + 1 => ksum f n + ((look f (n : Int)).getD z56).f3.length
set_option maxHeartbeats 64000000 in
set_option maxRecDepth 100000 in
theorem shape_calls (l : List S44) (A : Option Addr) (c : Nat) (w : World) (hC : Kd.C k44 w A l.length l) (hc : l.length ≤ c) (hs : ∀ p, p ∈ l → p.f5.size ≤ 140737488355332)
    (hsum : ∀ f next, Good f next → 0 ≤ ksum f next.toNat ∧ ksum f next.toNat = wrap64 (cnt 1048576 f - 1) ∧ ∀ n, 0 ≤ ksum f n ∧ (n ≤ 1048576 → ksum f n ≤ 1099511627776)) :
    Calls Try.prog 8 #[.slice A l.length c] w fun e w' => e = .returned (.bool true) ∧ Below w.heap.size w w' := by
  obtain ⟨b, hlight⟩ := light_calls l A c w hC hc
  have HLI := Aside0.mk hlight
  have HC := Aside0.mk hC
  have HS := Aside0.mk hs
  have HSUM := Aside0.mk hsum
  have hu36 := Try.underlying36
  have hu44 := Try.underlying44
  have hu56 := Try.underlying56
  have hu53 := Try.underlying53
  have hu54 := Try.underlying54
  have hu64 := Try.underlying64
  have hlb : l.length ≤ 9223372036854775807 := hC.2.1
  clear hlight hC hs hsum
  cases b with
  | false =>
    go_enter Try.func8, Try.ntmps8
    go_wp2_with (first
      | (go_at_call 20; refine HLI.out.mono ?_; rintro e W1 ⟨rfl, hb1⟩; have HB1 := Aside0.mk hb1; clear hb1)
      | (go_at_call 15; refine (lives_calls _).mono ?_; rintro e W2 ⟨rfl, hb2⟩; have HB2 := Aside0.mk (below_then HB1.out HB1.out.size hb2); clear hb2)
      | fail)
    go_ret
    exact ⟨rfl, HB2.out⟩
  | true =>
    go_enter Try.func8, Try.ntmps8
    go_upto_region 6 with (first
      | (go_at_call 20; refine HLI.out.mono ?_; rintro e W1 ⟨rfl, hb1⟩; have HB1 := Aside0.mk hb1; clear hb1)
      | (go_at_call 13; refine (dnew_calls (fun _ => True) 3 ⟨#[97]⟩ true _ (fun _ _ => trivial) lives_n1).mono ?_; rintro e W2 ⟨v1, rfl, hD1, hb2⟩; have HD1 := Aside0.mk (show DocO (fun _ => True) W2 v1 (newF ⟨#[97]⟩) 2 from hD1); have HB2 := Aside0.mk (below_then HB1.out HB1.out.size hb2); clear hD1 hb2)
      | fail)
    go_wp2_with fail
    go_loopg [3, 6, 33] (l.length + 1) (fun kq v3 v6 v33 w' => ∃ (i : Nat) (v : Value), v33 = .int .i64 i ∧ v = v3 ∧ Aside0 (i + kq = l.length + 1) ∧ Aside0 (i ≤ l.length) ∧ Aside0 (DocO (fun _ => True) w' v (runA tree0 (l.take i)).1 (runA tree0 (l.take i)).2) ∧ Aside0 (Below w.heap.size w w'))
    case atStart => exact ⟨0, v1, rfl, rfl, ⟨by omega⟩, ⟨Nat.zero_le _⟩, HD1, HB2⟩
    case round =>
      clear HD1 HB2 HB1
      obtain ⟨i, v3, rfl, rfl, HK, HI, HD, HB⟩ := hrel
      cases gk with
      | zero => exact absurd HK.out (by have := HI.out; omega)
      | succ g0 =>
        by_cases c0 : i < l.length
        · have HST := Aside0.mk (run_snoc tree0 l i c0)
          have HG := Aside0.mk (good_tree (l.take i))
          obtain ⟨ad, rfl, k0, k1, k2, k3, k4, k5⟩ := at_T44 (Kd.C_below HC.out HB.out) (i : Int) (by omega) (by omega)
          rw [Int.toNat_natCast] at k0 k1 k2 k3 k4 k5
          have HSI : Aside0 ((rd_T44 l (i : Nat)).f5.size ≤ 140737488355332) := ⟨by
            have e : rd_T44 l (i : Nat) = l[i] := by unfold rd_T44; simp [List.getD_eq_getElem?_getD, List.getElem?_eq_getElem c0]
            rw [e]; exact HS.out _ (List.getElem_mem c0)⟩
          generalize rd_T44 l (i : Nat) = a at k0 k1 k2 k3 k4 k5 HST HSI
          have HI0 := Aside0.mk c0
          have c1 : decide (i < l.length) = true := decide_eq_true c0
          have z0 : (0 ≤ (i : Int)) = True := eq_true (by omega)
          have z1 : ((i : Int) < (l.length : Int)) = True := eq_true (by omega)
          have HBA : Aside0 (Below w.heap.size w (wr.alloc (.cells #[.int .i64 a.f0, .int .i64 a.f1, .int .i64 a.f2, .int .i64 a.f3, .string a.f4, .string a.f5] 44))) := ⟨below_alloc HB.out _⟩
          have HDA : Aside0 (DocO (fun _ => True) (wr.alloc (.cells #[.int .i64 a.f0, .int .i64 a.f1, .int .i64 a.f2, .int .i64 a.f3, .string a.f4, .string a.f5] 44)) v3 (runA tree0 (l.take i)).1 (runA tree0 (l.take i)).2) := ⟨HD.out.below (below_alloc (Below.refl _ _) _)⟩
          have q0 := (blk_cell (blk_new wr (.cells #[.int .i64 a.f0, .int .i64 a.f1, .int .i64 a.f2, .int .i64 a.f3, .string a.f4, .string a.f5] 44)) 0).trans (show _ = some (.int .i64 a.f0) from rfl)
          have q1 := (blk_cell (blk_new wr (.cells #[.int .i64 a.f0, .int .i64 a.f1, .int .i64 a.f2, .int .i64 a.f3, .string a.f4, .string a.f5] 44)) 1).trans (show _ = some (.int .i64 a.f1) from rfl)
          have q2 := (blk_cell (blk_new wr (.cells #[.int .i64 a.f0, .int .i64 a.f1, .int .i64 a.f2, .int .i64 a.f3, .string a.f4, .string a.f5] 44)) 2).trans (show _ = some (.int .i64 a.f2) from rfl)
          have q3 := (blk_cell (blk_new wr (.cells #[.int .i64 a.f0, .int .i64 a.f1, .int .i64 a.f2, .int .i64 a.f3, .string a.f4, .string a.f5] 44)) 3).trans (show _ = some (.int .i64 a.f3) from rfl)
          have q4 := (blk_cell (blk_new wr (.cells #[.int .i64 a.f0, .int .i64 a.f1, .int .i64 a.f2, .int .i64 a.f3, .string a.f4, .string a.f5] 44)) 4).trans (show _ = some (.string a.f4) from rfl)
          have q5 := (blk_cell (blk_new wr (.cells #[.int .i64 a.f0, .int .i64 a.f1, .int .i64 a.f2, .int .i64 a.f3, .string a.f4, .string a.f5] 44)) 5).trans (show _ = some (.string a.f5) from rfl)
          have HACT : Aside0 (∀ W, Below wr.heap.size wr W → Calls Try.prog 22 #[v3, .agg #[.int .i64 a.f0, .int .i64 a.f1, .int .i64 a.f2, .int .i64 a.f3, .string a.f4, .string a.f5]] W (Act3 (fun _ => True) W v3 (runA tree0 (l.take (i + 1))).1 (runA tree0 (l.take (i + 1))).2 (actI (runA tree0 (l.take i)).1 (runA tree0 (l.take i)).2 a) (actE (runA tree0 (l.take i)).1 (runA tree0 (l.take i)).2 a))) := ⟨fun W hW => by
            rw [HST.out]
            exact act_calls (fun _ => True) v3 a.f0 a.f1 a.f2 a.f3 a.f4 a.f5 W (fun _ _ => trivial) (HD.out.below hW) HG.out HSI.out⟩
          clear c0
          go_wp2_with (first
            | (go_at_call 22; (with_reducible refine (HACT.out _ (by repeat (first | exact Below.refl _ _ | apply below_alloc | apply below_drew1 | apply pw_below_drewN))).mono ?_); rintro e W3 ⟨v', rfl, hd, hb, hv⟩; have HD3 := Aside0.mk hd; have HB3 := Aside0.mk (below_then HBA.out HBA.out.size hb); clear hd hb hv)
            | fail)
          go_roundg g0
          case measure => have := HK.out; omega
          case rel => exact ⟨i + 1, v', (by have := HI0.out; congr 1; unfold wrap64; omega), rfl, ⟨by have := HK.out; omega⟩, ⟨HI0.out⟩, HD3, HB3⟩
        · have c1 : decide (i < l.length) = false := decide_eq_false c0
          have HI2 : l.take i = l := List.take_of_length_le (by omega)
          have HG := Aside0.mk (good_tree l)
          rw [HI2] at HD
          have hlo := HG.out.lo
          have hhi := HG.out.hi
          have HSU := Aside0.mk (HSUM.out _ _ HG.out)
          generalize (runA tree0 l).1 = f at HD HG HSU
          generalize (runA tree0 l).2 = next at HD HG HSU hlo hhi
          have HDF := Aside0.mk HD.out.doc
          clear HI2 c0 HK HI HD
          go_wp2_with fail
          go_loopg [7, 8] (next.toNat + 1) (fun kq v7 v8 w' => ∃ (id : Nat), v8 = .int .i64 id ∧ v7 = .int .i64 (ksum f id) ∧ Aside0 (id + kq = next.toNat + 2) ∧ Aside0 (1 ≤ id ∧ id ≤ next.toNat) ∧ Aside0 (Below wr.heap.size wr w'))
          case atStart => exact ⟨1, rfl, by rw [show ksum f 1 = 0 by show 0 + (((look f 0).getD z56).f3.length : Int) = 0; rw [HG.out.zero]; rfl], ⟨by omega⟩, ⟨by omega⟩, ⟨Below.refl _ _⟩⟩
          case round =>
            obtain ⟨id, rfl, rfl, HK, HI, HB2⟩ := hrel
            cases gk with
            | zero => exact absurd HK.out (by have := HI.out; omega)
            | succ g0 =>
              have HD2 := Aside0.mk (HDF.out.below HB2.out)
              have HBW := Aside0.mk (below_then HB.out HB.out.size HB2.out)
              by_cases c0 : (id : Int) < next
              · have c1 : decide ((id : Int) < next) = true := decide_eq_true c0
                have HI0 := Aside0.mk c0
                have HKS : Aside0 (ksum f (id + 1) = ksum f id + ((look f (id : Int)).getD z56).f3.length) := ⟨rfl⟩
                have HCOPY : Aside0 (∀ (k : Int) (W : World), Below wr.heap.size wr W → Calls Try.prog 29 #[v3, .int .i64 k] W (CopyPost W (look f k))) := ⟨fun k W hW => copy_calls v3 f next k wr W HD2.out hW (HG.out.sizes k).1 (HG.out.sizes k).2⟩
                clear c0
                cases hl : look f (id : Int) with
                | none =>
                  have HL := Aside0.mk hl
                  clear hl
                  go_wp2_with (first
                    | (go_at_call 27; refine (dnext_calls v3 f next wr HD2.out).mono ?_; rintro e W1 ⟨rfl, hb1⟩; have HB1 := Aside0.mk hb1; clear hb1)
                    | (go_at_call 29; refine (HCOPY.out (id : Int) _ HB1.out).mono ?_; rintro e W2 ⟨cs, rfl, hM, hb2⟩; rw [HL.out] at hM ⊢; obtain ⟨A3, c3, A4, c4, rfl⟩ := k56_cellsM (x := z56) hM; have HB3 := Aside0.mk (below_alloc (below_then HB1.out HB1.out.size hb2) (.cells #[.int .i64 z56.f0, .string z56.f1, .int .i64 z56.f2, .slice A3 z56.f3.length c3, .slice A4 z56.f4.length c4] 56)); clear hM hb2)
                    | fail)
                  go_roundg g0
                  case measure => have := HK.out; omega
                  case rel => exact ⟨id + 1, (by have := HI0.out; congr 1; unfold wrap64; omega), (by rw [HKS.out, HL.out]; show Value.int IntKind.i64 (ksum f id) = Value.int IntKind.i64 (ksum f id + 0); rw [Int.add_zero]), ⟨by have := HK.out; omega⟩, ⟨by have := HI.out; have := HI0.out; omega⟩, ⟨below_then HB2.out HB2.out.size HB3.out⟩⟩
                | some x =>
                  have HL := Aside0.mk hl
                  have HX3 := Aside0.mk (HG.out.kids_le hl)
                  have d0 : (x.f0 == (id : Int)) = true := by rw [HG.out.num _ x hl]; simp
                  have d0' : (x.f0 != (id : Int)) = false := by rw [HG.out.num _ x hl]; simp
                  obtain ⟨bb, b1, b2, b2'⟩ : ∃ bb, (x.f2 == 0) = bb ∧ ((id : Int) == 1) = bb ∧ (id == 1) = bb := by
                    by_cases e : (id : Int) = 1
                    · obtain ⟨r, hr, hr0⟩ := HG.out.root
                      rw [e, hr] at hl
                      obtain rfl := Option.some.inj hl
                      exact ⟨true, by rw [hr0]; rfl, by rw [e]; rfl, by simp; omega⟩
                    · obtain ⟨p, hp, _⟩ := HG.out.par _ x hl e
                      have := HG.out.dom _ p hp
                      exact ⟨false, by simp; omega, by simp; omega, by simp; omega⟩
                  clear hl
                  go_upto_region 19 with (first
                    | (go_at_call 27; refine (dnext_calls v3 f next wr HD2.out).mono ?_; rintro e W1 ⟨rfl, hb1⟩; have HB1 := Aside0.mk hb1; clear hb1)
                    | (go_at_call 29; refine (HCOPY.out (id : Int) _ HB1.out).mono ?_; rintro e W2 ⟨cs, rfl, hM, hb2⟩; rw [HL.out] at hM ⊢; obtain ⟨A3, c3, A4, c4, hcs, l3, g3, l4, g4⟩ := k56_open (k56.K_of_M hM); obtain ⟨cl⟩ := cs; simp only at hcs; subst hcs; have HC3 := Aside0.mk g3; have HC4 := Aside0.mk g4; have HLC := Aside0.mk (show x.f3.length ≤ c3 ∧ x.f4.length ≤ c4 from And.intro l3 l4); have HBC := Aside0.mk (below_then HB1.out HB1.out.size hb2); clear hM hb2 g3 g4 l3 l4)
                    | fail)
                  have HBX : Aside0 (Below wr.heap.size wr (W2.alloc (.cells #[.int .i64 x.f0, .string x.f1, .int .i64 x.f2, .slice A3 x.f3.length c3, .slice A4 x.f4.length c4] 56))) := ⟨below_alloc HBC.out _⟩
                  have HC3' : Aside0 (Kd.C (Kd.int .i64) (W2.alloc (.cells #[.int .i64 x.f0, .string x.f1, .int .i64 x.f2, .slice A3 x.f3.length c3, .slice A4 x.f4.length c4] 56)) A3 x.f3.length x.f3) := ⟨Kd.C_below HC3.out (below_alloc (Below.refl _ _) _)⟩
                  have HC4' : Aside0 (Kd.C k64 (W2.alloc (.cells #[.int .i64 x.f0, .string x.f1, .int .i64 x.f2, .slice A3 x.f3.length c3, .slice A4 x.f4.length c4] 56)) A4 x.f4.length x.f4) := ⟨Kd.C_below HC4.out (below_alloc (Below.refl _ _) _)⟩
                  have q3 : (W2.alloc (.cells #[.int .i64 x.f0, .string x.f1, .int .i64 x.f2, .slice A3 x.f3.length c3, .slice A4 x.f4.length c4] 56)).cell? ⟨W2.heap.size, 3, none⟩ = some (.slice A3 x.f3.length c3) := (blk_cell (blk_new W2 _) 3).trans rfl
                  have q4 : (W2.alloc (.cells #[.int .i64 x.f0, .string x.f1, .int .i64 x.f2, .slice A3 x.f3.length c3, .slice A4 x.f4.length c4] 56)).cell? ⟨W2.heap.size, 4, none⟩ = some (.slice A4 x.f4.length c4) := (blk_cell (blk_new W2 _) 4).trans rfl
                  clear HC3 HC4 HBC
                  generalize W2.alloc (.cells #[.int .i64 x.f0, .string x.f1, .int .i64 x.f2, .slice A3 x.f3.length c3, .slice A4 x.f4.length c4] 56) = W3 at HBX HC3' HC4' q3 q4 ⊢
                  generalize W2.heap.size = g9 at q3 q4 ⊢
                  have HQ3 := Aside0.mk q3
                  have HQ4 := Aside0.mk q4
                  go_wp2_with fail
                  go_loopg [74] (x.f3.length + 1) (fun kq v74 w' => ∃ (j : Nat), v74 = .int .i64 j ∧ Aside0 (j + kq = x.f3.length + 1) ∧ Aside0 (j ≤ x.f3.length) ∧ Aside0 (Below W3.heap.size W3 w'))
                  case atStart => exact ⟨0, rfl, ⟨by omega⟩, ⟨Nat.zero_le _⟩, ⟨Below.refl _ _⟩⟩
                  case round =>
                    clear q3 q4
                    obtain ⟨j, rfl, HKJ, HIJ, HBJ⟩ := hrel
                    cases gk with
                    | zero => exact absurd HKJ.out (by have := HIJ.out; omega)
                    | succ g1 =>
                      by_cases e0 : j < x.f3.length
                      · obtain ⟨ad, rfl, kc⟩ := int_cell (Kd.C_below HC3'.out HBJ.out) j e0
                        have HMEM : Aside0 (x.f3.getD j 0 ∈ x.f3) := ⟨by rw [List.getD_eq_getElem?_getD, List.getElem?_eq_getElem e0]; exact List.getElem_mem e0⟩
                        obtain ⟨hc1, y, hy, hyp⟩ := HG.out.kid _ x _ HL.out HMEM.out
                        have hnd := HG.out.nodup _ x HL.out
                        have HND : Aside0 (∀ m, m < j → (x.f3.getD m 0 == x.f3.getD j 0) = false) := ⟨fun m hm => by
                          have hm2 : m < x.f3.length := by omega
                          rw [List.getD_eq_getElem?_getD, List.getD_eq_getElem?_getD, List.getElem?_eq_getElem e0, List.getElem?_eq_getElem hm2]
                          simp only [Option.getD_some, beq_eq_false_iff_ne, ne_eq]
                          intro e
                          have := (List.getElem_inj hnd).1 e
                          omega⟩
                        have HY := Aside0.mk hy
                        have p0 : (y.f2 == (id : Int)) = true := by rw [hyp]; simp
                        have p0' : (y.f2 != (id : Int)) = false := by rw [hyp]; simp
                        have e1 : decide (j < x.f3.length) = true := decide_eq_true e0
                        have e2 : decide ((j : Int) < (x.f3.length : Int)) = true := decide_eq_true (by omega)
                        have y0 : (0 ≤ (j : Int)) = True := eq_true (by omega)
                        have y1 : ((j : Int) < (x.f3.length : Int)) = True := eq_true (by omega)
                        have HJ0 := Aside0.mk e0
                        have HCAP : Aside0 (j ≤ c3) := ⟨by have := HLC.out.1; omega⟩
                        generalize x.f3.getD j 0 = kc0 at kc HY HND
                        clear e0 hc1 hy hyp hnd HMEM
                        go_upto_region 25 with (first
                          | (go_at_call 29; (with_reducible refine (HCOPY.out kc0 _ (below_then HBX.out HBX.out.size HBJ.out)).mono ?_); rintro e W4 ⟨cs, rfl, hM, hb4⟩; rw [HY.out] at hM ⊢; obtain ⟨B3, d3, B4, d4, hcs, l3, g3, l4, g4⟩ := k56_open (k56.K_of_M hM); obtain ⟨cl⟩ := cs; simp only at hcs; subst hcs; have HB4 := Aside0.mk (below_then HBJ.out HBJ.out.size hb4); clear hM hb4 g3 g4 l3 l4)
                          | fail)
                        have HB5 : Aside0 (Below W3.heap.size W3 (W4.alloc (.cells #[.int .i64 y.f0, .string y.f1, .int .i64 y.f2, .slice B3 y.f3.length d3, .slice B4 y.f4.length d4] 56))) := ⟨below_alloc HB4.out _⟩
                        generalize W4.alloc (.cells #[.int .i64 y.f0, .string y.f1, .int .i64 y.f2, .slice B3 y.f3.length d3, .slice B4 y.f4.length d4] 56) = W5 at HB5 ⊢
                        generalize W4.heap.size = g13
                        have q35 := pw_cell_below HB5.out HQ3.out
                        have hcap : (j : Int) ≤ (c3 : Int) := by have := HCAP.out; omega
                        have hj0 : (0 : Int) ≤ (j : Int) := by omega
                        clear kc
                        go_wp2_with fail
                        go_loopg [98] (j + 1) (fun kq v98 w' => ∃ (m : Nat), v98 = .int .i64 m ∧ Aside0 (m + kq = j + 1) ∧ Aside0 (m ≤ j) ∧ Aside0 (Below W3.heap.size W3 w'))
                        case atStart => exact ⟨0, rfl, ⟨by omega⟩, ⟨Nat.zero_le _⟩, HB5⟩
                        case round =>
                          clear q35 HB5
                          obtain ⟨m, rfl, HKM, HIM, HBM⟩ := hrel
                          cases gk with
                          | zero => exact absurd HKM.out (by have := HIM.out; omega)
                          | succ g2 =>
                            by_cases m0 : m < j
                            · obtain ⟨ad2, ea, km⟩ := int_cell (Kd.C_below HC3'.out HBM.out) m (by have := HJ0.out; omega)
                              obtain rfl := Option.some.inj ea
                              have n0 := HND.out m m0
                              generalize x.f3.getD m 0 = zm at km n0
                              have m1 : decide (m < j) = true := decide_eq_true m0
                              have m2 : decide ((m : Int) < (j : Int)) = true := decide_eq_true (by omega)
                              have w0 : (0 ≤ (m : Int)) = True := eq_true (by omega)
                              have w1 : ((m : Int) < (j : Int)) = True := eq_true (by omega)
                              have HM0 := Aside0.mk m0
                              clear m0
                              go_wp2_with fail
                              go_roundg g2
                              case measure => have := HKM.out; omega
                              case rel => exact ⟨m + 1, (by have := HM0.out; have := HJ0.out; have := HX3.out; congr 1; unfold wrap64; omega), ⟨by have := HKM.out; omega⟩, ⟨HM0.out⟩, HBM⟩
                            · have m1 : decide (m < j) = false := decide_eq_false m0
                              have m2 : decide ((m : Int) < (j : Int)) = false := decide_eq_false (by omega)
                              clear m0
                              go_wp2_with fail
                              go_roundg g1
                              case measure => have := HKJ.out; omega
                              case rel => exact ⟨j + 1, (by have := HJ0.out; have := HX3.out; congr 1; unfold wrap64; omega), ⟨by have := HKJ.out; omega⟩, ⟨HJ0.out⟩, HBM⟩
                      · have e1 : decide (j < x.f3.length) = false := decide_eq_false e0
                        have e2 : decide ((j : Int) < (x.f3.length : Int)) = false := decide_eq_false (by omega)
                        have q3j := pw_cell_below HBJ.out HQ3.out
                        have q4j := pw_cell_below HBJ.out HQ4.out
                        have hk1 := (HSU.out.2.2 id).1
                        have hk2 := (HSU.out.2.2 id).2 (by have := HI.out; omega)
                        have HKT : Aside0 (wrap64 (ksum f id + (x.f3.length : Int)) = ksum f (id + 1)) := ⟨by
                          rw [HKS.out, HL.out]
                          show wrap64 (ksum f id + (x.f3.length : Int)) = ksum f id + (x.f3.length : Int)
                          have := HX3.out
                          unfold wrap64; omega⟩
                        clear e0 hk1 hk2
                        go_upto_region 33 with (fail)
                        rw [HKT.out]
                        obtain ⟨S, hS⟩ : ∃ S, S = ksum f (id + 1) := ⟨_, rfl⟩
                        rw [← hS]
                        have HSS := Aside0.mk hS
                        clear hS q3j
                        go_wp2_with fail
                        go_loopg [115] (x.f4.length + 1) (fun kq v115 w' => ∃ (m : Nat), v115 = .int .i64 m ∧ Aside0 (m + kq = x.f4.length + 1) ∧ Aside0 (m ≤ x.f4.length) ∧ Aside0 (Below W3.heap.size W3 w'))
                        case atStart => exact ⟨0, rfl, ⟨by omega⟩, ⟨Nat.zero_le _⟩, HBJ⟩
                        case round =>
                          clear q4j
                          obtain ⟨m, rfl, HKM, HIM, HBM⟩ := hrel
                          cases gk with
                          | zero => exact absurd HKM.out (by have := HIM.out; omega)
                          | succ g2 =>
                            by_cases m0 : m < x.f4.length
                            · obtain ⟨ad, rfl, ka0, ka1⟩ := at_T64 (Kd.C_below HC4'.out HBM.out) (m : Int) (by omega) (by omega)
                              rw [Int.toNat_natCast] at ka0 ka1
                              have hatt := HG.out.att _ x HL.out
                              have ea : rd_T64 x.f4 (m : Nat) = x.f4[m] := rd_get x.f4 m m0
                              have HAV : Aside0 (attrV ((look f (id : Int)).getD z56).f4 (rd_T64 x.f4 (m : Nat)).f0 = ((rd_T64 x.f4 (m : Nat)).f1, true)) := ⟨by rw [HL.out, ea]; exact attrV_self hatt.1 m0⟩
                              have HPV : Aside0 (∀ p : Nat, m = p + 1 → Op.bytesLess (rd_T64 x.f4 (p : Nat)).f0.toList (rd_T64 x.f4 (m : Nat)).f0.toList = true) := ⟨fun p hp => by
                                rw [ea, rd_get x.f4 p (by omega)]
                                exact hatt.1.lt (i := p) (j := m) (by omega) m0⟩
                              have HMX := Aside0.mk hatt.2
                              generalize rd_T64 x.f4 (m : Nat) = a at ka0 ka1 HAV HPV
                              have m1 : decide (m < x.f4.length) = true := decide_eq_true m0
                              have m2 : decide ((m : Int) < (x.f4.length : Int)) = true := decide_eq_true (by omega)
                              have w0 : (0 ≤ (m : Int)) = True := eq_true (by omega)
                              have w1 : ((m : Int) < (x.f4.length : Int)) = True := eq_true (by omega)
                              have HM0 := Aside0.mk m0
                              have HATT : Aside0 (∀ W : World, Below W3.heap.size W3 W → Calls Try.prog 30 #[v3, .int .i64 (id : Int), .string a.f0] W fun e w' => e = .returned (.tuple #[.string a.f1, .bool true]) ∧ Below W.heap.size W w') := ⟨fun W hW => by
                                have h := attr_calls v3 f next (id : Int) a.f0 _ W HD2.out (below_then HBX.out HBX.out.size hW) (HG.out.sizes _).2 (HG.out.mono _ _)
                                rw [HAV.out] at h
                                exact h⟩
                              clear m0 hatt ea
                              go_upto_region 36 with (fail)
                              have HB6 : Aside0 (Below W3.heap.size W3 (wr.alloc (.cells #[.string a.f0, .string a.f1] 64))) := ⟨below_alloc HBM.out _⟩
                              have HB7 : Aside0 (Below wr.heap.size wr (wr.alloc (.cells #[.string a.f0, .string a.f1] 64))) := ⟨below_alloc (Below.refl _ _) _⟩
                              have r0 : (wr.alloc (.cells #[.string a.f0, .string a.f1] 64)).cell? ⟨wr.heap.size, 0, none⟩ = some (.string a.f0) := (blk_cell (blk_new wr _) 0).trans rfl
                              have r1 : (wr.alloc (.cells #[.string a.f0, .string a.f1] 64)).cell? ⟨wr.heap.size, 1, none⟩ = some (.string a.f1) := (blk_cell (blk_new wr _) 1).trans rfl
                              generalize wr.alloc (.cells #[.string a.f0, .string a.f1] 64) = W6 at HB6 HB7 r0 r1 ⊢
                              generalize wr.heap.size = g18 at HB7 r0 r1 ⊢
                              go_upto_region 37 with (first | (go_at_call 30; (with_reducible refine (HATT.out _ HB6.out).mono ?_); rintro e W8 ⟨rfl, hb8⟩; have HB8 := Aside0.mk (below_then HB6.out HB6.out.size hb8); have r08 := pw_cell_below hb8 r0; have r18 := pw_cell_below hb8 r1; have HB68 := Aside0.mk hb8; clear hb8) | fail)
                              have q48 := pw_cell_below HB8.out HQ4.out
                              cases m with
                              | zero =>
                                have x0 : decide ((0 : Int) < ((0 : Nat) : Int)) = false := rfl
                                clear r0 r1 ka0 ka1 q48
                                go_quiet (fail)
                                all_goals
                                  go_wp2_with fail
                                  go_roundg g2
                                  case measure => have := HKM.out; omega
                                  case rel => exact ⟨0 + 1, (by first | rfl | (have := HMX.out; have := HM0.out; congr 1; unfold wrap64; omega)), ⟨by have := HKM.out; omega⟩, ⟨HM0.out⟩, ⟨below_then HB8.out HB8.out.size (pw_below_drewN (Below.refl _ _) _)⟩⟩
                              | succ p =>
                                obtain ⟨ad2, e2, kb0, _⟩ := at_T64 (Kd.C_below HC4'.out HB8.out) (p : Int) (by omega) (by have := HM0.out; omega)
                                obtain rfl := Option.some.inj e2
                                rw [Int.toNat_natCast] at kb0
                                have hlt := HPV.out p rfl
                                generalize (rd_T64 x.f4 (p : Nat)).f0 = s at kb0 hlt
                                clear e2
                                have x0 : decide ((0 : Int) < ((p + 1 : Nat) : Int)) = true := decide_eq_true (by omega)
                                have x0' : decide (0 < p + 1) = true := decide_eq_true (by omega)
                                have x0'' : decide ((0 : Int) < (p : Int) + 1) = true := decide_eq_true (by omega)
                                have x1 : ((p + 1 : Nat) : Int) - 1 = (p : Int) := by omega
                                have x2 : (0 : Int) ≤ (p : Int) := by omega
                                have x3 : (p : Int) < (x.f4.length : Int) := by have := HM0.out; omega
                                have x5 : p < x.f4.length := by have := HM0.out; omega
                                have x6 : (p : Int) < 9223372036854775806 := by have := HM0.out; have := HMX.out; omega
                                clear r0 r1 ka0 ka1
                                go_quiet (fail)
                                all_goals
                                  go_wp2_with fail
                                  go_roundg g2
                                  case measure => have := HKM.out; omega
                                  case rel => exact ⟨p + 1 + 1, (by first | rfl | (have := HMX.out; have := HM0.out; congr 1; unfold wrap64; omega)), ⟨by have := HKM.out; omega⟩, ⟨HM0.out⟩, ⟨below_then HB8.out HB8.out.size (pw_below_drewN (Below.refl _ _) _)⟩⟩
                            · have m1 : decide (m < x.f4.length) = false := decide_eq_false m0
                              have m2 : decide ((m : Int) < (x.f4.length : Int)) = false := decide_eq_false (by omega)
                              clear m0
                              go_wp2_with fail
                              go_roundg g0
                              case measure => have := HK.out; omega
                              case rel => exact ⟨id + 1, (by have := HI0.out; congr 1; unfold wrap64; omega), (by rw [HSS.out]), ⟨by have := HK.out; omega⟩, ⟨by have := HI.out; have := HI0.out; omega⟩, ⟨below_then HB2.out HB2.out.size (below_then HBX.out HBX.out.size HBM.out)⟩⟩
              · have c1 : decide ((id : Int) < next) = false := decide_eq_false c0
                have HEQ : Aside0 (ksum f id = wrap64 (cnt 1048576 f - 1)) := ⟨by rw [← HSU.out.2.1, show id = next.toNat by have := HI.out; omega]⟩
                have d9 : (ksum f id == wrap64 (cnt 1048576 f - 1)) = true := by rw [HEQ.out]; simp
                generalize ksum f id = S at d9
                clear c0
                go_wp2_with (first
                  | (go_at_call 27; refine (dnext_calls v3 f next wr HD2.out).mono ?_; rintro e W1 ⟨rfl, hb1⟩; have HB1 := Aside0.mk hb1; clear hb1)
                  | (go_at_call 26; refine (dlen_calls v3 f next W1 (HD2.out.below HB1.out)).mono ?_; rintro e W2 ⟨rfl, hb2⟩; have HB2x := Aside0.mk (below_then HB1.out HB1.out.size hb2); clear hb2)
                  | (go_at_call 15; refine (lives_calls _).mono ?_; rintro e W3 ⟨rfl, hb3⟩; have HB3x := Aside0.mk (below_then HBW.out HBW.out.size (below_then HB2x.out HB2x.out.size hb3)); clear hb3)
                  | fail)
                go_ret
                exact ⟨rfl, HB3x.out⟩
end Go.Proofs.Ytmkakofnabfinaa.P
end
section
set_option linter.unusedVariables false
set_option linter.unusedSimpArgs false
namespace Go.Proofs.Ytmkakofnabfinaa.P
open Go.RowKit Go.Proofs.YtmkakofnabfinaaW.PrintWords Go.Proofs.YtmkakofnabfinaaW.PrintLast Go.Proofs.YtmkakofnabfinaaW.PrintMore
attribute [local go_sem] max2_int min2_int max_two min_two max_three min_three max_four min_four
set_option linter.unusedVariables false
set_option linter.unusedSimpArgs false
def flatK (f : Nat → Option S56) (n : Nat) : List Int := (List.range n).flatMap fun k : Nat => ((look f (k : Int)).getD z56).f3
theorem ksum_flat (f : Nat → Option S56) : ∀ n, ksum f n = (flatK f n).length
  | 0 => rfl
  | n + 1 => by
    unfold flatK
    rw [List.range_succ, List.flatMap_append, List.length_append]
    have h := ksum_flat f n
    unfold flatK at h
    simp only [ksum, h, List.flatMap_cons, List.flatMap_nil, List.append_nil]
    omega
theorem flat_nodup {f : Nat → Option S56} {next : Int} (h : Good f next) : ∀ n, (flatK f n).Nodup ∧ ∀ c, c ∈ flatK f n ↔ ∃ x, look f c = some x ∧ c ≠ 1 ∧ 0 ≤ x.f2 ∧ x.f2 < n
  | 0 => ⟨by simp [flatK], fun c => ⟨fun hc => by simp [flatK] at hc, fun ⟨x, _, _, h1, h2⟩ => by omega⟩⟩
  | n + 1 => by
    obtain ⟨h1, h2⟩ := flat_nodup h n
    have e : flatK f (n + 1) = flatK f n ++ ((look f (n : Int)).getD z56).f3 := by
      unfold flatK; rw [List.range_succ, List.flatMap_append]; simp
    rw [e]
    cases hn : look f (n : Int) with
    | none =>
      have e0 : ((none : Option S56).getD z56).f3 = [] := rfl
      rw [e0, List.append_nil]
      refine ⟨h1, fun c => (h2 c).trans ⟨fun ⟨x, a1, a2, a3, a4⟩ => ⟨x, a1, a2, a3, by omega⟩, fun ⟨x, a1, a2, a3, a4⟩ => ⟨x, a1, a2, a3, ?_⟩⟩⟩
      rcases Int.lt_or_eq_of_le (show x.f2 ≤ n by omega) with h3 | h3
      · exact h3
      · obtain ⟨p, hp, _⟩ := h.par c x a1 a2
        rw [h3, hn] at hp; cases hp
    | some y =>
      have e0 : ((some y).getD z56).f3 = y.f3 := rfl
      rw [e0]
      refine ⟨List.nodup_append.2 ⟨h1, h.nodup _ y hn, fun a ha b hb e => ?_⟩, fun c => ?_⟩
      · subst e
        obtain ⟨x, a1, a2, a3, a4⟩ := (h2 a).1 ha
        have := h.id_par a1 hn hb
        omega
      · rw [List.mem_append, h2 c]
        constructor
        · rintro (⟨x, a1, a2, a3, a4⟩ | hc)
          · exact ⟨x, a1, a2, a3, by omega⟩
          · obtain ⟨b1, x, b2, b3⟩ := h.kid _ y c hn hc
            exact ⟨x, b2, b1, by omega, by omega⟩
        · rintro ⟨x, a1, a2, a3, a4⟩
          rcases Int.lt_or_eq_of_le (show x.f2 ≤ n by omega) with h3 | h3
          · exact .inl ⟨x, a1, a2, a3, h3⟩
          · obtain ⟨p, hp, hc⟩ := h.par c x a1 a2
            rw [h3, hn] at hp
            obtain rfl := Option.some.inj hp
            exact .inr hc
def domL (f : Nat → Option S56) (n : Nat) : List Int := ((List.range n).filter fun j => (f j).isSome).map Int.ofNat
theorem cnt_dom (f : Nat → Option S56) : ∀ n, cnt n f = (domL f n).length
  | 0 => rfl
  | n + 1 => by
    have h := cnt_dom f n
    unfold domL at h ⊢
    rw [List.range_succ, List.filter_append, List.map_append, List.length_append]
    simp only [cnt, h]
    unfold one
    cases hf : (f n).isSome with
    | true => simp [hf]
    | false => simp [hf]
theorem dom_mem (f : Nat → Option S56) (c : Int) : c ∈ domL f 1048576 ↔ ∃ x, look f c = some x := by
  unfold domL
  rw [List.mem_map]
  constructor
  · rintro ⟨j, hj, rfl⟩
    rw [List.mem_filter, List.mem_range] at hj
    obtain ⟨x, hx⟩ := Option.isSome_iff_exists.1 hj.2
    exact ⟨x, by show look f (j : Int) = _; rw [look_nat f j hj.1]; exact hx⟩
  · rintro ⟨x, hx⟩
    by_cases hr : 0 ≤ c ∧ c < 1048576
    · refine ⟨c.toNat, ?_, by show ((c.toNat : Nat) : Int) = c; omega⟩
      rw [List.mem_filter, List.mem_range]
      refine ⟨by omega, ?_⟩
      have := look_nat f c.toNat (by omega)
      rw [show ((c.toNat : Nat) : Int) = c by omega, hx] at this
      rw [← this]; rfl
    · rw [look_out f c (by omega)] at hx; cases hx
theorem dom_nodup (f : Nat → Option S56) (n : Nat) : (domL f n).Nodup := by
  unfold domL
  refine List.pairwise_map.2 (List.Pairwise.imp ?_ (List.Pairwise.filter _ List.nodup_range))
  intro a b hab e
  exact hab (by have := Int.ofNat.inj e; exact this)
theorem kids_all (f : Nat → Option S56) (next : Int) (h : Good f next) : 0 ≤ ksum f next.toNat ∧ ksum f next.toNat = wrap64 (cnt 1048576 f - 1) ∧ ∀ n, 0 ≤ ksum f n ∧ (n ≤ 1048576 → ksum f n ≤ 1099511627776) := by
  obtain ⟨h1, h2⟩ := flat_nodup h next.toNat
  obtain ⟨r, hr, _⟩ := h.root
  have h1m : (1 : Int) ∈ domL f 1048576 := (dom_mem f 1).2 ⟨r, hr⟩
  have hp : (flatK f next.toNat).Perm ((domL f 1048576).erase 1) := by
    refine (List.perm_ext_iff_of_nodup h1 ((dom_nodup f _).erase _)).2 (fun c => ?_)
    rw [h2 c, List.Nodup.mem_erase_iff (dom_nodup f _), dom_mem]
    constructor
    · rintro ⟨x, a1, a2, _, _⟩
      exact ⟨a2, x, a1⟩
    · rintro ⟨a2, x, a1⟩
      obtain ⟨p, hp, _⟩ := h.par c x a1 a2
      have := h.dom _ p hp
      exact ⟨x, a1, a2, by omega, by omega⟩
  have hl := hp.length_eq
  rw [List.length_erase_of_mem h1m] at hl
  have hpos : 0 < (domL f 1048576).length := List.length_pos_of_mem h1m
  have hc := cnt_range 1048576 f
  refine ⟨by rw [ksum_flat]; omega, ?_, fun n => ⟨by rw [ksum_flat]; omega, ?_⟩⟩
  · rw [ksum_flat, hl]
    rw [cnt_dom] at hc ⊢
    unfold wrap64; omega
  · intro hn
    have key : ∀ n : Nat, ksum f n ≤ 1048576 * n := by
      intro n
      induction n with
      | zero => exact Int.le_refl _
      | succ n ih =>
        simp only [ksum]
        have : ((look f (n : Int)).getD z56).f3.length ≤ 1048576 := by
          cases e : look f (n : Int) with
          | none => show 0 ≤ _; omega
          | some x => exact h.kids_le e
        omega
    have := key n
    omega
theorem lawDomShape.calls (k : Unit) (A : Option Addr) (c : Nat) (l : List S44) (r : Bool) (w : World) (hC : Kd.C k44 w A l.length l) (hc : l.length ≤ c) (h : ∀ p, p ∈ l → p.f4.size ≤ 140737488351232 ∧ p.f5.size ≤ 140737488351232) :
    Calls Try.prog 8 #[.slice A l.length c] w fun e w' => e = .returned (.bool true) ∧ Below w.heap.size w w' :=
  shape_calls l A c w hC hc (fun p hp => by have := (h p hp).2; omega) kids_all
theorem pure_DomShape (l : List S44) (h : ∀ p, p ∈ l → p.f4.size ≤ 140737488351232 ∧ p.f5.size ≤ 140737488351232) : ∃ k : Unit, ∀ p, p ∈ l → p.f4.size ≤ 140737488351232 ∧ p.f5.size ≤ 140737488351232 := ⟨(), h⟩
end Go.Proofs.Ytmkakofnabfinaa.P
end
