/- WalkOnce: for every input the law returns true, and each argument reads behind the call as it read before. -/
import Derived.Test.YtpnlbmeeihbjaaaZWC11
import Derived.Test.YtpnlbmeeihbjaaaZWC12
import Derived.Test.YtpnlbmeeihbjaaaZWC14
import Derived.Shelf.RegionOpenPlain
import Derived.Lib.Overlaps
import Derived.Lib.AppendZerosOnto
import Derived.Laws.NewBlocks
import Derived.Laws.Externs
import Derived.Laws.IdiomCopy
section
set_option linter.unusedVariables false
set_option linter.unusedSimpArgs false
namespace Go.Proofs.Ytpnlbmeeihbjaaa.P
open Go.RowKit Go.Proofs.YtpnlbmeeihbjaaaW.PrintWords Go.Proofs.YtpnlbmeeihbjaaaW.PrintLast Go.Proofs.YtpnlbmeeihbjaaaW.PrintMore
attribute [local go_sem] max2_int min2_int max_two min_two max_three min_three max_four min_four
set_option linter.unusedVariables false
set_option linter.unusedSimpArgs false
open Go.Shelf Go.Lib
def cs64 (l : List S70) : List Value := l.flatMap fun x => [.string x.f0, .string x.f1]
theorem cs64_len (l : List S70) : (cs64 l).length = l.length * 2 := by
  unfold cs64; induction l with
  | nil => rfl
  | cons x r ih => simp only [List.flatMap_cons, List.length_append, List.length_cons, List.length_nil, ih]; omega
theorem cs64_append (l m : List S70) : cs64 (l ++ m) = cs64 l ++ cs64 m := by unfold cs64; simp
theorem cs64_take (l : List S70) (i : Nat) : (cs64 l).take (i * 2) = cs64 (l.take i) := by
  by_cases h : i ≤ l.length
  · conv => lhs; rw [← List.take_append_drop i l]
    rw [cs64_append, List.take_append_of_le_length (by rw [cs64_len, List.length_take]; omega), List.take_of_length_le (by rw [cs64_len, List.length_take]; omega)]
  · rw [List.take_of_length_le (by rw [cs64_len]; omega), List.take_of_length_le (by omega)]
theorem cs64_drop (l : List S70) (i : Nat) : (cs64 l).drop (i * 2) = cs64 (l.drop i) := by
  by_cases h : i ≤ l.length
  · conv => lhs; rw [← List.take_append_drop i l]
    rw [cs64_append, List.drop_append_of_le_length (by rw [cs64_len, List.length_take]; omega), List.drop_of_length_le (by rw [cs64_len, List.length_take]; omega), List.nil_append]
  · rw [List.drop_of_length_le (by rw [cs64_len]; omega), List.drop_of_length_le (by omega)]; rfl
theorem cs64_one (l : List S70) : ∀ u ∈ cs64 l, u.oneCell' = true := by
  intro u hu
  unfold cs64 at hu
  rw [List.mem_flatMap] at hu
  obtain ⟨x, _, hx⟩ := hu
  simp only [List.mem_cons, List.not_mem_nil, or_false] at hx
  rcases hx with rfl | rfl <;> rfl
theorem reps64 {w : World} {base : Nat} {ok : Nat → Prop} : ∀ {l : List S70} {cs : List Value}, Reps (k70.M w base ok) 2 l cs → cs = cs64 l
  | [], cs, h => by
    have := h.1
    exact List.eq_nil_of_length_eq_zero (by simpa using this)
  | x :: r, cs, h => by
    obtain ⟨hl, hr⟩ := h
    have h0 := k70_openM (hr 0 x rfl)
    simp only [Nat.zero_mul, List.drop_zero] at h0
    have ih : cs.drop 2 = cs64 r := reps64 (w := w) (base := base) (ok := ok) ⟨by rw [List.length_drop, hl, List.length_cons]; omega, fun j p hj => by
      have := hr (j + 1) p (by simpa using hj)
      rw [List.drop_drop, show 2 + j * 2 = (j + 1) * 2 by omega]
      exact this⟩
    rw [← List.take_append_drop 2 cs, h0, ih]
    rfl
theorem reps64_mk (w : World) (base : Nat) (ok : Nat → Prop) (l : List S70) : Reps (k70.M w base ok) 2 l (cs64 l) := by
  refine ⟨cs64_len l, fun j p hj => ?_⟩
  rw [cs64_drop, show (2 : Nat) = 1 * 2 from rfl, cs64_take]
  obtain ⟨hlt, hp⟩ := List.getElem?_eq_some_iff.1 hj
  rw [List.drop_eq_getElem_cons hlt, hp]
  exact k70_mkM _ _ _ p
theorem R64_open {w : World} {base : Nat} {ok : Nat → Prop} {v : Value} {l : List S70} (h : Kd.R k70 70 w base ok v l) : (∀ k, v.ownBlock = some k → ok k) ∧ w.ownsRow base 70 2 v l.length (cs64 l) := by
  obtain ⟨h1, inner, h2, h3⟩ := h
  have e := reps64 h3
  subst e
  exact ⟨h1, h2⟩
theorem R64_mk {w : World} {base : Nat} {ok : Nat → Prop} {v : Value} {l : List S70} (h1 : ∀ k, v.ownBlock = some k → ok k) (h2 : w.ownsRow base 70 2 v l.length (cs64 l)) : Kd.R k70 70 w base ok v l :=
  ⟨h1, cs64 l, h2, reps64_mk _ _ _ l⟩
theorem R64_laid {W : World} {base g n cap : Nat} {cur : Array Value} {xs : List S70} (hg : base ≤ g) (hb : W.heap[g]? = some (.cells cur 70 (0, 0))) (hn : xs.length = n) (hc : n ≤ cap) (hm : cap ≤ maxLen) (hs : cur.size = cap * 2) (ht : cur.toList.take (n * 2) = cs64 xs) (ok : Nat → Prop) (hok : ok g) :
    Kd.R k70 70 W base ok (.slice (some ⟨g, 0, none⟩) n cap) xs := by
  subst hn
  exact R64_mk (fun k hk => by
    have : g = k := by simpa [Value.ownBlock] using hk
    exact this ▸ hok) ⟨cs64_len xs, .inr ⟨g, cap, cur, rfl, hg, hb, hc, hm, hs, ht⟩⟩
theorem run_copy_wide {P : Program} (w : World) (dT sT ty elem : TypeId) (z b o dLen dCap : Nat) (a : Addr) (sLen sCap : Nat) (cs : List Value)
    (hu : P.underlying dT = some (.slice elem)) (hs : (P.info? elem).map (·.size) = some z) (hn : cs.length = Nat.min sLen dLen * z)
    (hsrc : ∀ j v, cs[j]? = some v → w.cell? (a.add j) = some v) (hc : ∀ j, j < cs.length → (w.cell? ⟨b, o + j, none⟩).isSome = true) (hf : ∀ j, j < cs.length → w.frozen? ⟨b, o + j, none⟩ = false) (h1 : ∀ v ∈ cs, v.oneCell' = true) :
    (Builtin.copy_ #[dT, sT] ty #[.slice (some ⟨b, o, none⟩) dLen dCap, .slice (some a) sLen sCap]).run P w = .ok (goInt (Nat.min sLen dLen)) (w.setCells b o cs) := by
  have hl := run_loadCells_list (P := P) w a cs hsrc
  have hst := run_storeCells_cells (P := P) b o cs 0 w (by simpa using hc) (by simpa using hf) h1
  cases hq : P.info? elem with
  | none => simp [hq] at hs
  | some i =>
    have hi : i.size = z := by simpa [hq] using hs
    rw [hn] at hl
    simp [Builtin.copy_, run_underlying hu, Builtin.lenOf, Builtin.firstCells, sizeOf, typeInfo, hq, hi, hl, hst]
theorem size64 : (Try.prog.info? 70).map (·.size) = some 2 := by kernel_rfl
theorem sizeOf64 (w : World) : (sizeOf 70).run Try.prog w = .ok 2 w := by kernel_rfl
theorem ovl_apart (w : World) (b off n c vb : Nat) (x0 x1 : Value) (cur : Array Value) (hvb : w.heap[vb]? = some (.cells #[x0, x1] 70 (0, 0))) (hb : w.heap[b]? = some (.cells cur 70 (0, 0))) (hne : vb ≠ b) (h0 : cur.size ≠ 0) :
    (callFunc 92 #[.slice (some ⟨vb, 0, none⟩) 1 1, .slice (some ⟨b, off, none⟩) n c]).run Try.prog w = .ok (.value (.bool false)) w := by
  rw [run_callFunc_extern Try.func92 (by kernel_rfl) (by kernel_rfl) (by kernel_rfl) (e := Extern.SlicesOverlaps.overlaps #[38, 38] #[4]) (by kernel_rfl),
      Lib.run_overlaps_apart w 38 4 70 Try.underlying38 2 (sizeOf64) ⟨vb, 0, none⟩ ⟨b, off, none⟩ 1 1 n c hne 70 70 2 cur.size (by simp [World.shape?, hvb]) (by simp [World.shape?, hb]) h0 (blk_frozen hvb 0) (blk_frozen hvb 2)]
  rfl
set_option maxHeartbeats 4000000 in
set_option maxRecDepth 100000 in
theorem insA_shift (b n c i vb : Nat) (x0 x1 : Value) (cur : Array Value) (cs : List Value) (w : World) (hi : i < n) (hroom : n + 1 ≤ c) (hc63 : c ≤ 9223372036854775807) (hvb : vb ≠ b)
    (hv : w.heap[vb]? = some (.cells #[x0, x1] 70 (0, 0))) (hb : w.heap[b]? = some (.cells cur 70 (0, 0))) (hsz : cur.size = c * 2) (hcs : cur.toList.take (n * 2) = cs) (h1c : ∀ v ∈ cs, v.oneCell' = true) (h1v : x0.oneCell' = true ∧ x1.oneCell' = true) :
    Calls Try.prog 64 #[.slice (some ⟨b, 0, none⟩) n c, .int .i64 i, .slice (some ⟨vb, 0, none⟩) 1 1] w fun e w' =>
      e = .returned (.slice (some ⟨b, 0, none⟩) (n + 1) c) ∧ w' = (w.drew.setCells b ((i + 1) * 2) (cs.drop (i * 2))).setCells b (i * 2) [x0, x1] := by
  have hu38 := Try.underlying38
  have hcl : cur.toList.length = c * 2 := by simpa using hsz
  have hcsl : cs.length = n * 2 := by rw [← hcs, List.length_take, hcl]; omega
  have hdl : (cs.drop (i * 2)).length = (n - i) * 2 := by rw [List.length_drop, hcsl]; omega
  have hcell : ∀ j v, cs[j]? = some v → w.cell? ⟨b, j, none⟩ = some v := fun j v hj => by
    rw [blk_cell hb j, ← Array.getElem?_toList]
    rw [← hcs, List.getElem?_take] at hj
    split at hj
    · exact hj
    · cases hj
  have hsp : ∀ j, j < c * 2 → (w.cell? ⟨b, j, none⟩).isSome = true := fun j hj => by rw [blk_cell hb j, Array.getElem?_eq_getElem (by omega)]; rfl
  have hfz : ∀ j, w.frozen? ⟨b, j, none⟩ = false := fun j => blk_frozen hb j
  have hov : ∀ lb cb off, (callFunc 92 #[.slice (some ⟨vb, 0, none⟩) 1 1, .slice (some ⟨b, off, none⟩) lb cb]).run Try.prog w = .ok (.value (.bool false)) w := fun lb cb off => ovl_apart w b off lb cb vb x0 x1 cur hv hb hvb (by omega)
  have hz2 : ¬ ((i : Int) = (n : Int)) := by omega
  have hw1 : IntKind.i64.wrap ((i : Int) + 1) = (i : Int) + 1 := by rw [IntKind.wrap_i64]; omega
  have hb1 : (0 : Int) ≤ (i : Int) + 1 := by omega
  have hin : i ≤ n := by omega
  have htn : ((i : Int) + 1).toNat = i + 1 := by omega
  have hb2 : ¬ (c = i + 1) := by omega
  have hb4 : ¬ (c = i) := by omega
  have hb3 : (i : Int) ≤ (n : Int) + 1 := by omega
  have mixed : Try.prog.follows Departure.mixedOrders = true := by kernel_rfl
  have hcp1 : ∀ ty dc sc, (Builtin.copy_ #[38, 38] ty #[.slice (some ⟨b, (i + 1) * 2, none⟩) (n - i) dc, .slice (some ⟨b, i * 2, none⟩) (n + 1 - i) sc]).run Try.prog w.drew = .ok (goInt (Nat.min (n + 1 - i) (n - i))) (w.drew.setCells b ((i + 1) * 2) (cs.drop (i * 2))) := fun ty dc sc =>
    run_copy_wide w.drew _ _ ty 70 2 b ((i + 1) * 2) (n - i) dc ⟨b, i * 2, none⟩ (n + 1 - i) sc (cs.drop (i * 2)) hu38 size64 (by rw [hdl, show Nat.min (n + 1 - i) (n - i) = n - i by simp only [Nat.min_def]; split <;> omega])
      (fun j v hj => by rw [Addr.add_lit]; exact hcell (i * 2 + j) v (by rwa [List.getElem?_drop] at hj))
      (fun j hj => hsp _ (by omega)) (fun j hj => hfz _) (fun v hv => h1c v (List.mem_of_mem_drop hv))
  obtain ⟨W1, hW1⟩ : ∃ W1, W1 = w.drew.setCells b ((i + 1) * 2) (cs.drop (i * 2)) := ⟨_, rfl⟩
  have hsp1 : ∀ k, k < c * 2 → (W1.cell? ⟨b, k, none⟩).isSome = true := fun k hk => by
    rw [hW1]
    exact isSome_setCells b (cs.drop (i * 2)) ((i + 1) * 2) w.drew (fun j hj => hsp _ (by rw [hdl] at hj; omega)) k (hsp k hk)
  have hvl : [x0, x1].length = 2 := rfl
  have hcp2 : ∀ (W : World), (∀ x, W.cell? x = W1.cell? x) → (∀ x, W.frozen? x = W1.frozen? x) → ∀ ty dc, (Builtin.copy_ #[38, 38] ty #[.slice (some ⟨b, i * 2, none⟩) (n + 1 - i) dc, .slice (some ⟨vb, 0, none⟩) 1 1]).run Try.prog W = .ok (goInt (Nat.min 1 (n + 1 - i))) (W.setCells b (i * 2) [x0, x1]) := fun W hWc hWf ty dc =>
    run_copy_wide W _ _ ty 70 2 b (i * 2) (n + 1 - i) dc ⟨vb, 0, none⟩ 1 1 [x0, x1] hu38 size64 (by rw [hvl, show Nat.min 1 (n + 1 - i) = 1 by simp only [Nat.min_def]; split <;> omega])
      (fun j v hj => by
        rw [Addr.add_lit, hWc, hW1, World.cell?_setCells_out b _ _ _ _ (fun h _ => absurd h hvb), Nat.zero_add]
        show w.cell? ⟨vb, j, none⟩ = some v
        rw [blk_cell hv j, ← Array.getElem?_toList]
        exact hj)
      (fun j hj => by rw [hWc]; exact hsp1 _ (by omega)) (fun j hj => by rw [hWf, hW1, World.frozen?_setCells]; exact hfz _) (fun v hv => by
        simp only [List.mem_cons, List.not_mem_nil, or_false] at hv
        rcases hv with rfl | rfl
        · exact h1v.1
        · exact h1v.2)
  rw [← hW1] at hcp1
  clear hvl hcell hcl
  go_enter Try.func64, Try.ntmps64
  go_wp2_with (simp only [hov])
  go_region_law_o (refine step_copy_runI rfl _ _ 38 38 rfl _ _ (by simp [Act.eval, Act.put]) (by simp [Act.eval, Act.put]) (hcp1 _ _ _) ?_)
  go_wp2_with (at_builtin; refine wpList_copy_runI _ rfl _ _ 38 38 rfl _ _ rfl rfl (hcp2 _ (fun _ => rfl) (fun _ => rfl) _ _) ?_)
  go_ret
  first | exact ⟨rfl, rfl⟩ | exact ⟨rfl, by rw [hW1]⟩
set_option maxHeartbeats 4000000 in
set_option maxRecDepth 100000 in
theorem insA_grow (b n c i vb : Nat) (x0 x1 : Value) (cur : Array Value) (cs : List Value) (w : World) (hi : i < n) (hnc : n ≤ c) (hroom : c < n + 1) (hn40 : n ≤ 1099511627776) (hvb : vb ≠ b)
    (hv : w.heap[vb]? = some (.cells #[x0, x1] 70 (0, 0))) (hb : w.heap[b]? = some (.cells cur 70 (0, 0))) (hsz : cur.size = c * 2) (hcs : cur.toList.take (n * 2) = cs) (h1c : ∀ v ∈ cs, v.oneCell' = true) (h1v : x0.oneCell' = true ∧ x1.oneCell' = true) :
    Calls Try.prog 64 #[.slice (some ⟨b, 0, none⟩) n c, .int .i64 i, .slice (some ⟨vb, 0, none⟩) 1 1] w fun e w' => ∃ G ROW,
      e = .returned (.slice (some ⟨w.heap.size, 0, none⟩) (n + 1) G) ∧ n + 1 ≤ G ∧ G ≤ maxLen ∧ ROW.size = G * 2 ∧ ROW.toList.take (i * 2) = cs.take (i * 2) ∧
      w' = (((w.alloc (.cells ROW 70)).drew.setCells w.heap.size (i * 2) [x0, x1]).drew).setCells w.heap.size ((i + 1) * 2) (cs.drop (i * 2)) := by
  have hu38 := Try.underlying38
  have hu3 := Try.underlying3
  have hcl : cur.toList.length = c * 2 := by simpa using hsz
  have hcsl : cs.length = n * 2 := by rw [← hcs, List.length_take, hcl]; omega
  have hdl : (cs.drop (i * 2)).length = (n - i) * 2 := by rw [List.length_drop, hcsl]; omega
  have htl : (cs.take (i * 2)).length = i * 2 := by rw [List.length_take, hcsl]; omega
  have hcell : ∀ j v, cs[j]? = some v → w.cell? ⟨b, j, none⟩ = some v := fun j v hj => by
    rw [blk_cell hb j, ← Array.getElem?_toList]
    rw [← hcs, List.getElem?_take] at hj
    split at hj
    · exact hj
    · cases hj
  have hz2 : ¬ ((i : Int) = (n : Int)) := by omega
  have hz3 : (c : Int) < (n : Int) + 1 := by omega
  have hbw : b < w.heap.size := blk_lt hb
  have hvw : vb < w.heap.size := blk_lt hv
  obtain ⟨i0, hi0, hz0, hzs, hzb⟩ := info_parts info70_
  have hkk : (n : Int) + 1 - (i : Int) = ((n + 1 - i : Nat) : Int) := by omega
  have hik : i + (n + 1 - i) = n + 1 := by omega
  have hold : (Builtin.firstCells i0.size i (.slice (some ⟨b, 0, none⟩) i c)).run Try.prog w.drew = .ok (cs.take (i * 2)).toArray w.drew := by
    rw [hzs]
    exact run_firstCells_some w.drew 2 i ⟨b, 0, none⟩ i c (cs.take (i * 2)) htl (fun j v hj => by
      rw [Addr.add_lit, Nat.zero_add]
      rw [List.getElem?_take] at hj
      split at hj
      · exact hcell j v hj
      · cases hj)
  have hrz : ∀ ty, (Builtin.append_ #[38, 3] ty #[.slice (some ⟨b, 0, none⟩) i c, .int .i64 ((n : Int) + 1 - (i : Int))]).run Try.prog w =
      .ok (.slice (some ⟨w.heap.size, 0, none⟩) (n + 1) (grownCap w (n + 1) c 70)) (w.drew.alloc (.cells ((cs.take (i * 2)).toArray ++ Builtin.zeroCells (Value.agg #[.string ⟨#[]⟩, .string ⟨#[]⟩]).cells (n + 1 - i) ++ Builtin.zeroCells (Value.agg #[.string ⟨#[]⟩, .string ⟨#[]⟩]).cells (grownCap w (n + 1) c 70 - (n + 1))) 70)) := fun ty => by
    have h := Lib.run_append_grow_zeros w 38 3 ty 70 i0 _ .i64 .i64 hu38 hu3 hi0 hz0 (some ⟨b, 0, none⟩) i c (cs.take (i * 2)) hold (n + 1 - i) (by omega) (by omega) (by omega) (by omega) (by rw [hzb]; omega) (by rw [hzb, hik]; exact growslice_fits hroom (by omega))
    rw [hik] at h
    rw [hkk]
    exact h
  obtain ⟨G, hG⟩ : ∃ G, G = grownCap w (n + 1) c 70 := ⟨_, rfl⟩
  obtain ⟨ROW, hROW⟩ : ∃ ROW : Array Value, ROW = (cs.take (i * 2)).toArray ++ Builtin.zeroCells (Value.agg #[.string ⟨#[]⟩, .string ⟨#[]⟩]).cells (n + 1 - i) ++ Builtin.zeroCells (Value.agg #[.string ⟨#[]⟩, .string ⟨#[]⟩]).cells (G - (n + 1)) := ⟨_, rfl⟩
  rw [← hG] at hrz
  rw [← hROW] at hrz
  have hGn : n + 1 ≤ G := by rw [hG]; exact grownCap_ge w _ _ _
  have hGm : G ≤ maxLen := by rw [hG]; exact grownCap_le_maxLen _ _ _ _ (by unfold maxLen; omega)
  have hRs : ROW.size = G * 2 := by
    rw [hROW, Array.size_append, Array.size_append, size_zeroCells, size_zeroCells]
    show (cs.take (i * 2)).length + (n + 1 - i) * 2 + (G - (n + 1)) * 2 = G * 2
    rw [htl]; omega
  have hRt : ROW.toList.take (i * 2) = cs.take (i * 2) := by
    rw [hROW, Array.toList_append, Array.toList_append, List.append_assoc, List.take_append_of_le_length (by show i * 2 ≤ (cs.take (i * 2)).length; omega)]
    exact List.take_of_length_le (by show (cs.take (i * 2)).length ≤ i * 2; omega)
  obtain ⟨W1, hW1⟩ : ∃ W1, W1 = w.drew.alloc (.cells ROW 70) := ⟨_, rfl⟩
  rw [← hW1] at hrz
  have hN : ∀ j, j < G * 2 → (W1.cell? ⟨w.heap.size, j, none⟩).isSome = true := fun j hj => by
    rw [hW1, World.cell?_alloc_at (w := w.drew) ROW _ w.heap.size j rfl, Array.getElem?_eq_getElem (by omega)]; rfl
  have hNf : ∀ j, W1.frozen? ⟨w.heap.size, j, none⟩ = false := fun j => by rw [hW1]; exact World.frozen?_alloc_at (w := w.drew) ROW _ w.heap.size j rfl
  have hOb : ∀ j v, w.cell? ⟨b, j, none⟩ = some v → W1.cell? ⟨b, j, none⟩ = some v := fun j v h => by rw [hW1, World.cell?_alloc_past (w := w.drew) _ b j hbw]; exact h
  have hOv : ∀ j v, w.cell? ⟨vb, j, none⟩ = some v → W1.cell? ⟨vb, j, none⟩ = some v := fun j v h => by rw [hW1, World.cell?_alloc_past (w := w.drew) _ vb j hvw]; exact h
  have hvl : [x0, x1].length = 2 := rfl
  have hcpA : ∀ (W : World), (∀ x, W.cell? x = W1.cell? x) → (∀ x, W.frozen? x = W1.frozen? x) → ∀ ty dc, (Builtin.copy_ #[38, 38] ty #[.slice (some ⟨w.heap.size, i * 2, none⟩) (n + 1 - i) dc, .slice (some ⟨vb, 0, none⟩) 1 1]).run Try.prog W = .ok (goInt (Nat.min 1 (n + 1 - i))) (W.setCells w.heap.size (i * 2) [x0, x1]) := fun W hWc hWf ty dc =>
    run_copy_wide W _ _ ty 70 2 w.heap.size (i * 2) (n + 1 - i) dc ⟨vb, 0, none⟩ 1 1 [x0, x1] hu38 size64 (by rw [hvl, show Nat.min 1 (n + 1 - i) = 1 by simp only [Nat.min_def]; split <;> omega])
      (fun j v hj => by
        rw [Addr.add_lit, hWc, Nat.zero_add]
        refine hOv _ v ?_
        rw [blk_cell hv j, ← Array.getElem?_toList]
        exact hj)
      (fun j hj => by rw [hWc]; exact hN _ (by omega)) (fun j hj => by rw [hWf]; exact hNf _) (fun v hv => by
        simp only [List.mem_cons, List.not_mem_nil, or_false] at hv
        rcases hv with rfl | rfl
        · exact h1v.1
        · exact h1v.2)
  have hGi : ¬ (G = i) := by omega
  have hGim : ¬ (G = i + 1) := by omega
  have hci : ¬ (c = i) := by omega
  have hbN : b ≠ w.heap.size := by omega
  have hG63 : G ≤ 9223372036854775807 := by unfold maxLen at hGm; exact hGm
  have hcpB : ∀ (W : World), (∀ x, W.cell? x = (W1.setCells w.heap.size (i * 2) [x0, x1]).cell? x) → (∀ x, W.frozen? x = (W1.setCells w.heap.size (i * 2) [x0, x1]).frozen? x) → ∀ ty dc sc, (Builtin.copy_ #[38, 38] ty #[.slice (some ⟨w.heap.size, (i + 1) * 2, none⟩) (n - i) dc, .slice (some ⟨b, i * 2, none⟩) (n - i) sc]).run Try.prog W = .ok (goInt (Nat.min (n - i) (n - i))) (W.setCells w.heap.size ((i + 1) * 2) (cs.drop (i * 2))) := fun W hWc hWf ty dc sc =>
    run_copy_wide W _ _ ty 70 2 w.heap.size ((i + 1) * 2) (n - i) dc ⟨b, i * 2, none⟩ (n - i) sc (cs.drop (i * 2)) hu38 size64 (by rw [hdl, show Nat.min (n - i) (n - i) = n - i by simp only [Nat.min_def]; split <;> omega])
      (fun j v hj => by
        rw [Addr.add_lit, hWc, World.cell?_setCells_out _ _ _ _ _ (fun h _ => absurd h hbN)]
        exact hOb _ v (hcell _ v (by rwa [List.getElem?_drop] at hj)))
      (fun j hj => by
        rw [hdl] at hj
        rw [hWc]
        exact isSome_setCells w.heap.size [x0, x1] (i * 2) W1 (fun t ht => hN _ (by rw [hvl] at ht; omega)) _ (hN _ (by omega)))
      (fun j hj => by rw [hWf, World.frozen?_setCells]; exact hNf _) (fun v hv => h1c v (List.mem_of_mem_drop hv))
  subst hW1
  have hE1 : ∀ x, ((w.alloc (.cells ROW 70)).drew).cell? x = (w.drew.alloc (.cells ROW 70)).cell? x := fun x => rfl
  have hE2 : ∀ x, ((w.alloc (.cells ROW 70)).drew).frozen? x = (w.drew.alloc (.cells ROW 70)).frozen? x := fun x => rfl
  have hF1 : ∀ x, (((w.alloc (.cells ROW 70)).drew.setCells w.heap.size (i * 2) [x0, x1]).drew).cell? x = ((w.drew.alloc (.cells ROW 70)).setCells w.heap.size (i * 2) [x0, x1]).cell? x := fun x => rfl
  have hF2 : ∀ x, (((w.alloc (.cells ROW 70)).drew.setCells w.heap.size (i * 2) [x0, x1]).drew).frozen? x = ((w.drew.alloc (.cells ROW 70)).setCells w.heap.size (i * 2) [x0, x1]).frozen? x := fun x => rfl
  have hw1 : IntKind.i64.wrap ((i : Int) + 1) = (i : Int) + 1 := by rw [IntKind.wrap_i64]; omega
  have hb1 : (0 : Int) ≤ (i : Int) + 1 := by omega
  have hin : i ≤ n := by omega
  have htn : ((i : Int) + 1).toNat = i + 1 := by omega
  have hb3 : (i : Int) ≤ (n : Int) := by omega
  have hb5 : (i : Int) + 1 ≤ (n : Int) + 1 := by omega
  have mixed : Try.prog.follows Departure.mixedOrders = true := by kernel_rfl
  have HFIN := Aside0.mk (And.intro hGn (And.intro hGm (And.intro hRs hRt)))
  clear hkk hik hold hROW hG hRs hRt hGn hGm hdl htl hcsl hcl hcs hcell hvl hOb hOv hN hNf hi0 hz0 hzs hzb
  go_enter Try.func64, Try.ntmps64
  go_wp2_with (first
    | (at_builtin; refine Lib.wpList_append_run _ rfl _ _ _ _ rfl _ _ rfl rfl _ _ (hrz _) ?_)
    | (at_builtin; refine wpList_copy_runI _ rfl _ _ 38 38 rfl _ _ rfl rfl (hcpA _ hE1 hE2 _ _) ?_)
    | (at_builtin; refine wpList_copy_runI _ rfl _ _ 38 38 rfl _ _ rfl rfl (hcpB _ (fun _ => rfl) (fun _ => rfl) _ _ _) ?_))
  go_region_law_o (refine step_copy_runI rfl _ _ 38 38 rfl (.slice (some ⟨w.heap.size, (i + 1) * 2, none⟩) (n - i) (G - (i + 1))) (.slice (some ⟨b, i * 2, none⟩) (n - i) (c - i)) (by simp [Act.eval, Act.put]) (by simp [Act.eval, Act.put]) (hcpB _ hF1 hF2 3 (G - (i + 1)) (c - i)) ?_)
  go_wp2
  go_ret
  exact ⟨G, ROW, rfl, HFIN.out.1, HFIN.out.2.1, HFIN.out.2.2.1, HFIN.out.2.2.2, rfl⟩
theorem ins2_shift (c0 L X : List Value) (p q n : Nat) (hq : q = p + X.length) (hp : p ≤ L.length) (hn : n = L.length + X.length) (hc : n ≤ c0.length) (ht : c0.take L.length = L) :
    ((c0.take q ++ L.drop p ++ c0.drop (q + (L.drop p).length)).take p ++ X ++ (c0.take q ++ L.drop p ++ c0.drop (q + (L.drop p).length)).drop (p + X.length)).take n = L.take p ++ X ++ L.drop p := by
  subst hq
  subst hn
  have h1 : (c0.take (p + X.length)).length = p + X.length := by rw [List.length_take]; omega
  have e1 : (c0.take (p + X.length) ++ L.drop p ++ c0.drop (p + X.length + (L.drop p).length)).take p = L.take p := by
    rw [List.append_assoc, List.take_append_of_le_length (by omega), List.take_take, Nat.min_eq_left (by omega), ← ht, List.take_take, Nat.min_eq_left (by omega)]
  have e2 : (c0.take (p + X.length) ++ L.drop p ++ c0.drop (p + X.length + (L.drop p).length)).drop (p + X.length) = L.drop p ++ c0.drop (p + X.length + (L.drop p).length) := by
    rw [List.append_assoc, List.drop_append_of_le_length (by omega), List.drop_of_length_le (by omega), List.nil_append]
  have hd : (L.drop p).length = L.length - p := List.length_drop
  have htk : (L.take p).length = p := by rw [List.length_take]; omega
  rw [e1, e2, ← List.append_assoc, List.take_append_of_le_length (by simp only [List.length_append]; omega), List.take_of_length_le (by simp only [List.length_append]; omega)]
theorem ins2_grow (R L X : List Value) (p q n : Nat) (hq : q = p + X.length) (hp : p ≤ L.length) (hn : n = L.length + X.length) (hc : n ≤ R.length) (ht : R.take p = L.take p) :
    ((R.take p ++ X ++ R.drop (p + X.length)).take q ++ L.drop p ++ (R.take p ++ X ++ R.drop (p + X.length)).drop (q + (L.drop p).length)).take n = L.take p ++ X ++ L.drop p := by
  subst hq
  subst hn
  have htk : (L.take p).length = p := by rw [List.length_take]; omega
  have hd : (L.drop p).length = L.length - p := List.length_drop
  rw [ht]
  have e1 : (L.take p ++ X ++ R.drop (p + X.length)).take (p + X.length) = L.take p ++ X := by
    rw [List.take_append_of_le_length (by simp only [List.length_append]; omega), List.take_of_length_le (by simp only [List.length_append]; omega)]
  rw [e1, List.take_append_of_le_length (by simp only [List.length_append]; omega), List.take_of_length_le (by simp only [List.length_append]; omega)]
set_option maxHeartbeats 4000000 in
set_option maxRecDepth 100000 in
theorem insA_end (l : List S70) (v : Value) (x : S70) (vb : Nat) (w : World) (base : Nat) (ok : Nat → Prop) (hR : Kd.R k70 70 w base ok v l) (hl : l.length ≤ 1099511627776)
    (hvb : w.heap[vb]? = some (.cells #[.string x.f0, .string x.f1] 70 (0, 0))) (hbase : base ≤ w.heap.size) (hfresh : ∀ k, w.heap.size ≤ k → ok k) :
    Calls Try.prog 64 #[v, .int .i64 (l.length : Nat), .slice (some ⟨vb, 0, none⟩) 1 1] w fun e w' => ∃ v', e = .returned v' ∧ Kd.R k70 70 w' base ok v' (l ++ [x]) ∧ w.grownBy w' v.ownBlock := by
  have HR := Aside0.mk hR
  have HX : Aside0 (Kd.C k70 w (some ⟨vb, 0, none⟩) 1 [x]) := ⟨⟨rfl, (by show 1 ≤ maxLen; unfold maxLen; omega), fun _ => ⟨_, rfl, fun j p hj => by
    cases j with
    | zero =>
      obtain rfl := Option.some.inj hj
      refine ⟨_, rfl, k70_mk w x, fun k u hk => ?_⟩
      rw [Addr.add_lit, Nat.zero_mul, Nat.zero_add, Nat.zero_add, blk_cell hvb k, ← Array.getElem?_toList]
      exact hk
    | succ j => simp at hj⟩⟩⟩
  have HF := Aside0.mk (And.intro hbase (And.intro hfresh hl))
  obtain ⟨A, c, rfl⟩ := Kd.R_slice hR
  have hu38 := Try.underlying38
  obtain ⟨ob, hob⟩ : ∃ ob, ob = (Value.slice A l.length c).ownBlock := ⟨_, rfl⟩
  rw [← hob]
  have HOB := Aside0.mk hob
  clear hR hvb hbase hfresh hl hob
  go_enter Try.func64, Try.ntmps64
  go_wp2_with (first
    | ((with_reducible refine gate_builtin (b := .append) rfl ?_); at_builtin; refine Kd.R_append_rows k70 (w0 := w) base rfl (.tmp 23) (.tmp 24) 38 70 (.agg #[(.string ⟨#[]⟩), (.string ⟨#[]⟩)]) 32 rfl Try.underlying38 info70_ rfl (by decide) (by decide) _ l [x] (some ⟨vb, 0, none⟩) 1 1 ok (fun _ => False) rfl rfl HR.out HX.out (fun x cs h => k70_M h) (fun _ h => h.elim) HF.out.2.1 (Below.refl _ _) HF.out.1 (by have := HF.out.2.2; omega) ?_; intro v7 w7 hR hb7 hgr _; have HR7 := Aside0.mk hR; have HG7 : Aside0 (w.grownBy w7 ob) := ⟨by rw [HOB.out]; exact hgr⟩; clear hR hb7 hgr)
    | fail)
  all_goals
    go_ret
    exact ⟨_, rfl, HR7.out, HG7.out⟩
theorem insertA_calls (l : List S70) (v : Value) (i : Nat) (x : S70) (vb : Nat) (w : World) (base : Nat) (ok : Nat → Prop) (hR : Kd.R k70 70 w base ok v l) (hi : i ≤ l.length) (hl : l.length ≤ 1099511627776)
    (hvb : w.heap[vb]? = some (.cells #[.string x.f0, .string x.f1] 70 (0, 0))) (hne : v.ownBlock ≠ some vb) (hbase : base ≤ w.heap.size) (hfresh : ∀ k, w.heap.size ≤ k → ok k) :
    Calls Try.prog 64 #[v, .int .i64 i, .slice (some ⟨vb, 0, none⟩) 1 1] w fun e w' => ∃ v', e = .returned v' ∧ Kd.R k70 70 w' base ok v' (l.take i ++ [x] ++ l.drop i) ∧ w.grownBy w' v.ownBlock := by
  by_cases hend : i = l.length
  · subst hend
    have h := insA_end l v x vb w base ok hR hl hvb hbase hfresh
    rw [show l.take l.length ++ [x] ++ l.drop l.length = l ++ [x] by simp]
    exact h
  · obtain ⟨hok, hlen, h⟩ := R64_open hR
    rcases h with ⟨rfl, hn⟩ | ⟨g, cap, cur, rfl, hg, hb, hnc, hcm, hcs, htake⟩
    · omega
    · have hlt : i < l.length := by omega
      have hgv : vb ≠ g := fun e => hne (by rw [e]; rfl)
      have hokg : ok g := hok g rfl
      have hres : cs64 (l.take i ++ [x] ++ l.drop i) = (cs64 l).take (i * 2) ++ [.string x.f0, .string x.f1] ++ (cs64 l).drop (i * 2) := by
        rw [cs64_append, cs64_append, cs64_take, cs64_drop]; rfl
      have hmlen : (l.take i ++ [x] ++ l.drop i).length = l.length + 1 := by simp; omega
      have hcl : cur.toList.length = cap * 2 := by simpa using hcs
      have hX : [Value.string x.f0, Value.string x.f1].length = 2 := rfl
      by_cases hroom : l.length + 1 ≤ cap
      · refine (insA_shift g l.length cap i vb (.string x.f0) (.string x.f1) cur (cs64 l) w hlt hroom (by unfold maxLen at hcm; exact hcm) hgv hvb hb hcs htake (cs64_one l) ⟨rfl, rfl⟩).mono ?_
        rintro e w' ⟨rfl, rfl⟩
        obtain ⟨cur', hb', hs', ht'⟩ := setCells_row ((cs64 l).drop (i * 2)) ((i + 1) * 2) w.drew cur hb (by rw [List.length_drop, cs64_len]; omega)
        obtain ⟨cur2, hb2, hs2, ht2⟩ := setCells_row [Value.string x.f0, Value.string x.f1] (i * 2) (w.drew.setCells g ((i + 1) * 2) ((cs64 l).drop (i * 2))) cur' hb' (by rw [hs', hX]; omega)
        refine ⟨_, rfl, R64_laid hg hb2 hmlen hroom hcm (by rw [hs2, hs']; exact hcs) ?_ ok hokg, ?_⟩
        · rw [hres, ht2, ht']
          exact ins2_shift cur.toList (cs64 l) _ (i * 2) ((i + 1) * 2) ((l.length + 1) * 2) (by rw [hX]; omega) (by rw [cs64_len]; omega) (by rw [cs64_len, hX]; omega) (by omega) (by rw [cs64_len]; exact htake)
        · have h0 := setCells_grown w.drew g ((i + 1) * 2) ((cs64 l).drop (i * 2))
          have h0' : w.grownBy (w.drew.setCells g ((i + 1) * 2) ((cs64 l).drop (i * 2))) (some g) := ⟨h0.os, h0.tape, h0.output, h0.size, h0.block⟩
          exact grown_two h0' (setCells_grown _ g _ _)
      · refine (insA_grow g l.length cap i vb (.string x.f0) (.string x.f1) cur (cs64 l) w hlt hnc (by omega) hl hgv hvb hb hcs htake (cs64_one l) ⟨rfl, rfl⟩).mono ?_
        rintro e w' ⟨G, ROW, rfl, hGn, hGm, hRs, hRt, rfl⟩
        have hal : ROW.toList.length = G * 2 := by rw [Array.length_toList]; exact hRs
        have hb0 : (w.alloc (.cells ROW 70)).drew.heap[w.heap.size]? = some (.cells ROW 70 (0, 0)) := heap_alloc_new w _
        obtain ⟨cur', hb', hs', ht'⟩ := setCells_row [Value.string x.f0, Value.string x.f1] (i * 2) (w.alloc (.cells ROW 70)).drew ROW hb0 (by rw [hX]; omega)
        obtain ⟨cur2, hb2, hs2, ht2⟩ := setCells_row ((cs64 l).drop (i * 2)) ((i + 1) * 2) ((w.alloc (.cells ROW 70)).drew.setCells w.heap.size (i * 2) [Value.string x.f0, Value.string x.f1]).drew cur' hb' (by rw [hs', List.length_drop, cs64_len]; omega)
        refine ⟨_, rfl, R64_laid hbase hb2 hmlen hGn hGm (by rw [hs2, hs']; exact hRs) ?_ ok (hfresh _ (Nat.le_refl _)), ?_⟩
        · rw [hres, ht2, ht']
          exact ins2_grow ROW.toList (cs64 l) _ (i * 2) ((i + 1) * 2) ((l.length + 1) * 2) (by rw [hX]; omega) (by rw [cs64_len]; omega) (by rw [cs64_len, hX]; omega) (by omega) hRt
        · have s1 := setCells_same w.heap.size [Value.string x.f0, Value.string x.f1] (i * 2) (w.alloc (.cells ROW 70)).drew
          have s2 := setCells_same w.heap.size ((cs64 l).drop (i * 2)) ((i + 1) * 2) ((w.alloc (.cells ROW 70)).drew.setCells w.heap.size (i * 2) [Value.string x.f0, Value.string x.f1]).drew
          refine ⟨s2.1.trans s1.1, s2.2.1.trans s1.2.1, s2.2.2.1.trans s1.2.2.1, ?_, fun k hk hne2 => ?_⟩
          · rw [s2.2.2.2]
            show w.heap.size ≤ ((w.alloc (.cells ROW 70)).drew.setCells w.heap.size (i * 2) [Value.string x.f0, Value.string x.f1]).heap.size
            rw [s1.2.2.2]
            exact (below_alloc (Below.refl _ w) (.cells ROW 70)).size
          · have hkn : k ≠ w.heap.size := by omega
            exact (setCells_far _ _ k hkn).trans ((setCells_far (w := (w.alloc (.cells ROW 70)).drew) _ _ k hkn).trans (Below.heap_alloc w _ k hk))
end Go.Proofs.Ytpnlbmeeihbjaaa.P
end
section
set_option linter.unusedVariables false
set_option linter.unusedSimpArgs false
namespace Go.Proofs.Ytpnlbmeeihbjaaa.P
open Go.RowKit Go.Proofs.YtpnlbmeeihbjaaaW.PrintWords Go.Proofs.YtpnlbmeeihbjaaaW.PrintLast Go.Proofs.YtpnlbmeeihbjaaaW.PrintMore
attribute [local go_sem] max2_int min2_int max_two min_two max_three min_three max_four min_four
set_option linter.unusedVariables false
set_option linter.unusedSimpArgs false
open Go.Shelf Go.Lib
theorem run_clear_two {P : Program} (w : World) (t e ty : TypeId) (z x0 x1 : Value) (ht : P.underlying t = some (.slice e)) (hv : (zeroValue e).run P w = .ok z w) (hz : z.cells = #[x0, x1]) (h1 : x0.oneCell' = true ∧ x1.oneCell' = true) (b o c : Nat)
    (hc : ∀ j, j < 2 → (w.cell? ⟨b, o + j, none⟩).isSome = true) (hf : ∀ j, j < 2 → w.frozen? ⟨b, o + j, none⟩ = false) :
    (Builtin.clear_ #[t] ty #[.slice (some ⟨b, o, none⟩) 1 c]).run P w = .ok (.tuple #[]) (w.setCells b o [x0, x1]) := by
  have hzc : (Builtin.zeroCells z.cells 1).toList = [x0, x1] := by
    rw [hz]; simp [Builtin.zeroCells, List.range_succ]
  have hst := run_storeCells_cells (P := P) b o [x0, x1] 0 w (by simpa using hc) (by simpa using hf) (by
    intro v hv'
    simp only [List.mem_cons, List.not_mem_nil, or_false] at hv'
    rcases hv' with rfl | rfl
    · exact h1.1
    · exact h1.2)
  simp only [Nat.add_zero] at hst
  simp [Builtin.clear_, run_underlying ht, hv, hzc, hst]
set_option maxHeartbeats 4000000 in
set_option maxRecDepth 100000 in
theorem delA_in (b n c i : Nat) (cur : Array Value) (cs : List Value) (w : World) (hi : i < n) (hnc : n ≤ c) (hc63 : c ≤ 9223372036854775807)
    (hb : w.heap[b]? = some (.cells cur 70 (0, 0))) (hsz : cur.size = c * 2) (hcs : cur.toList.take (n * 2) = cs) (h1c : ∀ v ∈ cs, v.oneCell' = true) :
    Calls Try.prog 66 #[.slice (some ⟨b, 0, none⟩) n c, .int .i64 i, .int .i64 ((i : Int) + 1)] w fun e w' =>
      e = .returned (.slice (some ⟨b, 0, none⟩) (n - 1) c) ∧ w' = (w.drew.setCells b (i * 2) (cs.drop ((i + 1) * 2))).setCells b ((n - 1) * 2) [.string ⟨#[]⟩, .string ⟨#[]⟩] := by
  have hu38 := Try.underlying38
  obtain ⟨i0, hi0, hz0, hzs, hzb⟩ := info_parts info70_
  have hcl : cur.toList.length = c * 2 := by simpa using hsz
  have hcsl : cs.length = n * 2 := by rw [← hcs, List.length_take, hcl]; omega
  have hdl : (cs.drop ((i + 1) * 2)).length = (n - (i + 1)) * 2 := by rw [List.length_drop, hcsl]; omega
  have hcell : ∀ j v, cs[j]? = some v → w.cell? ⟨b, j, none⟩ = some v := fun j v hj => by
    rw [blk_cell hb j, ← Array.getElem?_toList]
    rw [← hcs, List.getElem?_take] at hj
    split at hj
    · exact hj
    · cases hj
  have hsp : ∀ j, j < c * 2 → (w.cell? ⟨b, j, none⟩).isSome = true := fun j hj => by rw [blk_cell hb j, Array.getElem?_eq_getElem (by omega)]; rfl
  have hfz : ∀ j, w.frozen? ⟨b, j, none⟩ = false := fun j => blk_frozen hb j
  obtain ⟨news, hnews⟩ : ∃ news, news = cs.drop ((i + 1) * 2) := ⟨_, rfl⟩
  rw [← hnews] at hdl ⊢
  obtain ⟨A, hA, hsrc⟩ : ∃ A : Addr, (if c = i + 1 then some (⟨b, 0, none⟩ : Addr) else some ⟨b, (i + 1) * 2, none⟩) = some A ∧ Hid (∀ t u, news[t]? = some u → w.drew.cell? (A.add t) = some u) := by
    by_cases h : c = i + 1
    · refine ⟨⟨b, 0, none⟩, by simp [h], fun t u hu => ?_⟩
      have h0 : news.length = 0 := by rw [hdl]; omega
      rw [List.length_eq_zero_iff.1 h0] at hu
      simp at hu
    · refine ⟨⟨b, (i + 1) * 2, none⟩, by simp [h], fun t u hu => ?_⟩
      rw [Addr.add_lit]
      exact hcell _ u (by rw [hnews, List.getElem?_drop] at hu; exact hu)
  have s1 : Hid (news.length = (n - (i + 1)) * 2) := hdl
  have s2 : Hid (∀ u ∈ news, u.oneCell' = true) := by
    intro u hu
    rw [hnews] at hu
    exact h1c u (List.mem_of_mem_drop hu)
  have s3 : Hid (∀ t, t < news.length → (w.drew.cell? ⟨b, 0 + i * 2 + t, none⟩).isSome = true ∧ w.drew.frozen? ⟨b, 0 + i * 2 + t, none⟩ = false) := by
    intro t ht
    rw [hdl] at ht
    exact ⟨hsp _ (by omega), hfz _⟩
  obtain ⟨W1, hW1⟩ : ∃ W1, W1 = w.drew.setCells b (0 + i * 2) news := ⟨_, rfl⟩
  have hlen2 : i + (n - (i + 1)) = n - 1 := by omega
  have hsp1 : ∀ k, k < c * 2 → (W1.cell? ⟨b, k, none⟩).isSome = true := fun k hk => by
    rw [hW1]
    exact isSome_setCells b news (0 + i * 2) w.drew (fun j hj => hsp _ (by rw [hdl] at hj; omega)) k (hsp k hk)
  have hcl2 : ∀ ty cc, (Builtin.clear_ #[38] ty #[.slice (some ⟨b, (i + (n - (i + 1))) * 2, none⟩) (n - (i + (n - (i + 1)))) cc]).run Try.prog W1 = .ok (.tuple #[]) (W1.setCells b ((i + (n - (i + 1))) * 2) [.string ⟨#[]⟩, .string ⟨#[]⟩]) := fun ty cc => by
    rw [show n - (i + (n - (i + 1))) = 1 by omega]
    exact run_clear_two W1 38 70 ty (.agg #[.string ⟨#[]⟩, .string ⟨#[]⟩]) (.string ⟨#[]⟩) (.string ⟨#[]⟩) hu38 (by kernel_rfl) rfl ⟨rfl, rfl⟩ b _ cc (fun j hj => hsp1 _ (by omega)) (fun j hj => by rw [hW1, World.frozen?_setCells]; exact hfz _)
  have hW : Hid (W1 = w.drew.setCells b (0 + i * 2) news) := hW1
  have hic : i ≤ c := by omega
  have hjc : i + 1 ≤ c := by omega
  have mixed : Try.prog.follows Departure.mixedOrders = true := by kernel_rfl
  have hb0 : (0 : Int) ≤ (i : Int) + 1 := by omega
  have htn : ((i : Int) + 1).toNat = i + 1 := by omega
  have hb1 : (i : Int) ≤ (i : Int) + 1 := by omega
  have hb2 : (i : Int) + 1 ≤ (n : Int) := by omega
  have hb3 : (i : Int) + 1 ≤ (c : Int) := by omega
  have hb5 : ¬ ((i : Int) = (i : Int) + 1) := by omega
  have HL2 := Aside0.mk hlen2
  clear hW1 hnews hcell hcl hcsl hsp hsp1 hdl hlen2 hz0 hzb hcs hsz hb
  go_enter Try.func66, Try.ntmps66
  go_wp2_with fail
  go_region_law_o (refine step_append_room rfl (.tmp 22) (.tmp 25) 38 rfl 70 i0 2 hu38 hi0 hzs b 0 i c (by simp [Act.eval, Act.put]) A (n - (i + 1)) (c - (i + 1)) news (by simp [Act.eval, Act.put]) s1.out hsrc.out s2.out (by omega) s3.out ?_; rw [← hW.out])
  go_wp2
  go_ret
  refine ⟨by rw [HL2.out]; rfl, ?_⟩
  rw [HL2.out, hW.out, Nat.zero_add]
theorem del2 (c0 L Z : List Value) (p q : Nat) (hq : q ≤ L.length) (hp : p ≤ q) (hZ : Z.length = q - p) (hc : L.length ≤ c0.length) (ht : c0.take L.length = L) :
    ((c0.take p ++ L.drop q ++ c0.drop (p + (L.drop q).length)).take (L.length - (q - p)) ++ Z ++ (c0.take p ++ L.drop q ++ c0.drop (p + (L.drop q).length)).drop (L.length - (q - p) + Z.length)).take (L.length - (q - p)) = L.take p ++ L.drop q := by
  have hd : (L.drop q).length = L.length - q := List.length_drop
  have e1 : c0.take p = L.take p := by rw [← ht, List.take_take, Nat.min_eq_left (by omega)]
  have hp2 : (L.take p).length = p := by rw [List.length_take]; omega
  have e2 : (L.take p ++ L.drop q ++ c0.drop (p + (L.drop q).length)).take (L.length - (q - p)) = L.take p ++ L.drop q := by
    rw [List.take_append_of_le_length (by rw [List.length_append]; omega), List.take_of_length_le (by rw [List.length_append]; omega)]
  rw [e1, e2, List.append_assoc, List.take_append_of_le_length (by rw [List.length_append]; omega), List.take_of_length_le (by rw [List.length_append]; omega)]
theorem deleteA_calls (l : List S70) (v : Value) (i : Nat) (w : World) (base : Nat) (ok : Nat → Prop) (hR : Kd.R k70 70 w base ok v l) (hi : i < l.length) :
    Calls Try.prog 66 #[v, .int .i64 i, .int .i64 ((i : Int) + 1)] w fun e w' => ∃ v', e = .returned v' ∧ Kd.R k70 70 w' base ok v' (l.take i ++ l.drop (i + 1)) ∧ w.grownBy w' v.ownBlock := by
  obtain ⟨hok, hlen, h⟩ := R64_open hR
  rcases h with ⟨rfl, hn⟩ | ⟨g, cap, cur, rfl, hg, hb, hnc, hcm, hcs, htake⟩
  · omega
  · have hcl : cur.toList.length = cap * 2 := by simpa using hcs
    refine (delA_in g l.length cap i cur (cs64 l) w hi hnc (by unfold maxLen at hcm; exact hcm) hb hcs htake (cs64_one l)).mono ?_
    rintro e w' ⟨rfl, rfl⟩
    obtain ⟨cur', hb', hs', ht'⟩ := setCells_row ((cs64 l).drop ((i + 1) * 2)) (i * 2) w.drew cur hb (by rw [List.length_drop, cs64_len]; omega)
    obtain ⟨cur2, hb2, hs2, ht2⟩ := setCells_row [Value.string ⟨#[]⟩, Value.string ⟨#[]⟩] ((l.length - 1) * 2) (w.drew.setCells g (i * 2) ((cs64 l).drop ((i + 1) * 2))) cur' hb' (by rw [hs']; show (l.length - 1) * 2 + 2 ≤ cur.size; omega)
    refine ⟨_, rfl, R64_laid hg hb2 (by simp; omega) (by omega) hcm (by rw [hs2, hs']; exact hcs) ?_ ok (hok g rfl), ?_⟩
    · rw [ht2, ht', cs64_append, ← cs64_take, ← cs64_drop]
      have h := del2 cur.toList (cs64 l) [Value.string ⟨#[]⟩, Value.string ⟨#[]⟩] (i * 2) ((i + 1) * 2) (by rw [cs64_len]; omega) (by omega) (by show 2 = _; omega) (by rw [cs64_len]; omega) (by rw [cs64_len]; exact htake)
      rw [show (cs64 l).length - ((i + 1) * 2 - i * 2) = (l.length - 1) * 2 by rw [cs64_len]; omega] at h
      exact h
    · have h0 := setCells_grown w.drew g (i * 2) ((cs64 l).drop ((i + 1) * 2))
      have h0' : w.grownBy (w.drew.setCells g (i * 2) ((cs64 l).drop ((i + 1) * 2))) (some g) := ⟨h0.os, h0.tape, h0.output, h0.size, h0.block⟩
      exact grown_two h0' (setCells_grown _ g _ _)
end Go.Proofs.Ytpnlbmeeihbjaaa.P
end
section
set_option linter.unusedVariables false
set_option linter.unusedSimpArgs false
namespace Go.Proofs.Ytpnlbmeeihbjaaa.P
open Go.RowKit Go.Proofs.YtpnlbmeeihbjaaaW.PrintWords Go.Proofs.YtpnlbmeeihbjaaaW.PrintLast Go.Proofs.YtpnlbmeeihbjaaaW.PrintMore
attribute [local go_sem] max2_int min2_int max_two min_two max_three min_three max_four min_four
set_option linter.unusedVariables false
set_option linter.unusedSimpArgs false
theorem ent93 : ∀ (args : Array Value) (w : World), (callFunc 63 args).run Try.prog w = .ok (.enter 63 args) w := enters_of Try.func63 (by kernel_rfl) rfl
theorem ent95 : ∀ (args : Array Value) (w : World), (callFunc 65 args).run Try.prog w = .ok (.enter 65 args) w := enters_of Try.func65 (by kernel_rfl) rfl
theorem row_stays3 {W w2 : World} {base : Nat} {ok : Nat → Prop} {v3 v4 : Value} {l3 : List Int} {l4 : List S70} (h3 : Kd.R (Kd.int .i64) 3 W base ok v3 l3) (h4 : Kd.R k70 70 W base ok v4 l4) (hs : ∀ k, ok k → k < W.heap.size → some k ≠ v4.ownBlock → w2.heap[k]? = W.heap[k]?) : Kd.R (Kd.int .i64) 3 w2 base ok v3 l3 := by
  obtain ⟨hok, hlen, h⟩ := R64_open h4
  rcases h with ⟨rfl, _⟩ | ⟨g4, cap, cur, rfl, _, hb, _⟩
  · exact Kd.R_step h3 (fun k ho hk => hs k ho hk (by simp [Value.ownBlock]))
  · refine Kd.R_mono (Kd.R_step (Kd.R_types h3 hb (by decide)) (fun k hk hlt => hs k hk.1 hlt (fun e => hk.2 (by simpa [Value.ownBlock] using e)))) (fun _ h => h.1)
theorem cs64_set (l : List S70) (i : Nat) (v : ByteArray) (hi : i < l.length) : (cs64 l).set (i * 2 + 1) (.string v) = cs64 (l.set i ⟨(l.getD i z70).f0, v⟩) := by
  have e : cs64 l = cs64 (l.take i) ++ ([.string l[i].f0, .string l[i].f1] ++ cs64 (l.drop (i + 1))) := by
    conv => lhs; rw [← List.take_append_drop i l, List.drop_eq_getElem_cons hi]
    rw [cs64_append]; rfl
  have hl : (cs64 (l.take i)).length = i * 2 := by rw [cs64_len, List.length_take]; omega
  rw [e, List.set_append_right _ _ (by omega), hl, List.set_append_left _ _ (by show i * 2 + 1 - i * 2 < 2; omega), show i * 2 + 1 - i * 2 = 1 by omega]
  have e2 : l.getD i z70 = l[i] := by simp [List.getD_eq_getElem?_getD, List.getElem?_eq_getElem hi]
  have e3 : l.set i ⟨(l.getD i z70).f0, v⟩ = l.take i ++ ⟨(l.getD i z70).f0, v⟩ :: l.drop (i + 1) := by rw [List.set_eq_take_append_cons_drop, if_pos hi]
  rw [e3, cs64_append, e2]
  rfl
theorem R64_value {W : World} {base : Nat} {ok : Nat → Prop} {v : Value} {l : List S70} (h : Kd.R k70 70 W base ok v l) (i : Nat) (hi : i < l.length) : ∃ g c, v = .slice (some ⟨g, 0, none⟩) l.length c ∧ base ≤ g ∧ ok g ∧ g < W.heap.size ∧
    W.cell? ⟨g, i * 2 + 1, none⟩ = some (.string (l.getD i z70).f1) ∧ W.frozen? ⟨g, i * 2 + 1, none⟩ = false ∧
    ∀ u : ByteArray, Kd.R k70 70 (W.setCell ⟨g, i * 2 + 1, none⟩ (.string u)) base ok v (l.set i ⟨(l.getD i z70).f0, u⟩) := by
  obtain ⟨hok, hlen, h⟩ := R64_open h
  rcases h with ⟨rfl, hn⟩ | ⟨g, cap, cur, rfl, hg, hb, hnc, hcm, hcs, htake⟩
  · omega
  · have hcl : cur.toList.length = cap * 2 := by simpa using hcs
    refine ⟨g, cap, rfl, hg, hok g rfl, blk_lt hb, ?_, blk_frozen hb _, fun u => ?_⟩
    · rw [blk_cell hb _, ← Array.getElem?_toList]
      have e : cur.toList[i * 2 + 1]? = (cs64 l)[i * 2 + 1]? := by rw [← htake, List.getElem?_take, if_pos (by omega)]
      have e3 : (cs64 l)[i * 2 + 1]? = ((cs64 l).drop (i * 2))[1]? := by rw [List.getElem?_drop]
      rw [e, e3, cs64_drop, List.drop_eq_getElem_cons hi]
      have e2 : l.getD i z70 = l[i] := by simp [List.getD_eq_getElem?_getD, List.getElem?_eq_getElem hi]
      rw [e2]; rfl
    · refine R64_laid (cur := cur.setIfInBounds (i * 2 + 1) (.string u)) hg (blk_set hb _ _) (by simp) hnc hcm (by simpa using hcs) ?_ ok (hok g rfl)
      rw [Array.toList_setIfInBounds, ← cs64_set l i u hi, ← htake, List.take_set]
def setA (i : Nat) (has : Bool) (name value : ByteArray) (x : S40) : S40 :=
  let l := if has then x.f4 else x.f4.take i ++ [⟨name, ⟨#[]⟩⟩] ++ x.f4.drop i
  { x with f4 := l.set i ⟨(l.getD i z70).f0, value⟩ }
set_option maxHeartbeats 8000000 in
set_option maxRecDepth 100000 in
theorem seta_yes (wB : World) (b1 b2 b3 b4 i : Nat) (name value : ByteArray) (pid : Int) (x0 : S40) (h1 : wB.heap[b1]? = some (.cells #[.bool true] 4 (0, 0))) (h2 : wB.heap[b2]? = some (.cells #[.int .i64 i] 3 (0, 0))) (h3 : wB.heap[b3]? = some (.cells #[.string name] 9 (0, 0))) (h4 : wB.heap[b4]? = some (.cells #[.string value] 9 (0, 0)))
    (hi : i < x0.f4.length) (hl : x0.f4.length ≤ 1099511627776) :
    Gives wB ⟨pid, 63, #[.pointer (some ⟨b1, 0, none⟩), .pointer (some ⟨b2, 0, none⟩), .pointer (some ⟨b3, 0, none⟩), .pointer (some ⟨b4, 0, none⟩)], setA i true name value⟩ (fun x => x = x0) := by
  intro W base g x cs hx hbw hbase hg hgb hM
  subst hx
  obtain ⟨A3, c3, A4, c4, rfl⟩ := k40_cellsM hM
  obtain ⟨v3, v4, hcs, hR3, hR4⟩ := k40_openM hM
  simp only [List.cons.injEq, and_true, true_and] at hcs
  obtain ⟨rfl, rfl⟩ := hcs
  have HR3 := Aside0.mk hR3
  have HR4 := Aside0.mk hR4
  have HG := Aside0.mk hgb
  obtain ⟨g4, c4', hv4, hbg4, hok4, hlt4, kv, fv, hset⟩ := R64_value hR4 i hi
  injection hv4 with e4 _ _
  subst e4
  have HS := Aside0.mk hset
  have HN : Aside0 (base ≤ g4 ∧ g4 ≠ g) := ⟨⟨hbg4, hok4⟩⟩
  have q4 := (blk_cell hgb 4).trans (show _ = some _ from rfl)
  have k1 := (blk_cell (blk_below h1 hbw) 0).trans (show _ = some _ from rfl)
  have k2 := (blk_cell (blk_below h2 hbw) 0).trans (show _ = some _ from rfl)
  have k4 := (blk_cell (blk_below h4 hbw) 0).trans (show _ = some _ from rfl)
  have hu70 := Try.underlying70
  have hu40 := Try.underlying40
  have hu38 := Try.underlying38
  have z0 : (0 : Int) ≤ (i : Int) := by omega
  have z1 : (i : Int) < (x.f4.length : Int) := by omega
  clear hM hR3 hR4 hgb hbase hg h1 h2 h3 h4 hbw hset hbg4 hok4 hlt4
  show Calls Try.prog 63 #[.pointer (some ⟨g, 0, none⟩), .pointer (some ⟨b1, 0, none⟩), .pointer (some ⟨b2, 0, none⟩), .pointer (some ⟨b3, 0, none⟩), .pointer (some ⟨b4, 0, none⟩)] W _
  go_enter Try.func63, Try.ntmps63
  go_wp2_with fail
  go_region_with (fail)
  all_goals
    go_end0
    refine ⟨rfl, below_drew (below_low (Below.refl _ _) HN.out.1 _ _), _, (heap_setCell_other W ⟨g4, i * 2 + 1, none⟩ g _ (Ne.symm HN.out.2)).trans HG.out, ?_⟩
    refine k40_mkM _ _ _ (setA i true name value x) (v3 := .slice A3 x.f3.length c3) (v4 := .slice (some ⟨g4, 0, none⟩) x.f4.length c4) ?_ (Kd.R_step (HS.out value) (fun _ _ _ => rfl))
    exact row_stays3 HR3.out HR4.out (fun k _ _ hk => heap_setCell_other W ⟨g4, i * 2 + 1, none⟩ k _ (fun e => hk (by simp [Value.ownBlock, e])))
set_option maxHeartbeats 8000000 in
set_option maxRecDepth 100000 in
theorem seta_no (wB : World) (b1 b2 b3 b4 i : Nat) (name value : ByteArray) (pid : Int) (x0 : S40) (h1 : wB.heap[b1]? = some (.cells #[.bool false] 4 (0, 0))) (h2 : wB.heap[b2]? = some (.cells #[.int .i64 i] 3 (0, 0))) (h3 : wB.heap[b3]? = some (.cells #[.string name] 9 (0, 0))) (h4 : wB.heap[b4]? = some (.cells #[.string value] 9 (0, 0)))
    (hi : i ≤ x0.f4.length) (hl : x0.f4.length ≤ 1099511627776) :
    Gives wB ⟨pid, 63, #[.pointer (some ⟨b1, 0, none⟩), .pointer (some ⟨b2, 0, none⟩), .pointer (some ⟨b3, 0, none⟩), .pointer (some ⟨b4, 0, none⟩)], setA i false name value⟩ (fun x => x = x0) := by
  intro W base g x cs hx hbw hbase hg hgb hM
  subst hx
  obtain ⟨A3, c3, A4, c4, rfl⟩ := k40_cellsM hM
  obtain ⟨v3, v4, hcs, hR3, hR4⟩ := k40_openM hM
  simp only [List.cons.injEq, and_true, true_and] at hcs
  obtain ⟨rfl, rfl⟩ := hcs
  have HR3 := Aside0.mk hR3
  have HR4 := Aside0.mk hR4
  have HG := Aside0.mk hgb
  have HL := Aside0.mk (And.intro hi hl)
  have HBS := Aside0.mk (And.intro hbase hg)
  have HLT : Aside0 (b2 < base ∧ b3 < base ∧ b4 < base) := ⟨by have := blk_lt h2; have := blk_lt h3; have := blk_lt h4; omega⟩
  have q4 := (blk_cell hgb 4).trans (show _ = some _ from rfl)
  have f4 := blk_frozen hgb 4
  have k1 := (blk_cell (blk_below h1 hbw) 0).trans (show _ = some _ from rfl)
  have k2 := (blk_cell (blk_below h2 hbw) 0).trans (show _ = some _ from rfl)
  have k3 := (blk_cell (blk_below h3 hbw) 0).trans (show _ = some _ from rfl)
  have k4 := (blk_cell (blk_below h4 hbw) 0).trans (show _ = some _ from rfl)
  have KW2 := Aside0.mk (blk_below h2 hbw)
  have KW4 := Aside0.mk (blk_below h4 hbw)
  have hu70 := Try.underlying70
  have hu40 := Try.underlying40
  have hu38 := Try.underlying38
  have z0 : (0 : Int) ≤ (i : Int) := by omega
  clear hM hR3 hR4 hgb hi hl hbase hg h1 h2 h3 h4 hbw
  show Calls Try.prog 63 #[.pointer (some ⟨g, 0, none⟩), .pointer (some ⟨b1, 0, none⟩), .pointer (some ⟨b2, 0, none⟩), .pointer (some ⟨b3, 0, none⟩), .pointer (some ⟨b4, 0, none⟩)] W _
  obtain ⟨K, hK⟩ : ∃ K, K = x.f4.take i ++ [⟨name, ⟨#[]⟩⟩] ++ x.f4.drop i := ⟨_, rfl⟩
  have hKl : i < K.length := by have := HL.out.1; rw [hK]; simp; omega
  have hown : ∀ k, (Value.slice A4 x.f4.length c4).ownBlock = some k → base ≤ k ∧ k < W.heap.size ∧ k ≠ g := fun k e => ⟨own_ge (R64_open HR4.out).2 k e, Kd.R_lt HR4.out k e, HR4.out.1 k e⟩
  have HINS : Aside0 (∀ (W' : World) (vb : Nat), Below W.heap.size W W' → W'.heap[vb]? = some (.cells #[.string name, .string ⟨#[]⟩] 70 (0, 0)) → W.heap.size ≤ vb → Calls Try.prog 64 #[.slice A4 x.f4.length c4, .int .i64 (i : Int), .slice (some ⟨vb, 0, none⟩) 1 1] W' fun e w' => ∃ v', e = .returned v' ∧ Kd.R k70 70 w' base (fun k => k ≠ g) v' K ∧ Below base W w' ∧ ∀ k, k < W.heap.size → some k ≠ (Value.slice A4 x.f4.length c4).ownBlock → w'.heap[k]? = W.heap[k]?) := ⟨fun W' vb hb hv hle => by
    have hbs := Nat.le_trans HBS.out.2 (Nat.le_of_lt (blk_lt HG.out))
    refine (insertA_calls x.f4 _ i ⟨name, ⟨#[]⟩⟩ vb W' base (fun k => k ≠ g) (Kd.R_below HR4.out hb) HL.out.1 HL.out.2 hv (fun e => by have := (hown vb e).2.1; omega) (Nat.le_trans hbs hb.size) (fun k hk => by have := blk_lt HG.out; have := hb.size; omega)).mono ?_
    rintro e w' ⟨v', rfl, hR', hgr⟩
    refine ⟨v', rfl, hK ▸ hR', ⟨hgr.os.trans hb.os, hgr.tape.trans hb.tape, hgr.output.trans hb.output, Nat.le_trans hb.size hgr.size, fun k hk => ?_⟩, fun k hk hne => ?_⟩
    · exact (hgr.block k (by have := hb.size; omega) (fun e => by have := (hown k e.symm).1; omega)).trans (hb.block k (by omega))
    · exact (hgr.block k (Nat.lt_of_lt_of_le hk hb.size) hne).trans (hb.block k hk)⟩
  have HOWN := Aside0.mk hown
  have HKK := Aside0.mk (And.intro hK hKl)
  clear hown hK hKl
  have n2 : ∀ o, (W.alloc o).cell? ⟨b2, 0, none⟩ = some (.int .i64 i) := fun o => pw_cell_below (below_alloc (Below.refl _ _) o) k2
  have n3 : ∀ o, (W.alloc o).cell? ⟨b3, 0, none⟩ = some (.string name) := fun o => pw_cell_below (below_alloc (Below.refl _ _) o) k3
  have n4 : ∀ o, (W.alloc o).cell? ⟨g, 4, none⟩ = some (.slice A4 x.f4.length c4) := fun o => pw_cell_below (below_alloc (Below.refl _ _) o) q4
  go_enter Try.func63, Try.ntmps63
  go_wp2_with fail
  go_region_with (first
    | (go_at_call 64; (with_reducible refine (HINS.out _ _ (by repeat (first | exact Below.refl _ _ | apply below_alloc | apply below_drew1 | apply pw_below_drewN)) (by repeat (first | exact blk_new _ _ | refine blk_drewN ?_ _ | refine blk_drew ?_)) (by exact Nat.le_refl _)).mono ?_); rintro e w2 ⟨v2, rfl, hR2, hb2, hsm⟩; obtain ⟨B4, d4, rfl⟩ := Kd.R_slice hR2; have HR2 := Aside0.mk hR2; have HB2 := Aside0.mk hb2; have HSM := Aside0.mk hsm; have hgc := (hsm g (blk_lt HG.out) (fun e_ => (HOWN.out g e_.symm).2.2 rfl)).trans HG.out; have r4 := (blk_cell hgc 4).trans (show _ = some _ from rfl); have r4f := blk_frozen hgc 4; have HGC := Aside0.mk hgc; clear hR2 hb2 hsm hgc)
    | fail)
  all_goals
    have HB5 : Aside0 (Below base W (w2.setCell ⟨g, 4, none⟩ (.slice B4 K.length d4))) := ⟨below_low HB2.out HBS.out.2 4 _⟩
    have hG5 : (w2.setCell ⟨g, 4, none⟩ (.slice B4 K.length d4)).heap[g]? = some (.cells #[.int .i64 x.f0, .string x.f1, .int .i64 x.f2, .slice A3 x.f3.length c3, .slice B4 K.length d4] 40 (0, 0)) := blk_put HGC.out 4 _ rfl
    have HR5 : Aside0 (Kd.R k70 70 (w2.setCell ⟨g, 4, none⟩ (.slice B4 K.length d4)) base (fun k => k ≠ g) (.slice B4 K.length d4) K) := ⟨Kd.R_far HR2.out (fun k hk => hk) _⟩
    have HS5 : Aside0 (∀ k, k < W.heap.size → some k ≠ (Value.slice A4 x.f4.length c4).ownBlock → k ≠ g → (w2.setCell ⟨g, 4, none⟩ (.slice B4 K.length d4)).heap[k]? = W.heap[k]?) := ⟨fun k hk h1 h2 => (heap_setCell_other w2 ⟨g, 4, none⟩ k _ h2).trans (HSM.out k hk h1)⟩
    have r2 := (blk_cell ((HB5.out.block b2 HLT.out.1).trans KW2.out) 0).trans (show _ = some _ from rfl)
    have r3 := (blk_cell ((HB5.out.block b4 HLT.out.2.2).trans KW4.out) 0).trans (show _ = some _ from rfl)
    have q5 := (blk_cell hG5 4).trans (show _ = some _ from rfl)
    have HG5 := Aside0.mk hG5
    clear hG5 HSM HR2 HGC HB2 r4 r4f
    generalize w2.setCell ⟨g, 4, none⟩ (.slice B4 K.length d4) = W5 at HB5 HR5 HS5 r2 r3 q5 HG5 ⊢
    obtain ⟨g4, c4', hv4, hbg4, hok4, hlt4, kv, fv, hset⟩ := R64_value HR5.out i HKK.out.2
    injection hv4 with e4 _ _
    subst e4
    have HS := Aside0.mk hset
    have HN : Aside0 (base ≤ g4 ∧ g4 ≠ g) := ⟨⟨hbg4, hok4⟩⟩
    have z1 : (i : Int) < (K.length : Int) := by have := HKK.out.2; omega
    clear hset hbg4 hok4 hlt4 k1 k2 k3 k4 q4 f4 n2 n3 n4
    go_wp2_with fail
    go_region_with (fail)
    all_goals
      go_end0
      refine ⟨rfl, below_drew (below_low HB5.out HN.out.1 _ _), _, (heap_setCell_other W5 ⟨g4, i * 2 + 1, none⟩ g _ (Ne.symm HN.out.2)).trans HG5.out, ?_⟩
      refine k40_mkM _ _ _ (setA i false name value x) (v3 := .slice A3 x.f3.length c3) (v4 := .slice (some ⟨g4, 0, none⟩) K.length d4) ?_ ?_
      · exact row_stays3 (row_stays3 HR3.out HR4.out (fun k ho hk hne => HS5.out k hk hne ho)) HR5.out (fun k _ _ hk => heap_setCell_other W5 ⟨g4, i * 2 + 1, none⟩ k _ (fun e => hk (by simp [Value.ownBlock, e])))
      · have e : (setA i false name value x).f4 = K.set i ⟨(K.getD i z70).f0, value⟩ := by unfold setA; rw [HKK.out.1]; rfl
        rw [e]
        exact Kd.R_step (HS.out value) (fun _ _ _ => rfl)
end Go.Proofs.Ytpnlbmeeihbjaaa.P
end
section
set_option linter.unusedVariables false
set_option linter.unusedSimpArgs false
namespace Go.Proofs.Ytpnlbmeeihbjaaa.P
open Go.RowKit Go.Proofs.YtpnlbmeeihbjaaaW.PrintWords Go.Proofs.YtpnlbmeeihbjaaaW.PrintLast Go.Proofs.YtpnlbmeeihbjaaaW.PrintMore
attribute [local go_sem] max2_int min2_int max_two min_two max_three min_three max_four min_four
set_option linter.unusedVariables false
set_option linter.unusedSimpArgs false
def dropA (i : Nat) (x : S40) : S40 := { x with f4 := x.f4.take i ++ x.f4.drop (i + 1) }
set_option maxHeartbeats 8000000 in
set_option maxRecDepth 100000 in
theorem drop_gives (wB : World) (b1 i : Nat) (pid : Int) (x0 : S40) (h1 : wB.heap[b1]? = some (.cells #[.int .i64 i] 3 (0, 0))) (hi : i < x0.f4.length) (hl : x0.f4.length ≤ 1099511627776) :
    Gives wB ⟨pid, 65, #[.pointer (some ⟨b1, 0, none⟩)], dropA i⟩ (fun x => x = x0) := by
  intro W base g x cs hx hbw hbase hg hgb hM
  subst hx
  obtain ⟨A3, c3, A4, c4, rfl⟩ := k40_cellsM hM
  obtain ⟨v3, v4, hcs, hR3, hR4⟩ := k40_openM hM
  simp only [List.cons.injEq, and_true, true_and] at hcs
  obtain ⟨rfl, rfl⟩ := hcs
  have HR3 := Aside0.mk hR3
  have HR4 := Aside0.mk hR4
  have HG := Aside0.mk hgb
  have HBS := Aside0.mk (And.intro hbase hg)
  have q4 := (blk_cell hgb 4).trans (show _ = some _ from rfl)
  have f4 := blk_frozen hgb 4
  have k1 := (blk_cell (blk_below h1 hbw) 0).trans (show _ = some _ from rfl)
  obtain ⟨K, hK⟩ : ∃ K, K = x.f4.take i ++ x.f4.drop (i + 1) := ⟨_, rfl⟩
  have hown : ∀ k, (Value.slice A4 x.f4.length c4).ownBlock = some k → base ≤ k ∧ k < W.heap.size ∧ k ≠ g := fun k e => ⟨own_ge (R64_open HR4.out).2 k e, Kd.R_lt HR4.out k e, HR4.out.1 k e⟩
  have HDEL : Aside0 (∀ W' : World, Below W.heap.size W W' → Calls Try.prog 66 #[.slice A4 x.f4.length c4, .int .i64 i, .int .i64 (IntKind.i64.wrap ((i : Int) + 1))] W' fun e w' => ∃ v', e = .returned v' ∧ Kd.R k70 70 w' base (fun k => k ≠ g) v' K ∧ W.grownBy w' (Value.slice A4 x.f4.length c4).ownBlock) := ⟨fun W' hb => by
    rw [show IntKind.i64.wrap ((i : Int) + 1) = (i : Int) + 1 by rw [IntKind.wrap_i64]; omega]
    refine (deleteA_calls x.f4 _ i W' base (fun k => k ≠ g) (Kd.R_below HR4.out hb) hi).mono ?_
    rintro e w' ⟨v', rfl, hR', hgr⟩
    exact ⟨v', rfl, hK ▸ hR', ⟨hgr.os.trans hb.os, hgr.tape.trans hb.tape, hgr.output.trans hb.output, Nat.le_trans hb.size hgr.size, fun k hk hne => (hgr.block k (Nat.lt_of_lt_of_le hk hb.size) hne).trans (hb.block k hk)⟩⟩⟩
  have HOWN := Aside0.mk hown
  have HKK := Aside0.mk hK
  have z1 : (i : Int) + 1 < 9223372036854775807 := by omega
  have z0 : (0 : Int) ≤ (i : Int) := by omega
  clear hM hR3 hR4 hgb hi hl hbase hg h1 hbw hown hK
  show Calls Try.prog 65 #[.pointer (some ⟨g, 0, none⟩), .pointer (some ⟨b1, 0, none⟩)] W _
  go_enter Try.func65, Try.ntmps65
  go_region_with (first | (go_at_call 66; (with_reducible refine (HDEL.out _ (by repeat (first | exact Below.refl _ _ | apply below_alloc | apply below_drew1 | apply pw_below_drewN))).mono ?_); rintro e w2 ⟨v2, rfl, hR2, hgr⟩; obtain ⟨B4, d4, rfl⟩ := Kd.R_slice hR2; have hgc := (hgr.block g (blk_lt HG.out) (fun e_ => (HOWN.out g e_.symm).2.2 rfl)).trans HG.out; have HR2 := Aside0.mk hR2; have HGR := Aside0.mk hgr; have r4 := (blk_cell hgc 4).trans (show _ = some _ from rfl); have r4f := blk_frozen hgc 4; have HGC := Aside0.mk hgc; clear hR2 hgr hgc) | fail)
  all_goals
    go_end0
    have hb2 : Below base W w2 := ⟨HGR.out.os, HGR.out.tape, HGR.out.output, HGR.out.size, fun k hk => HGR.out.block k (by have := blk_lt HG.out; have := HBS.out.2; omega) (fun e => by have := (HOWN.out k e.symm).1; omega)⟩
    refine ⟨rfl, below_low hb2 HBS.out.2 4 _, #[.int .i64 x.f0, .string x.f1, .int .i64 x.f2, .slice A3 x.f3.length c3, .slice B4 K.length d4], blk_put HGC.out 4 _ rfl, ?_⟩
    refine k40_mkM _ _ _ (dropA i x) (v3 := .slice A3 x.f3.length c3) (v4 := .slice B4 K.length d4) ?_ ?_
    · have h3 : Kd.R (Kd.int .i64) 3 w2 base (fun k => k ≠ g) (.slice A3 x.f3.length c3) x.f3 := row_stays3 HR3.out HR4.out (fun k _ hk hne => HGR.out.block k hk hne)
      exact Kd.R_far h3 (fun k hk => hk) _
    · show Kd.R k70 70 _ base (fun k => k ≠ g) _ (x.f4.take i ++ x.f4.drop (i + 1))
      rw [← HKK.out]
      exact Kd.R_far HR2.out (fun k hk => hk) _
end Go.Proofs.Ytpnlbmeeihbjaaa.P
end
