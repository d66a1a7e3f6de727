/- WalkOnce: for every input the law returns true, and each argument reads behind the call as it read before. -/
import Derived.Test.YtpnlbmeeihbjaaaZWC8
import Derived.Shelf.Spec.SlicesInsert
import Derived.Shelf.Spec.SlicesInsertGrow
section
set_option linter.unusedVariables false
set_option linter.unusedSimpArgs false
namespace Go.Proofs.Ytpnlbmeeihbjaaa.P
open Go.RowKit Go.Proofs.YtpnlbmeeihbjaaaW.PrintWords
def siRen : Go.Shelf.Ren := ⟨fun | 21 => 84 | 27 => 102 | 28 => 103 | 35 => 108 | 39 => 75 | n => n, fun | 22 => 29 | n => n, fun n => n⟩
theorem siLays : Go.Proofs.Lays2.n21 Try.prog siRen := {
  mixed := by kernel_rfl
  f21 := by kernel_rfl
  f27 := by kernel_rfl
  f28 := by kernel_rfl
  f35 := by kernel_rfl
  f39 := by kernel_rfl
  t0 := by kernel_rfl
  a0 := fun w => by kernel_rfl
  z0 := fun w => by kernel_rfl
  v0 := fun w => by kernel_rfl
  t3 := by kernel_rfl
  a3 := fun w => by kernel_rfl
  z3 := fun w => by kernel_rfl
  v3 := fun w => by kernel_rfl
  t4 := by kernel_rfl
  a4 := fun w => by kernel_rfl
  z4 := fun w => by kernel_rfl
  v4 := fun w => by kernel_rfl
  t22 := by kernel_rfl
  a22 := fun w => by kernel_rfl
  z22 := fun w => by kernel_rfl
  v22 := fun w => by kernel_rfl
  i3 := by kernel_rfl }
end Go.Proofs.Ytpnlbmeeihbjaaa.P
end
section
set_option linter.unusedVariables false
set_option linter.unusedSimpArgs false
namespace Go.Proofs.Ytpnlbmeeihbjaaa.P
open Go.RowKit Go.Proofs.YtpnlbmeeihbjaaaW.PrintWords Go.Proofs.YtpnlbmeeihbjaaaW.PrintLast Go.Proofs.YtpnlbmeeihbjaaaW.PrintMore
set_option linter.unusedVariables false
theorem own_laid {W : World} {base g n cap : Nat} {cur : Array Value} {xs : List Int} (hg : base ≤ g) (hb : W.heap[g]? = some (.cells cur 3 (0, 0))) (hn : xs.length = n) (hc : n ≤ cap) (hm : cap ≤ maxLen) (hs : cur.size = cap) (ht : cur.toList.take n = xs.map (Value.int .i64)) (ok : Nat → Prop) (hok : ok g) :
    Kd.R (Kd.int .i64) 3 W base ok (.slice (some ⟨g, 0, none⟩) n cap) xs := by
  subst hn
  exact Kd.R_of_own (enc := Value.int .i64) (h1 := fun _ => rfl) ⟨by simp [encs], .inr ⟨g, cap, cur, rfl, hg, hb, hc, hm, by simpa using hs, by simpa [encs] using ht⟩⟩ (fun k hk => by
    have : g = k := by simpa [Value.ownBlock] using hk
    exact this ▸ hok)
theorem ins_list (c0 d : List Value) (x : Value) (i : Nat) (hi : i < c0.length) :
    ((c0.take i ++ [x] ++ c0.drop (i + 1)).take (i + 1) ++ d ++ (c0.take i ++ [x] ++ c0.drop (i + 1)).drop (i + 1 + d.length)).take (i + 1 + d.length) = c0.take i ++ [x] ++ d := by
  have h1 : (c0.take i ++ [x]).length = i + 1 := by simp; omega
  have h2 : (c0.take i ++ [x] ++ c0.drop (i + 1)).take (i + 1) = c0.take i ++ [x] := by rw [List.take_append_of_le_length (by omega), List.take_of_length_le (by omega)]
  rw [h2, List.take_append_of_le_length (by rw [List.length_append, h1]; omega), List.take_of_length_le (by rw [List.length_append, h1]; omega)]
theorem ins_shift (c0 L : List Value) (x : Value) (i n : Nat) (hL : L.length = n) (hi : i < n) (hn : n + 1 ≤ c0.length) (ht : c0.take n = L) :
    ((c0.take (i + 1) ++ L.drop i ++ c0.drop (i + 1 + (L.drop i).length)).take i ++ [x] ++ (c0.take (i + 1) ++ L.drop i ++ c0.drop (i + 1 + (L.drop i).length)).drop (i + 1)).take (n + 1) = L.take i ++ [x] ++ L.drop i := by
  have hd : (L.drop i).length = n - i := by rw [List.length_drop, hL]
  have h1 : (c0.take (i + 1)).length = i + 1 := by rw [List.length_take]; omega
  have e1 : (c0.take (i + 1) ++ L.drop i ++ c0.drop (i + 1 + (L.drop i).length)).take i = L.take i := by
    rw [List.append_assoc, List.take_append_of_le_length (by omega), List.take_take, Nat.min_eq_left (by omega), ← ht, List.take_take, Nat.min_eq_left (by omega)]
  have e2 : (c0.take (i + 1) ++ L.drop i ++ c0.drop (i + 1 + (L.drop i).length)).drop (i + 1) = L.drop i ++ c0.drop (i + 1 + (L.drop i).length) := by
    rw [List.append_assoc, List.drop_append_of_le_length (by omega), List.drop_of_length_le (by omega), List.nil_append]
  rw [e1, e2, ← List.append_assoc, List.take_append_of_le_length (by simp; omega), List.take_of_length_le (by simp; omega)]
theorem own_made {w : World} {base cap k : Nat} (xs : List Int) (vs : List Value) (hv : vs = xs.map (Value.int .i64)) (hk : vs.length + k = cap) (hm : cap ≤ maxLen) (hbase : base ≤ w.heap.size) (ok : Nat → Prop) (hok : ok w.heap.size) :
    Kd.R (Kd.int .i64) 3 (w.drew.alloc (.cells (vs.toArray ++ Builtin.zeroCells (Value.int .i64 0).cells k) 3)) base ok (.slice (some ⟨w.heap.size, 0, none⟩) xs.length cap) xs := by
  have hl : vs.length = xs.length := by rw [hv, List.length_map]
  refine own_laid (cur := vs.toArray ++ Builtin.zeroCells (Value.int .i64 0).cells k) (g := w.heap.size) hbase (heap_alloc_new w.drew _) rfl (by omega) hm ?_ ?_ ok hok
  · rw [Array.size_append, size_zeroCells]
    show vs.length + k * 1 = cap
    omega
  · rw [Array.toList_append, List.take_append_of_le_length (by simp; omega)]
    show vs.take xs.length = _
    rw [List.take_of_length_le (by omega), hv]
theorem alloc_grown (w : World) (o : Obj) (row : Option Nat) : w.grownBy (w.drew.alloc o) row :=
  ⟨rfl, rfl, rfl, (below_alloc (Below.refl _ w.drew) o).size, fun k hk _ => Below.heap_alloc w.drew o k hk⟩
theorem setCells_grown (w : World) (g o : Nat) (vs : List Value) : w.grownBy (w.setCells g o vs) (some g) := by
  obtain ⟨h1, h2, h3, h4⟩ := setCells_same g vs o w
  exact ⟨h1, h2, h3, Nat.le_of_eq h4.symm, fun k _ hne => setCells_far vs o k (fun e => hne (by rw [e]))⟩
theorem grown_two {w w1 w2 : World} {row : Option Nat} (h : w.grownBy w1 row) (k : w1.grownBy w2 row) : w.grownBy w2 row :=
  ⟨k.os.trans h.os, k.tape.trans h.tape, k.output.trans h.output, Nat.le_trans h.size k.size, fun j hj hn => (k.block j (Nat.lt_of_lt_of_le hj h.size) hn).trans (h.block j hj hn)⟩
set_option maxHeartbeats 4000000 in
theorem insert_calls (l : List Int) (v : Value) (i : Nat) (id : Int) (vb : Nat) (w : World) (base : Nat) (ok : Nat → Prop) (hR : Kd.R (Kd.int .i64) 3 w base ok v l) (hi : i ≤ l.length) (hl : l.length ≤ 1099511627776)
    (hvb : w.heap[vb]? = some (.cells #[.int .i64 id] 3 (0, 0))) (hne : v.ownBlock ≠ some vb) (hbase : base ≤ w.heap.size) (hfresh : ∀ k, w.heap.size ≤ k → ok k) :
    Calls Try.prog 84 #[v, .int .i64 i, .slice (some ⟨vb, 0, none⟩) 1 1] w fun e w' => ∃ v', e = .returned v' ∧ Kd.R (Kd.int .i64) 3 w' base ok v' (l.take i ++ [id] ++ l.drop i) ∧ w.grownBy w' v.ownBlock := by
  have hvs : ∀ j u, [Value.int .i64 id][j]? = some u → w.cell? ⟨vb, 0 + j, none⟩ = some u := by
    intro j u hj
    rw [Nat.zero_add, blk_cell hvb j]
    simpa using hj
  have h1v : ∀ u ∈ [Value.int .i64 id], u.oneCell' = true := by intro u hu; rw [List.mem_singleton.1 hu]; rfl
  have ho := Kd.own_of_R hR
  obtain ⟨hlen, h⟩ := ho
  rcases h with ⟨rfl, hn⟩ | ⟨g, cap, cur, rfl, hg, hb, hnc, hcm, hcs, htake⟩
  · obtain rfl : l = [] := List.eq_nil_of_length_eq_zero hn
    obtain rfl : i = 0 := by simpa using hi
    refine (Any2.slices_Insert_int_end_grow siLays none 0 0 vb 0 1 1 [] [.int .i64 id] w (by decide) (Nat.le_refl _) (by decide) (by decide) rfl rfl (fun _ => rfl) (fun a h => by cases h) hvs h1v).mono ?_
    rintro e w' ⟨rfl, rfl⟩
    have hge := grownCap_ge w (0 + 1) 0 3
    exact ⟨_, rfl, own_made [id] ([] ++ [Value.int .i64 id]) rfl (by show 1 + (grownCap w (0 + 1) 0 3 - (0 + 1)) = grownCap w (0 + 1) 0 3; omega) (grownCap_le_maxLen _ _ _ _ (by unfold maxLen; omega)) hbase ok (hfresh _ (Nat.le_refl _)), alloc_grown w _ _⟩
  · have hcsz : cur.size = cap := by simpa using hcs
    have hcl : cur.toList.length = cap := by rw [Array.length_toList]; simpa using hcs
    have htake' : cur.toList.take l.length = l.map (Value.int .i64) := by simpa [encs] using htake
    have hcells : ∀ j u, (l.map (Value.int .i64))[j]? = some u → w.cell? ⟨g, 0 + j, none⟩ = some u := by
      intro j u hj
      have hjl : j < l.length := by have := (List.getElem?_eq_some_iff.1 hj).1; simpa using this
      rw [Nat.zero_add, blk_cell hb j, ← Array.getElem?_toList]
      rw [← htake', List.getElem?_take, if_pos hjl] at hj
      exact hj
    have h1c : ∀ u ∈ l.map (Value.int .i64), u.oneCell' = true := by
      intro u hu
      obtain ⟨x, _, rfl⟩ := List.mem_map.1 hu
      rfl
    have hgv : vb ≠ g := fun e => hne (by rw [e]; rfl)
    have hspare : ∀ j, j < cap → (w.cell? ⟨g, j, none⟩).isSome = true := by
      intro j hj
      rw [blk_cell hb j, Array.getElem?_eq_getElem (by omega)]; rfl
    have hfree : ∀ j, w.frozen? ⟨g, j, none⟩ = false := fun j => blk_frozen hb j
    have hokg : ok g := hR.1 g rfl
    have hbig : (l.length + 1) * 8 ≤ 140737488355328 := by omega
    have hcap63 : cap ≤ 9223372036854775807 := by unfold maxLen at hcm; exact hcm
    by_cases hend : i = l.length
    · subst hend
      have hres : l.take l.length ++ [id] ++ l.drop l.length = l ++ [id] := by simp
      rw [hres]
      by_cases hroom : l.length + 1 ≤ cap
      · refine (Any2.slices_Insert_int_end_room siLays g 0 l.length cap vb 0 1 1 [.int .i64 id] w (by decide) hroom hcap63 rfl (fun j hj => ?_) (fun j hj => hfree _) hvs h1v).mono ?_
        · exact hspare _ (by omega)
        · rintro e w' ⟨rfl, rfl⟩
          rw [Nat.zero_add]
          obtain ⟨cur', hb', hs', ht'⟩ := setCells_row [Value.int .i64 id] l.length w cur hb (by simp; omega)
          refine ⟨_, rfl, own_laid hg hb' (by simp) hroom hcm (by rw [hs']; simpa using hcs) ?_ ok hokg, setCells_grown w g _ _⟩
          rw [ht', List.take_append_of_le_length (by simp; omega), List.take_of_length_le (by simp; omega), htake']
          simp
      · refine (Any2.slices_Insert_int_end_grow siLays (some ⟨g, 0, none⟩) l.length cap vb 0 1 1 (l.map (Value.int .i64)) [.int .i64 id] w (by decide) hnc (by omega) hbig (by simp) rfl (fun h => by cases h) (fun a ha j u hj => ?_) hvs h1v).mono ?_
        · injection ha with ha
          subst ha
          rw [Addr.add_lit]
          exact hcells j u hj
        · rintro e w' ⟨rfl, rfl⟩
          have hge := grownCap_ge w (l.length + 1) cap 3
          have hR2 := own_made (w := w) (base := base) (cap := grownCap w (l.length + 1) cap 3) (k := grownCap w (l.length + 1) cap 3 - (l.length + 1)) (l ++ [id]) (l.map (Value.int .i64) ++ [Value.int .i64 id]) (by simp) (by simp; omega) (grownCap_le_maxLen _ _ _ _ (by unfold maxLen; omega)) hbase ok (hfresh _ (Nat.le_refl _))
          rw [List.length_append] at hR2
          exact ⟨_, rfl, hR2, alloc_grown w _ _⟩
    · have hlt : i < l.length := by omega
      have hmap : (l.take i ++ [id] ++ l.drop i).map (Value.int .i64) = (l.map (Value.int .i64)).take i ++ [Value.int .i64 id] ++ (l.map (Value.int .i64)).drop i := by simp
      have hmlen : (l.take i ++ [id] ++ l.drop i).length = l.length + 1 := by simp; omega
      by_cases hroom : l.length + 1 ≤ cap
      · refine (Any2.slices_Insert_int_shift siLays g 0 l.length cap i vb 0 1 1 (l.map (Value.int .i64)) [.int .i64 id] w hlt (by decide) hroom hcap63 hgv (by simp) rfl hcells (fun j hj => ?_) (fun j hj => hfree _) hvs h1c h1v 3 3 1 cap ?_ ?_ (by omega) ?_ ?_).mono ?_
        · rw [Nat.zero_add]; exact hspare _ (by omega)
        · simp [World.shape?, hvb]
        · simp [World.shape?, hb]; simpa using hcs
        · exact blk_frozen hvb 0
        · exact blk_frozen hvb 1
        · rintro e w' ⟨rfl, rfl⟩
          rw [Nat.zero_add, Nat.zero_add]
          obtain ⟨cur', hb', hs', ht'⟩ := setCells_row ((l.map (Value.int .i64)).drop i) (i + 1) w.drew cur hb (by simp; omega)
          obtain ⟨cur2, hb2, hs2, ht2⟩ := setCells_row [Value.int .i64 id] i (w.drew.setCells g (i + 1) ((l.map (Value.int .i64)).drop i)) cur' hb' (by rw [hs']; simp; omega)
          refine ⟨_, rfl, own_laid hg hb2 hmlen hroom hcm (by rw [hs2, hs']; exact hcsz) ?_ ok hokg, ?_⟩
          · rw [hmap, ht2, ht']
            exact ins_shift cur.toList (l.map (Value.int .i64)) (.int .i64 id) i l.length (by simp) hlt (by omega) htake'
          · have h0 := setCells_grown w.drew g (i + 1) ((l.map (Value.int .i64)).drop i)
            have h0' : w.grownBy (w.drew.setCells g (i + 1) ((l.map (Value.int .i64)).drop i)) (some g) := ⟨h0.os, h0.tape, h0.output, h0.size, h0.block⟩
            exact grown_two h0' (setCells_grown _ g _ _)
      · refine (Any2.slices_Insert_int_grow siLays g 0 l.length cap i vb 0 1 1 (l.map (Value.int .i64)) [.int .i64 id] w hlt (by decide) hnc (by omega) hbig (by simp) rfl hcells hvs h1c h1v).mono ?_
        rintro e w' ⟨rfl, rfl⟩
        have hge := grownCap_ge w (l.length + 1) cap 3
        obtain ⟨C, hC⟩ : ∃ C, C = grownCap w (l.length + 1) cap 3 := ⟨_, rfl⟩
        rw [show grownCap w (l.length + 1) cap (siRen.t 3) = C from hC.symm]
        rw [← hC] at hge
        have hCm : C ≤ maxLen := by rw [hC]; exact grownCap_le_maxLen _ _ _ _ (by unfold maxLen; omega)
        obtain ⟨A0, hA0⟩ : ∃ A0 : Array Value, A0 = ((l.map (Value.int .i64)).take i).toArray ++ Builtin.zeroCells (Value.int .i64 0).cells (l.length + 1 - i) ++ Builtin.zeroCells (Value.int .i64 0).cells (C - (l.length + 1)) := ⟨_, rfl⟩
        rw [← hA0]
        have hsz : A0.size = C := by
          rw [hA0, Array.size_append, Array.size_append, size_zeroCells, size_zeroCells]
          show ((l.map (Value.int .i64)).take i).length + (l.length + 1 - i) * 1 + (C - (l.length + 1)) * 1 = C
          rw [List.length_take, List.length_map]
          omega
        have htk : A0.toList.take i = (l.map (Value.int .i64)).take i := by
          rw [hA0, Array.toList_append, Array.toList_append, List.append_assoc, List.take_append_of_le_length (by simp; omega)]
          show ((l.map (Value.int .i64)).take i).take i = _
          rw [List.take_take, Nat.min_self]
        have hal : A0.toList.length = C := by rw [Array.length_toList]; exact hsz
        have hb0 : (w.alloc (.cells A0 (siRen.t 3))).drew.heap[w.heap.size]? = some (.cells A0 3 (0, 0)) := heap_alloc_new w _
        obtain ⟨cur', hb', hs', ht'⟩ := setCells_row [Value.int .i64 id] i (w.alloc (.cells A0 (siRen.t 3))).drew A0 hb0 (by simp; omega)
        obtain ⟨cur2, hb2, hs2, ht2⟩ := setCells_row ((l.map (Value.int .i64)).drop i) (i + 1) ((w.alloc (.cells A0 (siRen.t 3))).drew.setCells w.heap.size i [Value.int .i64 id]).drew cur' hb' (by rw [hs']; simp; omega)
        have hR2 : Kd.R (Kd.int .i64) 3 (((w.alloc (.cells A0 (siRen.t 3))).drew.setCells w.heap.size i [Value.int .i64 id]).drew.setCells w.heap.size (i + 1) ((l.map (Value.int .i64)).drop i)) base ok (.slice (some ⟨w.heap.size, 0, none⟩) (l.length + 1) C) (l.take i ++ [id] ++ l.drop i) := by
          refine own_laid hbase hb2 hmlen hge hCm (by rw [hs2, hs']; exact hsz) ?_ ok (hfresh _ (Nat.le_refl _))
          rw [hmap, ht2, ht', ← htk]
          have h := ins_list A0.toList ((l.map (Value.int .i64)).drop i) (.int .i64 id) i (by omega)
          rw [show i + 1 + ((l.map (Value.int .i64)).drop i).length = l.length + 1 by simp; omega] at h
          rw [show i + [Value.int .i64 id].length = i + 1 from rfl, show i + 1 + ((l.map (Value.int .i64)).drop i).length = l.length + 1 by simp; omega]
          exact h
        refine ⟨_, rfl, hR2, ?_⟩
        have s1 := setCells_same w.heap.size [Value.int .i64 id] i (w.alloc (.cells A0 (siRen.t 3))).drew
        have s2 := setCells_same w.heap.size ((l.map (Value.int .i64)).drop i) (i + 1) ((w.alloc (.cells A0 (siRen.t 3))).drew.setCells w.heap.size i [Value.int .i64 id]).drew
        refine ⟨s2.1.trans s1.1, s2.2.1.trans s1.2.1, s2.2.2.1.trans s1.2.2.1, ?_, fun k hk hne2 => ?_⟩
        · rw [s2.2.2.2]
          show w.heap.size ≤ ((w.alloc (.cells A0 (siRen.t 3))).drew.setCells w.heap.size i [Value.int .i64 id]).heap.size
          rw [s1.2.2.2]
          exact (below_alloc (Below.refl _ w) (.cells A0 (siRen.t 3))).size
        · have hkn : k ≠ w.heap.size := by omega
          exact (setCells_far _ _ k hkn).trans ((setCells_far (w := (w.alloc (.cells A0 (siRen.t 3))).drew) _ _ k hkn).trans (Below.heap_alloc w _ k hk))
end Go.Proofs.Ytpnlbmeeihbjaaa.P
end
