/- WalkOnce: for every input the law returns true, and each argument reads behind the call as it read before. -/
import Derived.Test.YtpnlbmeeihbjaaaZWC12
import Derived.Shelf.SlicesE.DeleteFunc
import Derived.Lib.RowBridge
section
set_option linter.unusedVariables false
set_option linter.unusedSimpArgs false
namespace Go.Proofs.Ytpnlbmeeihbjaaa.P
open Go.RowKit Go.Proofs.YtpnlbmeeihbjaaaW.PrintWords Go.Proofs.YtpnlbmeeihbjaaaW.PrintLast Go.Proofs.YtpnlbmeeihbjaaaW.PrintMore
open Go.Shelf Go.Lib Go.Sort
set_option linter.unusedVariables false
set_option linter.unusedSimpArgs false
def dfRen : Go.Shelf.Ren := ⟨fun | 6 => 104 | 10 => 86 | n => n, fun | 22 => 29 | 23 => 3 | 25 => 105 | n => n, fun n => n⟩
theorem dfLays : SlLaysH.n10 Try.prog dfRen := {
  mixed := by kernel_rfl
  f6 := ⟨"slices.IndexFunc[[]int,int]", by kernel_rfl, by kernel_rfl⟩
  f10 := ⟨"slices.DeleteFunc[[]int,int]", by kernel_rfl, by kernel_rfl⟩
  t0 := by kernel_rfl
  a0 := fun w => by kernel_rfl
  z0 := fun w => by kernel_rfl
  v0 := fun w => by kernel_rfl
  t3 := by kernel_rfl
  a3 := fun w => by kernel_rfl
  z3 := fun w => by kernel_rfl
  v3 := fun w => by kernel_rfl
  t4 := by kernel_rfl
  a4 := fun w => by kernel_rfl
  z4 := fun w => by kernel_rfl
  v4 := fun w => by kernel_rfl
  t22 := by kernel_rfl
  a22 := fun w => by kernel_rfl
  z22 := fun w => by kernel_rfl
  v22 := fun w => by kernel_rfl
  a23 := fun w => by kernel_rfl
  z23 := fun w => by kernel_rfl
  t25 := by kernel_rfl
  a25 := fun w => by kernel_rfl
  z25 := fun w => by kernel_rfl
  v25 := fun w => by kernel_rfl }
theorem df_eg : ∀ args w, (callFunc 87 args).run Try.prog w = .ok (.enter 87 args) w := enters_of Try.func87 (by kernel_rfl) rfl
theorem df_gives (id x : Int) (B : Nat) (W : World) (hc : W.cell? ⟨B, 0, none⟩ = some (.int .i64 id)) :
    FnGives Try.prog 87 #[.pointer (some ⟨B, 0, none⟩)] #[.int .i64 x] (.bool (x == id)) W := by
  show Calls Try.prog 87 #[.int .i64 x, .pointer (some ⟨B, 0, none⟩)] W _
  go_enter Try.func87, Try.ntmps87
  go_wp2
  all_goals (go_ret; exact ⟨rfl, 0, rfl⟩)
theorem df_pred (id : Int) (B : Nat) (w : World) (hB : B < w.heap.size) (hcell : w.cell? ⟨B, 0, none⟩ = some (.int .i64 id)) :
    PredAt Try.prog 87 #[.pointer (some ⟨B, 0, none⟩)] (Value.int .i64) (fun x => x == id) w :=
  fun W x hb => df_gives id x B W ((hb.cell (p := ⟨B, 0, none⟩) hB).trans hcell)
theorem df_over (id : Int) (B blk off size : Nat) (w : World) (hB : B < w.heap.size) (hne : B ≠ blk) (hcell : w.cell? ⟨B, 0, none⟩ = some (.int .i64 id)) :
    PredOver Try.prog 87 #[.pointer (some ⟨B, 0, none⟩)] (Value.int .i64) (fun x => x == id) blk off size w :=
  fun n os dk x _ => df_gives id x B _ (by
    unfold sortWorld
    rw [cell?_grow _ _ _ (by show B < (putRow _ _ _ _ _).heap.size; rw [size_putRow]; exact hB), cell?_putRow_other _ _ blk off _ _ (Or.inl hne)]
    exact hcell)
theorem drewN_grown (w : World) (q : Nat) (row : Option Nat) : w.grownBy (w.drewN q) row := ⟨rfl, rfl, rfl, Nat.le_refl _, fun _ _ _ => rfl⟩
theorem del_pad (xs : List Int) (n : Nat) (h : xs.length ≤ n) : (xs ++ List.replicate (n - xs.length) (0 : Int)).length = n := by simp; omega
set_option maxHeartbeats 4000000 in
theorem delete_calls (l : List Int) (v : Value) (id : Int) (vb : Nat) (w : World) (base : Nat) (ok : Nat → Prop) (hR : Kd.R (Kd.int .i64) 3 w base ok v l) (hl : l.length ≤ 1099511627776)
    (hvb : w.heap[vb]? = some (.cells #[.int .i64 id] 3 (0, 0))) (hne : v.ownBlock ≠ some vb) :
    Calls Try.prog 86 #[v, .func (.func 87) #[] #[.pointer (some ⟨vb, 0, none⟩)]] w fun e w' => ∃ v', e = .returned v' ∧ Kd.R (Kd.int .i64) 3 w' base ok v' (l.filter fun x => !(x == id)) ∧ w.grownBy w' v.ownBlock := by
  have hcell := (blk_cell hvb 0).trans (show _ = some (.int .i64 id) from rfl)
  have hlt := blk_lt hvb
  have ho := Kd.own_of_R hR
  obtain ⟨hlen, h⟩ := ho
  rcases h with ⟨rfl, hn⟩ | ⟨g, cap, cur, rfl, hg, hb, hnc, hcm, hcs, htake⟩
  · obtain rfl : l = [] := List.eq_nil_of_length_eq_zero hn
    have hIF := AnyE.slices_IndexFunc_empty (P := Try.prog) (ρ := dfRen) { dfLays with } none 0 (.func (.func 87) #[] #[.pointer (some ⟨vb, 0, none⟩)]) w
    change Calls Try.prog 104 _ _ _ at hIF
    clear hvb hcell hlt
    go_enter Try.func86, Try.ntmps86
    go_wp2_with (first | (go_at_call 104; refine hIF.mono ?_; rintro e w' ⟨rfl, rfl⟩) | fail)
    go_ret
    exact ⟨_, rfl, hR, ⟨rfl, rfl, rfl, Nat.le_refl _, fun _ _ _ => rfl⟩⟩
  · have hcsz : cur.size = cap := by simpa using hcs
    have htake' : cur.toList.take l.length = l.map (Value.int .i64) := by simpa [encs] using htake
    have hcells : ∀ j u, (l.map (Value.int .i64))[j]? = some u → w.cell? ⟨g, 0 + j, none⟩ = some u := by
      intro j u hj
      have hjl : j < l.length := by have := (List.getElem?_eq_some_iff.1 hj).1; simpa using this
      rw [Nat.zero_add, blk_cell hb j, ← Array.getElem?_toList]
      rw [← htake', List.getElem?_take, if_pos hjl] at hj
      exact hj
    have hH : Holds (Value.int .i64) w g 0 l.toArray := by
      intro j hj
      have hj' : j < l.length := by simpa using hj
      refine ⟨?_, by rw [Nat.zero_add]; exact blk_frozen hb j⟩
      rw [hcells j (.int .i64 l[j]) (by simp [hj'])]
      simp [hj']
    have hgv : vb ≠ g := fun e => hne (by rw [e]; rfl)
    have hD := AnyE.slices_DeleteFunc dfLays (Value.int .i64) (fun _ => rfl) (fun x => x == id) 87 #[.pointer (some ⟨vb, 0, none⟩)] df_eg 0 (fun w => by kernel_rfl) g 0 cap l.toArray w (df_pred id vb w hlt hcell) (df_over id vb g 0 _ w hlt hgv hcell) hH (by simp; omega) (by simpa using hnc)
    change Calls Try.prog 86 _ _ _ at hD
    refine hD.mono ?_
    rintro e w' ⟨rfl, q, rfl⟩
    have hfl : (l.filter fun x => !(x == id)).length ≤ l.length := List.length_filter_le _ _
    obtain ⟨ys, hys⟩ : ∃ ys, ys = (l.filter fun x => !(x == id)) ++ List.replicate (l.length - (l.filter fun x => !(x == id)).length) (0 : Int) := ⟨_, rfl⟩
    have hyl : ys.length = l.length := by rw [hys]; exact del_pad _ _ hfl
    show ∃ v', _ ∧ Kd.R (Kd.int .i64) 3 (putRow (Value.int .i64) (Sort.ahead w q) g 0 (((l.toArray).toList.filter fun x => !(x == id)) ++ List.replicate ((l.toArray).size - ((l.toArray).toList.filter fun x => !(x == id)).length) (0 : Int)).toArray) base ok v' _ ∧ w.grownBy (putRow (Value.int .i64) (Sort.ahead w q) g 0 (((l.toArray).toList.filter fun x => !(x == id)) ++ List.replicate ((l.toArray).size - ((l.toArray).toList.filter fun x => !(x == id)).length) (0 : Int)).toArray) _
    simp only [List.size_toArray]
    rw [← hys, putRow_eq_setCells (Value.int .i64) w g 0 l.toArray ys q hH (by simpa using hyl)]
    obtain ⟨cur', hb', hs', ht'⟩ := setCells_row (ys.map (Value.int .i64)) 0 (w.drewN q) cur hb (by simp; omega)
    refine ⟨_, rfl, own_laid hg hb' rfl (Nat.le_trans hfl hnc) hcm (by rw [hs']; exact hcsz) ?_ ok (hR.1 g rfl), ?_⟩
    · rw [ht', List.take_zero, List.nil_append, hys, List.map_append, List.append_assoc, List.take_append_of_le_length (by simp), List.take_of_length_le (by simp)]
    · exact grown_two (drewN_grown w q _) (setCells_grown _ g _ _)
end Go.Proofs.Ytpnlbmeeihbjaaa.P
end
