/- The law NthParses (layer 4): the row and its tied card: for every input the law returns true, and the argument reads behind the call as it read before. No condition of ours. -/
import Derived.Test.YtmfnnhmlekdbjaaDoorZNP3
import Derived.Test.YtmfnnhmlekdbjaaDoorZNP7
import Derived.Lib.Builder
section
set_option linter.unusedVariables false
set_option linter.unusedSimpArgs false
namespace Go.Proofs.YtmfnnhmlekdbjaaDoor.P
open Go.RowKit Go.Proofs.YtmfnnhmlekdbjaaDoorW.PrintWords Go.Proofs.YtmfnnhmlekdbjaaDoorW.PrintLast Go.Proofs.YtmfnnhmlekdbjaaDoorW.PrintMore
set_option linter.unusedVariables false
set_option linter.unusedSimpArgs false
theorem sizeB : (Tryd.prog.info? 48).map (·.size) = some 2 := by kernel_rfl
theorem liesB : liesAt Tryd.prog Tryd.prog.depth 48 (2 / Tryd.prog.cellsOf 48) 0 48 1 = true := by kernel_rfl
set_option maxHeartbeats 2000000 in
set_option maxRecDepth 100000 in
theorem bcheck_used (b : Nat) (w : World) (h0 : w.cell? ⟨b, 0, none⟩ = some (.pointer (some ⟨b, 0, none⟩))) :
    Calls Tryd.prog 39 #[.pointer (some ⟨b, 0, none⟩)] w fun e w' => e = .returned (.tuple #[]) ∧ w' = w := by
  obtain ⟨j, hj, _⟩ := Option.map_eq_some_iff.1 sizeB
  have hu48 := Tryd.underlying48
  have hu45 := Tryd.underlying45
  go_enter Tryd.func39, Tryd.ntmps39
  go_wp2
  rw [Lib.run_neq_ptr_same w _ Tryd.underlying45 hj]
  go_wp2
  go_end0
  exact ⟨rfl, rfl⟩
set_option maxHeartbeats 2000000 in
set_option maxRecDepth 100000 in
theorem bcheck_fresh (b : Nat) (w : World) (h0 : w.cell? ⟨b, 0, none⟩ = some (.pointer none)) (hsh : w.shape? b = some (48, 2)) (hfz : w.frozen? ⟨b, 0, none⟩ = false) :
    Calls Tryd.prog 39 #[.pointer (some ⟨b, 0, none⟩)] w fun e w' => e = .returned (.tuple #[]) ∧ w' = w.setCell ⟨b, 0, none⟩ (.pointer (some ⟨b, 0, none⟩)) := by
  obtain ⟨j, hj, hjs⟩ := Option.map_eq_some_iff.1 sizeB
  have hu48 := Tryd.underlying48
  have hu45 := Tryd.underlying45
  go_enter Tryd.func39, Tryd.ntmps39
  go_wp2
  rw [Lib.run_to_unsafe w ⟨b, 0, none⟩ Tryd.underlying45 Tryd.underlying73 hj (by rw [hjs]; decide) hsh (Nat.zero_lt_succ 1)]
  simp only [Result.andThen]
  rw [Oper.upon_value]
  go_wp2
  rw [run_callFunc_extern Tryd.func54 (by kernel_rfl) (by kernel_rfl) (by kernel_rfl) (e := Extern.AbiNoEscape.same) (by kernel_rfl)]
  rw [Lib.run_noEscape]
  simp only [Result.andThen]
  rw [Oper.upon_value]
  go_wp2
  rw [Lib.run_from_unsafe w ⟨b, 0, none⟩ Tryd.underlying73 Tryd.underlying45 hj hsh liesB]
  simp only [Result.andThen]
  rw [Oper.upon_value]
  go_wp2
  go_end0
  exact ⟨rfl, rfl⟩
theorem bcheck (B b : Nat) (bs : List Value) (w : World) (h : Lib.IsBuilder 48 5 B b bs w) :
    Calls Tryd.prog 39 #[.pointer (some ⟨b, 0, none⟩)] w fun e w' => e = .returned (.tuple #[]) ∧ (Lib.BuilderAt 48 5 B b (.pointer (some ⟨b, 0, none⟩)) bs w' ∧ Below B w w') := by
  rcases h with h | h
  · refine (bcheck_fresh b w h.cell0 h.shape h.frozen0).mono ?_
    rintro e w' ⟨rfl, rfl⟩
    exact ⟨rfl, h.used _, (Below.refl B w).setCell (p := ⟨b, 0, none⟩) h.1 _⟩
  · refine (bcheck_used b w h.cell0).mono ?_
    rintro e w' ⟨rfl, rfl⟩
    exact ⟨rfl, h, Below.refl B _⟩
theorem infoU8 : (Tryd.prog.info? 5).map (fun i => (i.zero, i.size, i.bytes)) = some (some (.int .u8 0), 1, 1) := by kernel_rfl
set_option maxHeartbeats 4000000 in
set_option maxRecDepth 100000 in
theorem bwrite (B b : Nat) (bs : List Value) (s : ByteArray) (w : World) (h : Lib.IsBuilder 48 5 B b bs w) (hlen : bs.length + s.size ≤ 140737488355328) (hBw : B ≤ w.heap.size) :
    Calls Tryd.prog 29 #[.pointer (some ⟨b, 0, none⟩), .string s] w fun e w' => e = .returned (.tuple #[.int .i64 s.size, .nilIface]) ∧ (Lib.BuilderAt 48 5 B b (.pointer (some ⟨b, 0, none⟩)) (bs ++ Lib.strCells s) w' ∧ Below B w w') := by
  obtain ⟨i0, hi, hz0, hz1, hz2⟩ := info_parts infoU8
  have hu48 := Tryd.underlying48
  have hu46 := Tryd.underlying46
  have hu45 := Tryd.underlying45
  go_enter Tryd.func29, Tryd.ntmps29
  go_wp2_with (go_at_call 39; refine (bcheck B b bs _ h).mono ?_)
  rintro e w1 ⟨rfl, h1, hb1⟩
  obtain ⟨hB, v, hbk, hown, hne⟩ := h1
  have c0 : w1.cell? ⟨b, 0, none⟩ = some (.pointer (some ⟨b, 0, none⟩)) := by rw [Lib.cell_of_heap hbk]; rfl
  have c1 : w1.cell? ⟨b, 1, none⟩ = some v := by rw [Lib.cell_of_heap hbk]; rfl
  go_wp2_with (at_builtin; refine Lib.wpList_append_own_string _ rfl _ _ 46 9 rfl B 5 i0 Tryd.underlying46 Tryd.underlying9 hi hz0 hz1 hz2 _ _ _ rfl hown s rfl ?c3 ?c4 ?c5 ?_)
  case c3 => unfold maxLen; omega
  case c4 => omega
  case c5 => have := hb1.size; omega
  intro v' w2 hown' hgrow _
  have hlt : b < w1.heap.size := by
    rcases Nat.lt_or_ge b w1.heap.size with h' | h'
    · exact h'
    · simp [Array.getElem?_eq_none h'] at hbk
  have hb2 : w2.heap[b]? = some (.cells #[.pointer (some ⟨b, 0, none⟩), v] 48 (0, 0)) := by
    rw [hgrow.block b hlt (fun e => hne e.symm)]
    exact hbk
  have d0 : w2.cell? ⟨b, 0, none⟩ = some (.pointer (some ⟨b, 0, none⟩)) := by rw [Lib.cell_of_heap hb2]; rfl
  have d1 : w2.cell? ⟨b, 1, none⟩ = some v := by rw [Lib.cell_of_heap hb2]; rfl
  have f1 : w2.frozen? ⟨b, 1, none⟩ = false := Lib.frozen_of_heap hb2 1
  obtain ⟨ao, n', cap, rfl⟩ : ∃ ao n' cap, v' = .slice ao n' cap := by
    rcases hown'.2 with ⟨hv, _⟩ | ⟨g, cap, cur, hv, _⟩
    · exact ⟨_, _, _, hv⟩
    · exact ⟨_, _, _, hv⟩
  go_wp2
  go_ret2
  refine ⟨rfl, ?_, ?_⟩
  · exact Lib.BuilderAt.put (T := 48) (e := 5) hB hb2 (bs' := bs ++ Lib.strCells s) (by simpa [Lib.strCells_length] using hown') (by decide)
  · exact (hb1.grown hgrow (by have := hb1.size; omega) (fun k hk => (hown.lt k hk).1)).setCell (p := ⟨b, 1, none⟩) hB _
end Go.Proofs.YtmfnnhmlekdbjaaDoor.P
end
section
set_option linter.unusedVariables false
set_option linter.unusedSimpArgs false
namespace Go.Proofs.YtmfnnhmlekdbjaaDoor.P
open Go.RowKit Go.Proofs.YtmfnnhmlekdbjaaDoorW.PrintWords Go.Proofs.YtmfnnhmlekdbjaaDoorW.PrintLast Go.Proofs.YtmfnnhmlekdbjaaDoorW.PrintMore
open Go.Lib
attribute [local go_sem] max2_int min2_int max_two min_two max_three min_three max_four min_four
set_option linter.unusedVariables false
set_option linter.unusedSimpArgs false
theorem isB_below {B b : Nat} {bs : List Value} {w w1 : World} (h : Lib.IsBuilder 48 5 B b bs w) (hb : Below w.heap.size w w1) : Lib.IsBuilder 48 5 B b bs w1 := by
  have key : ∀ p, Lib.BuilderAt 48 5 B b p bs w → Lib.BuilderAt 48 5 B b p bs w1 := by
    rintro p ⟨h1, v, hh, ho, hn⟩
    exact ⟨h1, v, blk_below hh hb, own_move ho (fun k hk => hb.block k (own_lt ho k hk)), hn⟩
  rcases h with h | h
  · exact .inl (key _ h)
  · exact .inr (key _ h)
theorem isB_new (w : World) : Lib.IsBuilder 48 5 w.heap.size w.heap.size (Lib.byteCells []) (w.alloc (.cells #[.pointer none, .slice none 0 0] 48)) :=
  .inl ⟨Nat.le_refl _, .slice none 0 0, blk_new _ _, ⟨rfl, .inl ⟨rfl, rfl⟩⟩, by simp [Value.ownBlock]⟩
set_option maxHeartbeats 4000000 in
set_option maxRecDepth 100000 in
theorem put_calls (B b : Nat) (l : List UInt8) (s : ByteArray) (q : Bool) (w : World) (h : Lib.IsBuilder 48 5 B b (Lib.byteCells l) w) (hlen : l.length + s.size ≤ 140737488355328) (hBw : B ≤ w.heap.size) :
    Calls Tryd.prog 28 #[.string s, .bool q, .pointer (some ⟨b, 0, none⟩)] w fun e w' => e = .returned (.bool q) ∧ Lib.IsBuilder 48 5 B b (Lib.byteCells (l ++ s.data.toList)) w' ∧ Below B w w' := by
  have HW := Aside0.mk (bwrite B b (Lib.byteCells l) s w h (by rw [Lib.byteCells_length]; exact hlen) hBw)
  clear h
  go_enter Tryd.func28, Tryd.ntmps28
  go_wp2_with (first | (go_at_call 29; refine HW.out.mono ?_; rintro e w1 ⟨rfl, h1, hb1⟩; have HB1 := Aside0.mk hb1; have H1 := Aside0.mk h1; clear hb1 h1) | fail)
  go_ret
  refine ⟨rfl, .inr ?_, HB1.out⟩
  rw [Lib.byteCells_append, ← Lib.strCells_eq]
  exact H1.out
def tokS (t : S30) : Option (List UInt8) :=
  if t.f0 = 1 then some t.f1.data.toList
  else if t.f0 = 10 then (if t.f3 = true then some t.f1.data.toList else none)
  else if t.f0 = 12 then (if t.f3 = true then some (t.f1.data.toList ++ t.f2.data.toList) else none)
  else if t.f0 = 9 then (if t.f1.data.toList = [43] ∨ t.f1.data.toList = [45] then some t.f1.data.toList else none)
  else if t.f0 = 13 then some [32] else none
def toksS : List S32 → List UInt8 → Option (List UInt8)
  | [], a => some a
  | x :: l, a => (tokS x.f0).bind fun s => toksS l (a ++ s)
def bulkT : List S32 → Nat
  | [] => 0
  | x :: l => x.f0.f1.size + x.f0.f2.size + 1 + bulkT l
theorem bulkT_drop : ∀ (l : List S32) (i : Nat) (h : i < l.length), bulkT (l.drop i) = (l[i]).f0.f1.size + (l[i]).f0.f2.size + 1 + bulkT (l.drop (i + 1))
  | [], i, h => by simp at h
  | x :: l, 0, h => by simp [bulkT]
  | x :: l, i + 1, h => by simpa using bulkT_drop l i (by simpa using h)
def wrapUp (o : Option (List UInt8)) : ByteArray × Bool := match o with
  | none => (⟨#[]⟩, false)
  | some a => (foldS ⟨(Lib.trimB a 32).toArray⟩, true)
theorem trimB_len (a : List UInt8) (c : UInt8) : (Lib.trimB a c).length ≤ a.length := by
  unfold Lib.trimB Lib.trimLeftB Lib.trimRightB
  have h1 := (List.dropWhile_sublist (fun x => x == c) (l := (a.reverse.dropWhile (fun x => x == c)).reverse)).length_le
  have h2 := (List.dropWhile_sublist (fun x => x == c) (l := a.reverse)).length_le
  simp only [List.length_reverse] at h1 h2
  omega
set_option maxHeartbeats 16000000 in
set_option maxRecDepth 100000 in
theorem written_calls (l : List S32) (A : Option Addr) (c : Nat) (w : World) (hC : Kd.C k32 w A l.length l) (hc : l.length ≤ c) (hb : bulkT l ≤ 1000000) :
    Calls Tryd.prog 19 #[.slice A l.length c] w fun e w' => e = .returned (.tuple #[.string (wrapUp (toksS l [])).1, .bool (wrapUp (toksS l [])).2]) ∧ Below w.heap.size w w' := by
  have hmf : ∀ (fn : Fn) (first cap : Array Value) (w : World), (Instr.makeFunc fn first cap).run Tryd.prog w = .ok (.func fn first cap) w := fun _ _ _ _ => rfl
  have HC := Aside0.mk hC
  have HBU := Aside0.mk hb
  have HN := Aside0.mk (show l.length ≤ 1000000 by
    have : ∀ l : List S32, l.length ≤ bulkT l := by
      intro l
      induction l with
      | nil => simp [bulkT]
      | cons x r ih => simp [bulkT]; omega
    exact Nat.le_trans (this l) hb)
  obtain ⟨R, hR⟩ : ∃ R, R = wrapUp (toksS l []) := ⟨_, rfl⟩
  rw [← hR]
  have HR := Aside0.mk hR
  have hu48 := Tryd.underlying48
  have hu27 := Tryd.underlying27
  have hu32 := Tryd.underlying32
  have hu30 := Tryd.underlying30
  clear hC hb hR
  go_enter Tryd.func19, Tryd.ntmps19
  go_upto_region 2 with (fail)
  have HB0 : Aside0 (Below w.heap.size w (w.alloc (.cells #[.pointer none, .slice none 0 0] 48))) := ⟨below_alloc (Below.refl _ _) _⟩
  have HI0 : Aside0 (Lib.IsBuilder 48 5 w.heap.size w.heap.size (Lib.byteCells []) (w.alloc (.cells #[.pointer none, .slice none 0 0] 48))) := ⟨isB_new w⟩
  generalize w.alloc (.cells #[.pointer none, .slice none 0 0] 48) = W0 at HB0 HI0 ⊢
  obtain ⟨b, hbb⟩ : ∃ b, b = w.heap.size := ⟨_, rfl⟩
  have HBB := Aside0.mk hbb
  have HI0b : Aside0 (Lib.IsBuilder 48 5 w.heap.size b (Lib.byteCells []) W0) := ⟨by rw [hbb]; exact HI0.out⟩
  clear HI0
  rw [← hbb]
  clear hbb
  go_wp2_with fail
  go_loopg [13] (l.length + 1) (fun kq v13 w' => ∃ (i : Nat) (a : List UInt8), v13 = .int .i64 i ∧ Aside0 (i + kq = l.length + 1) ∧ Aside0 (i ≤ l.length) ∧ Aside0 (R = wrapUp (toksS (l.drop i) a)) ∧ Aside0 (a.length + bulkT (l.drop i) ≤ 1000000) ∧ Aside0 (Lib.IsBuilder 48 5 w.heap.size b (Lib.byteCells a) w') ∧ Aside0 (Below w.heap.size w w'))
  case atStart => exact ⟨0, [], rfl, ⟨by omega⟩, ⟨Nat.zero_le _⟩, HR, ⟨by have := HBU.out; simpa using this⟩, HI0b, HB0⟩
  case round =>
    clear HI0b HB0 HR
    obtain ⟨i, a, rfl, HK, HI, HR, HA, HIB, HB⟩ := hrel
    cases gk with
    | zero => exact absurd HK.out (by have := HI.out; omega)
    | succ g0 =>
    by_cases c0 : i < l.length
    · obtain ⟨ad, A5, c5, rfl, k0, k1, k2, k3, k4, k5, _, _⟩ := at_T32 (Kd.C_below HC.out HB.out) (i : Int) (by omega) (by omega)
      rw [Int.toNat_natCast] at k0 k1 k2 k3 k4 k5
      have hx : rd_T32 l (i : Nat) = l[i] := by unfold rd_T32; simp [List.getD_eq_getElem?_getD, List.getElem?_eq_getElem c0]
      have HST : Aside0 (toksS (l.drop i) a = (tokS (rd_T32 l (i : Nat)).f0).bind fun s => toksS (l.drop (i + 1)) (a ++ s)) := ⟨by rw [List.drop_eq_getElem_cons c0, hx]; rfl⟩
      have HBD : Aside0 (bulkT (l.drop i) = (rd_T32 l (i : Nat)).f0.f1.size + (rd_T32 l (i : Nat)).f0.f2.size + 1 + bulkT (l.drop (i + 1))) := ⟨by rw [bulkT_drop l i c0, hx]⟩
      clear hx
      generalize rd_T32 l (i : Nat) = x at k0 k1 k2 k3 k4 k5 HST HBD
      have HI0' := Aside0.mk c0
      have c1 : decide (i < l.length) = true := decide_eq_true c0
      have c2 : decide ((i : Int) < (l.length : Int)) = true := decide_eq_true (by omega)
      have z0 : (0 ≤ (i : Int)) = True := eq_true (by omega)
      have z1 : ((i : Int) < (l.length : Int)) = True := eq_true (by omega)
      clear c0
      go_upto_region 6 with (fail)
      have q0 := (blk_cell (blk_new wr (.cells #[.int .i64 x.f0.f0, .string x.f0.f1, .string x.f0.f2, .bool x.f0.f3, .bool x.f0.f4, .slice A5 x.f1.length c5] 32)) 0).trans (show _ = some (.int .i64 x.f0.f0) from rfl)
      have q1 := (blk_cell (blk_new wr (.cells #[.int .i64 x.f0.f0, .string x.f0.f1, .string x.f0.f2, .bool x.f0.f3, .bool x.f0.f4, .slice A5 x.f1.length c5] 32)) 1).trans (show _ = some (.string x.f0.f1) from rfl)
      have q2 := (blk_cell (blk_new wr (.cells #[.int .i64 x.f0.f0, .string x.f0.f1, .string x.f0.f2, .bool x.f0.f3, .bool x.f0.f4, .slice A5 x.f1.length c5] 32)) 2).trans (show _ = some (.string x.f0.f2) from rfl)
      have q3 := (blk_cell (blk_new wr (.cells #[.int .i64 x.f0.f0, .string x.f0.f1, .string x.f0.f2, .bool x.f0.f3, .bool x.f0.f4, .slice A5 x.f1.length c5] 32)) 3).trans (show _ = some (.bool x.f0.f3) from rfl)
      have q4 := (blk_cell (blk_new wr (.cells #[.int .i64 x.f0.f0, .string x.f0.f1, .string x.f0.f2, .bool x.f0.f3, .bool x.f0.f4, .slice A5 x.f1.length c5] 32)) 4).trans (show _ = some (.bool x.f0.f4) from rfl)
      have HB1 : Aside0 (Below w.heap.size w (wr.alloc (.cells #[.int .i64 x.f0.f0, .string x.f0.f1, .string x.f0.f2, .bool x.f0.f3, .bool x.f0.f4, .slice A5 x.f1.length c5] 32))) := ⟨below_alloc HB.out _⟩
      have HI1 : Aside0 (Lib.IsBuilder 48 5 w.heap.size b (Lib.byteCells a) (wr.alloc (.cells #[.int .i64 x.f0.f0, .string x.f0.f1, .string x.f0.f2, .bool x.f0.f3, .bool x.f0.f4, .slice A5 x.f1.length c5] 32))) := ⟨isB_below HIB.out (below_alloc (Below.refl _ _) _)⟩
      clear k0 k1 k2 k3 k4 k5
      generalize wr.alloc (.cells #[.int .i64 x.f0.f0, .string x.f0.f1, .string x.f0.f2, .bool x.f0.f3, .bool x.f0.f4, .slice A5 x.f1.length c5] 32) = W1 at q0 q1 q2 q3 q4 HB1 HI1 ⊢
      generalize wr.heap.size = g7 at q0 q1 q2 q3 q4 ⊢
      go_upto_region 7 with (fail)
      have m0 := (blk_cell (blk_new W1 (.cells #[.int .i64 x.f0.f0, .string x.f0.f1, .string x.f0.f2, .bool x.f0.f3, .bool x.f0.f4] 30)) 0).trans (show _ = some (.int .i64 x.f0.f0) from rfl)
      have m1 := (blk_cell (blk_new W1 (.cells #[.int .i64 x.f0.f0, .string x.f0.f1, .string x.f0.f2, .bool x.f0.f3, .bool x.f0.f4] 30)) 1).trans (show _ = some (.string x.f0.f1) from rfl)
      have m2 := (blk_cell (blk_new W1 (.cells #[.int .i64 x.f0.f0, .string x.f0.f1, .string x.f0.f2, .bool x.f0.f3, .bool x.f0.f4] 30)) 2).trans (show _ = some (.string x.f0.f2) from rfl)
      have m3 := (blk_cell (blk_new W1 (.cells #[.int .i64 x.f0.f0, .string x.f0.f1, .string x.f0.f2, .bool x.f0.f3, .bool x.f0.f4] 30)) 3).trans (show _ = some (.bool x.f0.f3) from rfl)
      have HBW2 : Aside0 (Below w.heap.size w (W1.alloc (.cells #[.int .i64 x.f0.f0, .string x.f0.f1, .string x.f0.f2, .bool x.f0.f3, .bool x.f0.f4] 30))) := ⟨below_alloc HB1.out _⟩
      have HI2 : Aside0 (Lib.IsBuilder 48 5 w.heap.size b (Lib.byteCells a) (W1.alloc (.cells #[.int .i64 x.f0.f0, .string x.f0.f1, .string x.f0.f2, .bool x.f0.f3, .bool x.f0.f4] 30))) := ⟨isB_below HI1.out (below_alloc (Below.refl _ _) _)⟩
      clear q0 q1 q2 q3 q4
      generalize W1.alloc (.cells #[.int .i64 x.f0.f0, .string x.f0.f1, .string x.f0.f2, .bool x.f0.f3, .bool x.f0.f4] 30) = W2 at m0 m1 m2 m3 HBW2 HI2 ⊢
      generalize W1.heap.size = g8 at m0 m1 m2 m3 ⊢
      obtain ⟨⟨k, s1, s2, q, q'⟩, kids⟩ := x
      simp only at m0 m1 m2 m3 HST HBD
      by_cases e1 : k = 1
      · have d1 : (k == 1) = true := beq_iff_eq.mpr e1
        have HTS : Aside0 (tokS ⟨k, s1, s2, q, q'⟩ = some s1.data.toList) := ⟨by unfold tokS; rw [if_pos e1]⟩
        clear e1
        go_wp2_with fail
        refine (put_calls w.heap.size b a s1 true W2 HI2.out (by have := HA.out; have := HBD.out; omega) HBW2.out.size).mono ?_
        rintro e W3 ⟨rfl, hi3, hb3⟩
        have HI3 := Aside0.mk hi3
        have HB3 := Aside0.mk (HBW2.out.trans hb3)
        clear hi3 hb3
        go_wp2_with fail
        go_roundg g0
        case measure => have := HK.out; omega
        case rel => exact ⟨i + 1, _, (by have := HI0'.out; have := HN.out; congr 1; unfold wrap64; omega), ⟨by have := HK.out; omega⟩, ⟨HI0'.out⟩, ⟨by rw [HR.out, HST.out, HTS.out]; rfl⟩, ⟨by have := HA.out; have := HBD.out; simp only [List.length_append]; have e := (Lib.size_eq s1); omega⟩, HI3, HB3⟩
      have d1 : (k == 1) = false := beq_eq_false_iff_ne.mpr e1
      by_cases e2 : k = 10
      · have d2 : (k == 10) = true := beq_iff_eq.mpr e2
        cases q with
        | true =>
          have HTS : Aside0 (tokS ⟨k, s1, s2, true, q'⟩ = some s1.data.toList) := ⟨by unfold tokS; rw [if_neg e1, if_pos e2]; rfl⟩
          clear e1 e2
          go_wp2_with fail
          refine (put_calls w.heap.size b a s1 true W2 HI2.out (by have := HA.out; have := HBD.out; omega) HBW2.out.size).mono ?_
          rintro e W3 ⟨rfl, hi3, hb3⟩
          have HI3 := Aside0.mk hi3
          have HB3 := Aside0.mk (HBW2.out.trans hb3)
          clear hi3 hb3
          go_wp2_with fail
          go_roundg g0
          case measure => have := HK.out; omega
          case rel => exact ⟨i + 1, _, (by have := HI0'.out; have := HN.out; congr 1; unfold wrap64; omega), ⟨by have := HK.out; omega⟩, ⟨HI0'.out⟩, ⟨by rw [HR.out, HST.out, HTS.out]; rfl⟩, ⟨by have := HA.out; have := HBD.out; simp only [List.length_append]; have e := (Lib.size_eq s1); omega⟩, HI3, HB3⟩
        | false =>
          have HTS : Aside0 (tokS ⟨k, s1, s2, false, q'⟩ = none) := ⟨by unfold tokS; rw [if_neg e1, if_pos e2]; rfl⟩
          clear e1 e2
          go_wp2_with fail
          refine (put_calls w.heap.size b a s1 false W2 HI2.out (by have := HA.out; have := HBD.out; omega) HBW2.out.size).mono ?_
          rintro e W3 ⟨rfl, hi3, hb3⟩
          have HB3 := Aside0.mk (HBW2.out.trans hb3)
          clear hi3 hb3
          go_wp2_with fail
          go_ret2
          exact ⟨by rw [HR.out, HST.out, HTS.out]; rfl, HB3.out⟩
      have d2 : (k == 10) = false := beq_eq_false_iff_ne.mpr e2
      by_cases e3 : k = 12
      · have d3 : (k == 12) = true := beq_iff_eq.mpr e3
        have hcat : s1.size + s2.size ≤ 9223372036854775807 := by have := HA.out; have := HBD.out; omega
        have hcat2 : (9223372036854775807 < s1.size + s2.size) = False := eq_false (by omega)
        have hcat3 : (s1.size + s2.size ≤ 9223372036854775807) = True := eq_true hcat
        cases q with
        | true =>
          have HTS : Aside0 (tokS ⟨k, s1, s2, true, q'⟩ = some (s1.data.toList ++ s2.data.toList)) := ⟨by unfold tokS; rw [if_neg e1, if_neg e2, if_pos e3]; rfl⟩
          clear e1 e2 e3
          go_wp2_with fail
          refine (put_calls w.heap.size b a (s1 ++ s2) true W2 HI2.out (by have := HA.out; have := HBD.out; rw [ByteArray.size_append]; omega) HBW2.out.size).mono ?_
          rintro e W3 ⟨rfl, hi3, hb3⟩
          have HI3 := Aside0.mk hi3
          have HB3 := Aside0.mk (HBW2.out.trans hb3)
          clear hi3 hb3
          go_wp2_with fail
          go_roundg g0
          case measure => have := HK.out; omega
          case rel => exact ⟨i + 1, _, (by have := HI0'.out; have := HN.out; congr 1; unfold wrap64; omega), ⟨by have := HK.out; omega⟩, ⟨HI0'.out⟩, ⟨by rw [HR.out, HST.out, HTS.out]; rfl⟩, ⟨by have := HA.out; have := HBD.out; simp only [List.length_append]; have e := (Lib.size_eq (s1 ++ s2)); rw [ByteArray.size_append] at e; omega⟩, HI3, HB3⟩
        | false =>
          have HTS : Aside0 (tokS ⟨k, s1, s2, false, q'⟩ = none) := ⟨by unfold tokS; rw [if_neg e1, if_neg e2, if_pos e3]; rfl⟩
          clear e1 e2 e3
          go_wp2_with fail
          refine (put_calls w.heap.size b a (s1 ++ s2) false W2 HI2.out (by have := HA.out; have := HBD.out; rw [ByteArray.size_append]; omega) HBW2.out.size).mono ?_
          rintro e W3 ⟨rfl, hi3, hb3⟩
          have HB3 := Aside0.mk (HBW2.out.trans hb3)
          clear hi3 hb3
          go_wp2_with fail
          go_ret2
          exact ⟨by rw [HR.out, HST.out, HTS.out]; rfl, HB3.out⟩
      have d3 : (k == 12) = false := beq_eq_false_iff_ne.mpr e3
      by_cases e4 : k = 9
      · have d4 : (k == 9) = true := beq_iff_eq.mpr e4
        have hl1 : s1.toList = s1.data.toList := Lib.toList_data s1
        by_cases f1 : s1.data.toList = [43]
        · have HTS : Aside0 (tokS ⟨k, s1, s2, q, q'⟩ = some s1.data.toList) := ⟨by unfold tokS; rw [if_neg e1, if_neg e2, if_neg e3, if_pos e4, if_pos (.inl f1)]⟩
          have g1 : (s1.toList == [43]) = true := by rw [hl1, f1]; rfl
          clear e1 e2 e3 e4 f1 hl1
          go_wp2_with fail
          refine (put_calls w.heap.size b a s1 true W2 HI2.out (by have := HA.out; have := HBD.out; omega) HBW2.out.size).mono ?_
          rintro e W3 ⟨rfl, hi3, hb3⟩
          have HI3 := Aside0.mk hi3
          have HB3 := Aside0.mk (HBW2.out.trans hb3)
          clear hi3 hb3
          go_wp2_with fail
          go_roundg g0
          case measure => have := HK.out; omega
          case rel => exact ⟨i + 1, _, (by have := HI0'.out; have := HN.out; congr 1; unfold wrap64; omega), ⟨by have := HK.out; omega⟩, ⟨HI0'.out⟩, ⟨by rw [HR.out, HST.out, HTS.out]; rfl⟩, ⟨by have := HA.out; have := HBD.out; simp only [List.length_append]; have e := (Lib.size_eq s1); omega⟩, HI3, HB3⟩
        by_cases f2 : s1.data.toList = [45]
        · have HTS : Aside0 (tokS ⟨k, s1, s2, q, q'⟩ = some s1.data.toList) := ⟨by unfold tokS; rw [if_neg e1, if_neg e2, if_neg e3, if_pos e4, if_pos (.inr f2)]⟩
          have g1 : (s1.toList == [43]) = false := by rw [hl1, f2]; rfl
          have g2 : (s1.toList == [45]) = true := by rw [hl1, f2]; rfl
          clear e1 e2 e3 e4 f1 f2 hl1
          go_wp2_with fail
          refine (put_calls w.heap.size b a s1 true W2 HI2.out (by have := HA.out; have := HBD.out; omega) HBW2.out.size).mono ?_
          rintro e W3 ⟨rfl, hi3, hb3⟩
          have HI3 := Aside0.mk hi3
          have HB3 := Aside0.mk (HBW2.out.trans hb3)
          clear hi3 hb3
          go_wp2_with fail
          go_roundg g0
          case measure => have := HK.out; omega
          case rel => exact ⟨i + 1, _, (by have := HI0'.out; have := HN.out; congr 1; unfold wrap64; omega), ⟨by have := HK.out; omega⟩, ⟨HI0'.out⟩, ⟨by rw [HR.out, HST.out, HTS.out]; rfl⟩, ⟨by have := HA.out; have := HBD.out; simp only [List.length_append]; have e := (Lib.size_eq s1); omega⟩, HI3, HB3⟩
        · have HTS : Aside0 (tokS ⟨k, s1, s2, q, q'⟩ = none) := ⟨by unfold tokS; rw [if_neg e1, if_neg e2, if_neg e3, if_pos e4, if_neg (fun h => h.elim f1 f2)]⟩
          have g1 : (s1.toList == [43]) = false := by rw [hl1]; exact beq_eq_false_iff_ne.mpr f1
          have g2 : (s1.toList == [45]) = false := by rw [hl1]; exact beq_eq_false_iff_ne.mpr f2
          clear e1 e2 e3 e4 f1 f2 hl1
          go_wp2_with fail
          refine (put_calls w.heap.size b a s1 false W2 HI2.out (by have := HA.out; have := HBD.out; omega) HBW2.out.size).mono ?_
          rintro e W3 ⟨rfl, hi3, hb3⟩
          have HB3 := Aside0.mk (HBW2.out.trans hb3)
          clear hi3 hb3
          go_wp2_with fail
          go_ret2
          exact ⟨by rw [HR.out, HST.out, HTS.out]; rfl, HB3.out⟩
      have d4 : (k == 9) = false := beq_eq_false_iff_ne.mpr e4
      by_cases e5 : k = 13
      · have d5 : (k == 13) = true := beq_iff_eq.mpr e5
        have HTS : Aside0 (tokS ⟨k, s1, s2, q, q'⟩ = some [32]) := ⟨by unfold tokS; rw [if_neg e1, if_neg e2, if_neg e3, if_neg e4, if_pos e5]⟩
        clear e1 e2 e3 e4 e5
        go_wp2_with fail
        refine (put_calls w.heap.size b a ⟨#[32]⟩ true W2 HI2.out (by have := HA.out; have := HBD.out; show _ + 1 ≤ _; omega) HBW2.out.size).mono ?_
        rintro e W3 ⟨rfl, hi3, hb3⟩
        have HI3 := Aside0.mk hi3
        have HB3 := Aside0.mk (HBW2.out.trans hb3)
        clear hi3 hb3
        go_wp2_with fail
        go_roundg g0
        case measure => have := HK.out; omega
        case rel => exact ⟨i + 1, _, (by have := HI0'.out; have := HN.out; congr 1; unfold wrap64; omega), ⟨by have := HK.out; omega⟩, ⟨HI0'.out⟩, ⟨by rw [HR.out, HST.out, HTS.out]; rfl⟩, ⟨by have := HA.out; have := HBD.out; simp only [List.length_append]; show _ + 1 + _ ≤ _; omega⟩, HI3, HB3⟩
      · have d5 : (k == 13) = false := beq_eq_false_iff_ne.mpr e5
        have HTS : Aside0 (tokS ⟨k, s1, s2, q, q'⟩ = none) := ⟨by unfold tokS; rw [if_neg e1, if_neg e2, if_neg e3, if_neg e4, if_neg e5]⟩
        clear e1 e2 e3 e4 e5
        go_wp2_with fail
        go_ret2
        exact ⟨by rw [HR.out, HST.out, HTS.out]; rfl, HBW2.out⟩
    · have c1 : decide (i < l.length) = false := decide_eq_false c0
      have c2 : decide ((i : Int) < (l.length : Int)) = false := decide_eq_false (by omega)
      have HRR : Aside0 (R = (foldS ⟨(Lib.trimB a 32).toArray⟩, true)) := ⟨by
        have hr := HR.out
        rw [List.drop_of_length_le (by omega)] at hr
        exact hr⟩
      have HAL : Aside0 (a.length ≤ 1000000) := ⟨by have := HA.out; omega⟩
      have HSTR := Aside0.mk (fun W h => Tryd.Builder_String_any w.heap.size b a W h)
      have HTRIM := Aside0.mk (fun (s : ByteArray) W (hs : s.size ≤ 9223372036854775807) => (show Calls Tryd.prog 31 #[.string s, .string ⟨#[32]⟩] W _ from Any.strings_Trim_one Tryd.lays160 s 32 (by decide) W hs))
      clear c0
      go_wp2_with (first
        | (go_at_call 32; refine (HSTR.out _ HIB.out HB.out.size).mono ?_; rintro e W3 ⟨rfl, hb3⟩; have HB3 := Aside0.mk (HB.out.trans hb3); clear hb3)
        | (go_at_call 31; refine (HTRIM.out _ _ (by have := HAL.out; show a.toArray.size ≤ _; simp; omega)).mono ?_; rintro e W4 ⟨rfl, hw⟩; have HB4 := Aside0.mk (show Below w.heap.size w W4 by rcases hw with rfl | rfl; exact HB3.out; exact below_drew1 HB3.out); clear hw)
        | (go_at_call 30; refine (fold_calls _ (by have h1 := trimB_len a 32; have h2 := HAL.out; show (Lib.trimB a 32).toArray.size ≤ _; simp; omega) _).mono ?_; rintro e W5 ⟨rfl, hb5⟩; have HB5 := Aside0.mk (below_then HB4.out HB4.out.size hb5); clear hb5)
        | fail)
      go_ret2
      exact ⟨by rw [HRR.out]; rfl, HB5.out⟩
def nth_written.f (l0 : List S32) : Option (ByteArray × Bool) := if bulkT l0 ≤ 1000000 then some (wrapUp (toksS l0 [])) else none
theorem nth_written.calls (A0 : Option Addr) (c0 : Nat) (l0 : List S32) (r1 : ByteArray) (r2 : Bool) (w : World) (hr0 : Kd.C k32 w A0 l0.length l0) (hc0 : l0.length ≤ c0) (h : nth_written.f l0 = some (r1, r2)) :
    Calls Tryd.prog 19 #[.slice A0 l0.length c0] w fun e w' => e = .returned (.tuple #[.string r1, .bool r2]) ∧ Below w.heap.size w w' := by
  unfold nth_written.f at h
  split at h
  · rename_i hb
    have h2 := Option.some.inj h
    have := written_calls l0 A0 c0 w hr0 hc0 hb
    rw [h2] at this
    exact this
  · cases h
end Go.Proofs.YtmfnnhmlekdbjaaDoor.P
end
