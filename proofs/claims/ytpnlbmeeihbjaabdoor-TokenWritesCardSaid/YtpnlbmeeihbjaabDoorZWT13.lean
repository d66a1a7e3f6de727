/- The law TokenWrites (layer 2): the row and its tied card: for every input the law returns true, and the arguments read behind the call as they read before. No condition of ours. -/
import Derived.Test.YtpnlbmeeihbjaabDoorZWT12
import Derived.Lib.FrozenHead2
import Derived.Lib.UnsafeStr
import Derived.Lib.OthersKept
section
set_option linter.unusedVariables false
set_option linter.unusedSimpArgs false
namespace Go.Proofs.YtpnlbmeeihbjaabDoor.P
open Go.RowKit Go.Proofs.YtpnlbmeeihbjaabDoorW.PrintWords Go.Proofs.YtpnlbmeeihbjaabDoorW.PrintLast Go.Proofs.YtpnlbmeeihbjaabDoorW.PrintMore
open Go.Lib
attribute [local go_sem] max2_int min2_int max_two min_two max_three min_three max_four min_four
set_option linter.unusedVariables false
set_option linter.unusedSimpArgs false
open Go.Lib
theorem encodeRune_ne (r : Int) : Lib.encodeRune r ≠ [] := by
  intro h
  have h2 := (Lib.runeCells_le r).1
  rw [Lib.runeCells_length, h] at h2
  simp at h2
theorem Tryd.info5b : (Tryd.prog.info? 5).map (fun i => (i.zero, i.size, i.bytes)) = some (some (.int .u8 0), 1, 1) := by kernel_rfl
theorem byteCells_str (s : ByteArray) : Lib.byteCells s.data.toList = Lib.strCells s := rfl
theorem liesW : liesAt Tryd.prog Tryd.prog.depth 46 (2 / Tryd.prog.cellsOf 46) 0 44 1 = true := by kernel_rfl
def Blw (w : World) (B b : Nat) (l : List UInt8) : Prop :=
  ∃ p, (p = .pointer none ∨ p = .pointer (some ⟨b, 0, none⟩)) ∧ Lib.BuilderAtF 46 5 B b p (Lib.byteCells l) w ∧ (l = [] → w.heap[b]? = some (.cells #[p, .slice none 0 0] 46 (0, 0)))
theorem Blw.new (w : World) (B : Nat) (hB : B ≤ w.heap.size) : Blw (w.alloc (.cells #[.pointer none, .slice none 0 0] 46)) B w.heap.size [] :=
  ⟨_, .inl rfl, ⟨hB, .slice none 0 0, blk_new w _, World.ownsRowF_nil _ _ _ _, by simp [Value.ownBlock]⟩, fun _ => blk_new w _⟩
set_option maxHeartbeats 2000000 in
set_option maxRecDepth 100000 in
theorem wcheck_fresh (b : Nat) (w : World) (h0 : w.cell? ⟨b, 0, none⟩ = some (.pointer none)) (hsh : w.shape? b = some (46, 2)) (hfz : w.frozen? ⟨b, 0, none⟩ = false) :
    Calls Tryd.prog 51 #[.pointer (some ⟨b, 0, none⟩)] w fun e w' => e = .returned (.tuple #[]) ∧ w' = w.setCell ⟨b, 0, none⟩ (.pointer (some ⟨b, 0, none⟩)) := by
  obtain ⟨j, hj, hjs⟩ := Option.map_eq_some_iff.1 sizeB
  have hu44 := Tryd.underlying44
  have hu42 := Tryd.underlying42
  go_enter Tryd.func51, Tryd.ntmps51
  go_wp2
  rw [Lib.run_to_unsafe w ⟨b, 0, none⟩ Tryd.underlying42 Tryd.underlying78 hj (by rw [hjs]; decide) hsh (Nat.zero_lt_succ 1)]
  simp only [Result.andThen]
  rw [Oper.upon_value]
  go_wp2
  rw [run_callFunc_extern Tryd.func76 (by kernel_rfl) (by kernel_rfl) (by kernel_rfl) (e := Extern.AbiNoEscape.same) (by kernel_rfl)]
  rw [Lib.run_noEscape]
  simp only [Result.andThen]
  rw [Oper.upon_value]
  go_wp2
  rw [Lib.run_from_unsafe w ⟨b, 0, none⟩ Tryd.underlying78 Tryd.underlying42 hj hsh liesW]
  simp only [Result.andThen]
  rw [Oper.upon_value]
  go_wp2
  go_end0
  exact ⟨rfl, rfl⟩
theorem wcheck {B b : Nat} {l : List UInt8} {w : World} (h : Blw w B b l) :
    Calls Tryd.prog 51 #[.pointer (some ⟨b, 0, none⟩)] w fun e w' => e = .returned (.tuple #[]) ∧ (Lib.BuilderAtF 46 5 B b (.pointer (some ⟨b, 0, none⟩)) (Lib.byteCells l) w' ∧ Below B w w' ∧ Lib.OthersKept 5 (some b) w w') := by
  obtain ⟨p, rfl | rfl, h, _⟩ := h
  · refine (wcheck_fresh b w h.cell0 h.shape h.frozen0).mono ?_
    rintro e w' ⟨rfl, rfl⟩
    exact ⟨rfl, h.used _, (Below.refl B w).setCell (p := ⟨b, 0, none⟩) h.1 _, (Lib.OthersKept.refl _ _ w).setCell ⟨b, 0, none⟩ rfl _⟩
  · refine (bcheck_used b w h.cell0).mono ?_
    rintro e w' ⟨rfl, rfl⟩
    exact ⟨rfl, h, Below.refl B _, Lib.OthersKept.refl _ _ _⟩
set_option maxHeartbeats 4000000 in
set_option maxRecDepth 100000 in
theorem wrune (B b : Nat) (l : List UInt8) (r : Int) (hr0 : -2147483648 ≤ r) (hr1 : r ≤ 2147483647) (w : World) (h : Blw w B b l) (hlen : l.length + 4 ≤ 140737488355328) (hBw : B ≤ w.heap.size) :
    Calls Tryd.prog 52 #[.pointer (some ⟨b, 0, none⟩), .int .i32 r] w fun e w' => ∃ u, e = .returned (.tuple #[u, .nilIface]) ∧ (Blw w' B b (l ++ Lib.encodeRune r) ∧ Below B w w' ∧ Lib.OthersKept 5 (some b) w w') := by
  have hu44 := Tryd.underlying44
  have hu40 := Tryd.underlying40
  have hu42 := Tryd.underlying42
  have hu46 := Tryd.underlying46
  go_enter Tryd.func52, Tryd.ntmps52
  go_wp2_with (go_at_call 51; refine (wcheck h).mono ?_)
  rintro e w1 ⟨rfl, h1, hb1, hk1⟩
  have HK1 := Aside0.mk hk1
  clear hk1
  obtain ⟨hB, v, hbk, hown, hne⟩ := h1
  rw [Lib.byteCells_length] at hown
  have c0 : w1.cell? ⟨b, 0, none⟩ = some (.pointer (some ⟨b, 0, none⟩)) := by rw [Lib.cell_of_heap hbk]; rfl
  have c1 : w1.cell? ⟨b, 1, none⟩ = some v := by rw [Lib.cell_of_heap hbk]; rfl
  obtain ⟨ao, n0, cap0, hv⟩ : ∃ ao n' cap, v = .slice ao n' cap := by
    rcases hown.2 with ⟨hv, _⟩ | ⟨g, cap, cur, fz, hv, _⟩
    · exact ⟨_, _, _, hv⟩
    · exact ⟨_, _, _, hv⟩
  subst hv
  go_wp2_with fail
  have hs1 := hb1.size
  refine (append_rune B _ l.length (Lib.byteCells l) r hr0 hr1 w1 hown hlen (by omega)).mono ?_
  rintro e w2 ⟨v', rfl, hown', o, hgrow⟩
  have hgrow : (w1.alloc o).grownBy w2 (Value.slice ao n0 cap0).ownBlock := hgrow
  have hlt : b < w1.heap.size := by
    rcases Nat.lt_or_ge b w1.heap.size with h' | h'
    · exact h'
    · simp [Array.getElem?_eq_none h'] at hbk
  have hb2 : w2.heap[b]? = some (.cells #[.pointer (some ⟨b, 0, none⟩), .slice ao n0 cap0] 46 (0, 0)) := by
    rw [hgrow.block b (by rw [World.size_alloc]; omega) (fun e => hne e.symm)]
    exact (alloc_old w1 _ b hlt).trans hbk
  have d0 : w2.cell? ⟨b, 0, none⟩ = some (.pointer (some ⟨b, 0, none⟩)) := by rw [Lib.cell_of_heap hb2]; rfl
  have d1 : w2.cell? ⟨b, 1, none⟩ = some (.slice ao n0 cap0) := by rw [Lib.cell_of_heap hb2]; rfl
  have f1 : w2.frozen? ⟨b, 1, none⟩ = false := Lib.frozen_of_heap hb2 1
  obtain ⟨ao', n', cap, rfl⟩ : ∃ ao n' cap, v' = .slice ao n' cap := by
    rcases hown'.2 with ⟨hv, _⟩ | ⟨g, cap, cur, fz, hv, _⟩
    · exact ⟨_, _, _, hv⟩
    · exact ⟨_, _, _, hv⟩
  go_wp2
  go_ret2
  refine ⟨_, rfl, ?_, ?_, ?_⟩
  · exact ⟨_, .inr rfl, Lib.BuilderAtF.put (T := 46) (e := 5) hB hb2 (bs' := Lib.byteCells (l ++ Lib.encodeRune r)) (by rw [Lib.byteCells_append, Lib.byteCells_encodeRune, List.length_append, Lib.byteCells_length]; exact hown') (by decide), fun h => absurd h (by simp [encodeRune_ne])⟩
  · have ha : ∀ o, Below B w1 (w1.alloc o) := fun o => ⟨rfl, rfl, rfl, by rw [World.size_alloc]; omega, fun k hk => alloc_old w1 o k (by omega)⟩
    exact ((hb1.trans (ha _)).grown hgrow (by rw [World.size_alloc]; omega) (fun k hk => (hown.lt k hk).1)).setCell (p := ⟨b, 1, none⟩) hB _
  · exact ((HK1.out.alloc _).grown hgrow (fun k hk => by obtain ⟨c, fz, hc⟩ := ownsRowF_kind hown k hk; exact ⟨c, fz, (alloc_old w1 _ k (blk_lt hc)).trans hc⟩)).setCell ⟨b, 1, none⟩ rfl _
set_option maxHeartbeats 4000000 in
set_option maxRecDepth 100000 in
theorem wbyte (B b : Nat) (l : List UInt8) (x : UInt8) (w : World) (h : Blw w B b l) (hlen : l.length + 1 ≤ 140737488355328) (hBw : B ≤ w.heap.size) :
    Calls Tryd.prog 25 #[.pointer (some ⟨b, 0, none⟩), .int .u8 (x.toNat : Int)] w fun e w' => e = .returned .nilIface ∧ (Blw w' B b (l ++ [x]) ∧ Below B w w' ∧ Lib.OthersKept 5 (some b) w w') := by
  have hu44 := Tryd.underlying44
  have hu40 := Tryd.underlying40
  have hu42 := Tryd.underlying42
  have hu46 := Tryd.underlying46
  obtain ⟨i0, hi, hz0, hz1, hz2⟩ := info_parts Tryd.info5b
  go_enter Tryd.func25, Tryd.ntmps25
  go_wp2_with (go_at_call 51; refine (wcheck h).mono ?_)
  rintro e w1 ⟨rfl, h1, hb1, hk1⟩
  have HK1 := Aside0.mk hk1
  clear hk1
  obtain ⟨hB, v, hbk, hown, hne⟩ := h1
  rw [Lib.byteCells_length] at hown
  have c0 : w1.cell? ⟨b, 0, none⟩ = some (.pointer (some ⟨b, 0, none⟩)) := by rw [Lib.cell_of_heap hbk]; rfl
  have c1 : w1.cell? ⟨b, 1, none⟩ = some v := by rw [Lib.cell_of_heap hbk]; rfl
  obtain ⟨ao, n0, cap0, hv⟩ : ∃ ao n' cap, v = .slice ao n' cap := by
    rcases hown.2 with ⟨hv, _⟩ | ⟨g, cap, cur, fz, hv, _⟩
    · exact ⟨_, _, _, hv⟩
    · exact ⟨_, _, _, hv⟩
  subst hv
  have hs1 := hb1.size
  go_wp2_with (at_builtin; refine wpList_append_ownF _ rfl _ _ 40 rfl B 5 i0 (.int .u8 0) 1 1 Tryd.underlying40 hi hz0 hz1 hz2 rfl (by decide) _ _ _ rfl (hown.alloc _) ⟨w1.heap.size, 0, none⟩ 1 1 [.int .u8 (x.toNat : Int)] rfl rfl ?c1 ?c2 ?c3 ?c4 ?c5 ?_)
  case c1 =>
    intro j u hj
    match j, hj with
    | 0, hj => simp at hj; subst hj; simp [Addr.add]
  case c2 => intro u hu; simp at hu; subst hu; rfl
  case c3 => unfold maxLen; omega
  case c4 => omega
  case c5 => simp; omega
  intro v' w2 hown' hgrow _
  have hgrow : (w1.alloc _).grownBy w2 (Value.slice ao n0 cap0).ownBlock := hgrow
  have hlt : b < w1.heap.size := by
    rcases Nat.lt_or_ge b w1.heap.size with h' | h'
    · exact h'
    · simp [Array.getElem?_eq_none h'] at hbk
  have hb2 : w2.heap[b]? = some (.cells #[.pointer (some ⟨b, 0, none⟩), .slice ao n0 cap0] 46 (0, 0)) := by
    rw [hgrow.block b (by rw [World.size_alloc]; omega) (fun e => hne e.symm)]
    exact (alloc_old w1 _ b hlt).trans hbk
  have d0 : w2.cell? ⟨b, 0, none⟩ = some (.pointer (some ⟨b, 0, none⟩)) := by rw [Lib.cell_of_heap hb2]; rfl
  have d1 : w2.cell? ⟨b, 1, none⟩ = some (.slice ao n0 cap0) := by rw [Lib.cell_of_heap hb2]; rfl
  have f1 : w2.frozen? ⟨b, 1, none⟩ = false := Lib.frozen_of_heap hb2 1
  obtain ⟨ao', n', cap, rfl⟩ : ∃ ao n' cap, v' = .slice ao n' cap := by
    rcases hown'.2 with ⟨hv, _⟩ | ⟨g, cap, cur, fz, hv, _⟩
    · exact ⟨_, _, _, hv⟩
    · exact ⟨_, _, _, hv⟩
  go_wp2
  go_ret
  refine ⟨rfl, ?_, ?_, ?_⟩
  · exact ⟨_, .inr rfl, Lib.BuilderAtF.put (T := 46) (e := 5) hB hb2 (bs' := Lib.byteCells (l ++ [x])) (by rw [Lib.byteCells_append, List.length_append, Lib.byteCells_length]; exact hown') (by decide), fun h => absurd h (by simp)⟩
  · have ha : ∀ o, Below B w1 (w1.alloc o) := fun o => ⟨rfl, rfl, rfl, by rw [World.size_alloc]; omega, fun k hk => alloc_old w1 o k (by omega)⟩
    exact ((hb1.trans (ha _)).grown hgrow (by rw [World.size_alloc]; omega) (fun k hk => (hown.lt k hk).1)).setCell (p := ⟨b, 1, none⟩) hB _
  · exact ((HK1.out.alloc _).grown hgrow (fun k hk => by obtain ⟨c, fz, hc⟩ := ownsRowF_kind hown k hk; exact ⟨c, fz, (alloc_old w1 _ k (blk_lt hc)).trans hc⟩)).setCell ⟨b, 1, none⟩ rfl _
set_option maxHeartbeats 4000000 in
set_option maxRecDepth 100000 in
theorem wstr (B b : Nat) (l : List UInt8) (s : ByteArray) (hs0 : s.data.toList ≠ []) (w : World) (h : Blw w B b l) (hlen : l.length + s.size ≤ 140737488355328) (hBw : B ≤ w.heap.size) :
    Calls Tryd.prog 55 #[.pointer (some ⟨b, 0, none⟩), .string s] w fun e w' => ∃ u, e = .returned (.tuple #[u, .nilIface]) ∧ (Blw w' B b (l ++ s.data.toList) ∧ Below B w w' ∧ Lib.OthersKept 5 (some b) w w') := by
  have hu44 := Tryd.underlying44
  have hu40 := Tryd.underlying40
  have hu42 := Tryd.underlying42
  have hu46 := Tryd.underlying46
  obtain ⟨i0, hi, hz0, hz1, hz2⟩ := info_parts Tryd.info5b
  go_enter Tryd.func55, Tryd.ntmps55
  go_wp2_with (go_at_call 51; refine (wcheck h).mono ?_)
  rintro e w1 ⟨rfl, h1, hb1, hk1⟩
  have HK1 := Aside0.mk hk1
  clear hk1
  obtain ⟨hB, v, hbk, hown, hne⟩ := h1
  rw [Lib.byteCells_length] at hown
  have c0 : w1.cell? ⟨b, 0, none⟩ = some (.pointer (some ⟨b, 0, none⟩)) := by rw [Lib.cell_of_heap hbk]; rfl
  have c1 : w1.cell? ⟨b, 1, none⟩ = some v := by rw [Lib.cell_of_heap hbk]; rfl
  obtain ⟨ao, n0, cap0, hv⟩ : ∃ ao n' cap, v = .slice ao n' cap := by
    rcases hown.2 with ⟨hv, _⟩ | ⟨g, cap, cur, fz, hv, _⟩
    · exact ⟨_, _, _, hv⟩
    · exact ⟨_, _, _, hv⟩
  subst hv
  have hs1 := hb1.size
  go_wp2_with (at_builtin; refine Lib.wpList_append_own_stringF _ rfl _ _ 40 9 rfl B 5 i0 Tryd.underlying40 Tryd.underlying9 hi hz0 hz1 hz2 _ _ _ rfl hown s rfl ?c3 ?c4 ?c5 ?_)
  case c3 => unfold maxLen; omega
  case c4 => omega
  case c5 => omega
  intro v' w2 hown' hgrow _
  have hlt : b < w1.heap.size := by
    rcases Nat.lt_or_ge b w1.heap.size with h' | h'
    · exact h'
    · simp [Array.getElem?_eq_none h'] at hbk
  have hb2 : w2.heap[b]? = some (.cells #[.pointer (some ⟨b, 0, none⟩), .slice ao n0 cap0] 46 (0, 0)) := by
    rw [hgrow.block b hlt (fun e => hne e.symm)]
    exact hbk
  have d0 : w2.cell? ⟨b, 0, none⟩ = some (.pointer (some ⟨b, 0, none⟩)) := by rw [Lib.cell_of_heap hb2]; rfl
  have d1 : w2.cell? ⟨b, 1, none⟩ = some (.slice ao n0 cap0) := by rw [Lib.cell_of_heap hb2]; rfl
  have f1 : w2.frozen? ⟨b, 1, none⟩ = false := Lib.frozen_of_heap hb2 1
  obtain ⟨ao', n', cap, rfl⟩ : ∃ ao n' cap, v' = .slice ao n' cap := by
    rcases hown'.2 with ⟨hv, _⟩ | ⟨g, cap, cur, fz, hv, _⟩
    · exact ⟨_, _, _, hv⟩
    · exact ⟨_, _, _, hv⟩
  go_wp2
  go_ret2
  refine ⟨_, rfl, ?_, ?_, ?_⟩
  · exact ⟨_, .inr rfl, Lib.BuilderAtF.put (T := 46) (e := 5) hB hb2 (bs' := Lib.byteCells (l ++ s.data.toList)) (by rw [Lib.byteCells_append, List.length_append, Lib.byteCells_length, byteCells_str, Lib.strCells_length]; exact hown') (by decide), fun h => absurd h (by simp [hs0])⟩
  · exact (hb1.grown hgrow (by omega) (fun k hk => (hown.lt k hk).1)).setCell (p := ⟨b, 1, none⟩) hB _
  · exact (HK1.out.grown hgrow (ownsRowF_kind hown)).setCell ⟨b, 1, none⟩ rfl _
set_option maxHeartbeats 4000000 in
set_option maxRecDepth 100000 in
theorem wstring (B b : Nat) (l : List UInt8) (w : World) (h : Blw w B b l) :
    Calls Tryd.prog 29 #[.pointer (some ⟨b, 0, none⟩)] w fun e w' => e = .returned (.string ⟨l.toArray⟩) ∧ Below B w w' := by
  obtain ⟨p, hp, hA, hnil⟩ := h
  have hu44 := Tryd.underlying44
  have hu40 := Tryd.underlying40
  have hu42 := Tryd.underlying42
  have hu46 := Tryd.underlying46
  have hu68 := Tryd.underlying68
  have mixed := Tryd.lays169.mixed
  by_cases h0 : l = []
  · subst h0
    have hbk := hnil rfl
    have c1 : w.cell? ⟨b, 1, none⟩ = some (.slice none 0 0) := by rw [Lib.cell_of_heap hbk]; rfl
    have hSD : ∀ W : World, (Builtin.unsafeSliceData_ #[40] 68 #[.slice none 0 0]).run Tryd.prog W = .ok (.pointer none) W := fun W => Lib.run_unsafeSliceData_nil _ _ _ _ _
    have hUS : ∀ W : World, (Builtin.unsafeString_ #[68, 3] 9 #[.pointer none, .int .i64 0]).run Tryd.prog W = .ok (.string .empty) W := fun W => Lib.run_unsafeString_none _ _ _ _ _
    clear hA hbk hnil
    go_enter Tryd.func29, Tryd.ntmps29
    go_wp2
    go_region_o
    all_goals (go_wp2; go_ret; exact ⟨rfl, Below.drew (Below.refl B w)⟩)
  · obtain ⟨hB, v, hbk, hown, hne⟩ := hA
    have hl0 : l.length ≠ 0 := by simpa using h0
    rw [Lib.byteCells_length] at hown
    obtain ⟨g, cap, cur, fz, rfl, hbg, hg, hfz, hnc, hcm, hcs, htake⟩ : ∃ g cap cur fz, v = .slice (some ⟨g, 0, none⟩) l.length cap ∧ B ≤ g ∧ w.heap[g]? = some (.cells cur 5 fz) ∧ fz.2 ≤ l.length * 1 ∧ l.length ≤ cap ∧ cap ≤ maxLen ∧ cur.size = cap * 1 ∧ cur.toList.take (l.length * 1) = Lib.byteCells l := by
      rcases hown.2 with ⟨_, hz⟩ | ⟨g, cap, cur, fz, hv, r⟩
      · exact absurd hz hl0
      · exact ⟨g, cap, cur, fz, hv, r⟩
    have c1 : w.drew.cell? ⟨b, 1, none⟩ = some (.slice (some ⟨g, 0, none⟩) l.length cap) := by
      have : w.drew.heap[b]? = some (.cells #[p, .slice (some ⟨g, 0, none⟩) l.length cap] 46 (0, 0)) := hbk
      rw [Lib.cell_of_heap this]; rfl
    have hSD : (Builtin.unsafeSliceData_ #[40] 68 #[.slice (some ⟨g, 0, none⟩) l.length cap]).run Tryd.prog w.drew = .ok (.pointer (some ⟨g, 0, none⟩)) w.drew :=
      Lib.run_unsafeSliceData_row _ _ _ _ _ _ (by omega)
    have hUS : (Builtin.unsafeString_ #[68, 3] 9 #[.pointer (some ⟨g, 0, none⟩), .int .i64 l.length]).run Tryd.prog w.drew = .ok (.string ⟨l.toArray⟩) (w.drew.freeze ⟨g, 0, none⟩ l.length) := by
      refine Lib.run_unsafeString_row w.drew 68 3 9 5 Tryd.underlying68 (by kernel_rfl) g cur.size (by have hg' : w.drew.heap[g]? = some (.cells cur 5 fz) := hg; simp [World.shape?, hg']) l h0 (by omega) (by unfold maxLen at hcm; omega) ?_
      intro j x hx
      exact hown.cells (g := g) rfl j (.int .u8 x.toNat) (by simp [Lib.byteCells, hx])
    have hbel : Below B w (w.drew.freeze ⟨g, 0, none⟩ l.length) := Lib.below_freeze (Below.drew (Below.refl B w)) (p := ⟨g, 0, none⟩) hbg _
    clear hnil hbk hown hg hfz hnc hcm hcs htake hne
    go_enter Tryd.func29, Tryd.ntmps29
    go_wp2
    go_region_o
    all_goals (go_wp2; go_ret; exact ⟨rfl, hbel⟩)
end Go.Proofs.YtpnlbmeeihbjaabDoor.P
end
section
set_option linter.unusedVariables false
set_option linter.unusedSimpArgs false
namespace Go.Proofs.YtpnlbmeeihbjaabDoor.P
open Go.RowKit Go.Proofs.YtpnlbmeeihbjaabDoorW.PrintWords Go.Proofs.YtpnlbmeeihbjaabDoorW.PrintLast Go.Proofs.YtpnlbmeeihbjaabDoorW.PrintMore
open Go.Lib
attribute [local go_sem] max2_int min2_int max_two min_two max_three min_three max_four min_four
set_option linter.unusedVariables false
set_option linter.unusedSimpArgs false
open Go.Lib
def hexC (c : Nat) : List UInt8 := 92 :: (hexL 8 c ++ [32])
theorem hexC_str (c : Nat) : ((⟨#[92]⟩ : ByteArray) ++ ⟨(hexL 8 c).toArray⟩ ++ ⟨#[32]⟩).data.toList = hexC c := by
  simp [hexC]
theorem hexL_len : ∀ (k u : Nat), (hexL k u).length ≤ k
  | 0, _ => Nat.le_refl _
  | k + 1, u => by
    have := hexL_len k (u / 16)
    unfold hexL
    split
    · simp
    · simp; omega
theorem hexC_len (c : Nat) : (hexC c).length ≤ 10 := by
  have := hexL_len 8 c
  simp [hexC]; omega
theorem Blw.mono {B b : Nat} {l : List UInt8} {w W : World} (h : Blw w B b l) (hb : Below w.heap.size w W) : Blw W B b l := by
  obtain ⟨p, hp, ⟨hB, v, hbk, ⟨hl, hown⟩, hne⟩, hn⟩ := h
  have hlt : ∀ {k : Nat} {o : Obj}, w.heap[k]? = some o → W.heap[k]? = some o := fun {k o} hk => by
    rw [hb.block k (blk_lt hk)]; exact hk
  refine ⟨p, hp, ⟨hB, v, hlt hbk, ⟨hl, ?_⟩, hne⟩, fun e => hlt (hn e)⟩
  rcases hown with hn | ⟨g', cap, cur, fz, hv, hbg, hgg, rest⟩
  · exact .inl hn
  · exact .inr ⟨g', cap, cur, fz, hv, hbg, hlt hgg, rest⟩
theorem kept_of_below {b : Option Nat} {w W : World} (h : Below w.heap.size w W) : Lib.OthersKept 5 b w W := fun k o hk _ _ => by
  rw [h.block k (blk_lt hk)]; exact hk
theorem Blw.lt {B b : Nat} {l : List UInt8} {w : World} (h : Blw w B b l) : B ≤ b ∧ b < w.heap.size := by
  obtain ⟨p, hp, ⟨hB, v, hbk, _⟩, hn⟩ := h
  exact ⟨hB, blk_lt hbk⟩
set_option maxHeartbeats 4000000 in
set_option maxRecDepth 100000 in
theorem number_w (B b : Nat) (l : List UInt8) (c : Nat) (hc : c < 2147483648) (w : World) (hT : WT w) (h : Blw w B b l) (hlen : l.length + 10 ≤ 140737488355328) (hBw : B ≤ w.heap.size) :
    Calls Tryd.prog 32 #[.pointer (some ⟨b, 0, none⟩), .int .i32 c] w fun e w' => e = .returned (.tuple #[]) ∧ (Blw w' B b (l ++ hexC c) ∧ Below B w w' ∧ Lib.OthersKept 5 (some b) w w') := by
  have hu46 := Tryd.underlying46
  have hd : Below w.heap.size w w.drew := Below.drew (Below.refl _ w)
  have c1 := fmtint_calls c hc w.drew (hT.below hd)
  have HB := Aside0.mk (h.mono hd)
  have hw : IntKind.i64.wrap (c : Int) = (c : Int) := by rw [IntKind.wrap_i64]; omega
  have hwi : wrap64 (c : Int) = (c : Int) := by unfold wrap64; omega
  have HN := Aside0.mk (show (hexC c).length ≤ 10 from hexC_len c)
  have HL := Aside0.mk hlen
  have HW := Aside0.mk hBw
  have key : ∀ W : World, Below w.heap.size w W → Calls Tryd.prog 55 #[.pointer (some ⟨b, 0, none⟩), .string ((⟨#[92]⟩ : ByteArray) ++ ⟨(hexL 8 c).toArray⟩ ++ ⟨#[32]⟩)] W fun e w' => ∃ u, e = .returned (.tuple #[u, .nilIface]) ∧ (Blw w' B b (l ++ hexC c) ∧ Below B W w' ∧ Lib.OthersKept 5 (some b) W w') := fun W hW => by
    have h1 := wstr B b l ((⟨#[92]⟩ : ByteArray) ++ ⟨(hexL 8 c).toArray⟩ ++ ⟨#[32]⟩) (by rw [hexC_str]; simp [hexC]) W (h.mono hW) (by
      have h2 := congrArg List.length (hexC_str c)
      rw [Array.length_toList] at h2
      have h3 := hexC_len c
      have h4 : ((⟨#[92]⟩ : ByteArray) ++ ⟨(hexL 8 c).toArray⟩ ++ ⟨#[32]⟩).size = (hexC c).length := h2
      omega) (by have := hW.size; omega)
    rw [hexC_str] at h1
    exact h1
  have hS : (⟨(hexL 8 c).toArray⟩ : ByteArray).size ≤ 8 := by have := hexL_len 8 c; simpa [ByteArray.size] using this
  generalize (⟨(hexL 8 c).toArray⟩ : ByteArray) = S at c1 key hS
  clear hlen hBw h hT
  go_enter Tryd.func32, Tryd.ntmps32
  have mixed := Tryd.lays169.mixed
  go_region_with_o (first | ((with_reducible refine c1.mono ?_); rintro e w1 ⟨rfl, hw1⟩) | (refine (key _ (hd.trans (below_less hw1 (Nat.le_refl _)))).mono ?_; rintro e w2 ⟨u, rfl, hx⟩))
  go_end0
  exact ⟨rfl, hx.1, ((below_less (hd.trans (below_less hw1 (Nat.le_refl _))) HW.out)).trans hx.2.1, (kept_of_below (hd.trans (below_less hw1 (Nat.le_refl _)))).trans hx.2.2⟩
end Go.Proofs.YtpnlbmeeihbjaabDoor.P
end
section
set_option linter.unusedVariables false
set_option linter.unusedSimpArgs false
namespace Go.Proofs.YtpnlbmeeihbjaabDoor.P
open Go.RowKit Go.Proofs.YtpnlbmeeihbjaabDoorW.PrintWords Go.Proofs.YtpnlbmeeihbjaabDoorW.PrintLast Go.Proofs.YtpnlbmeeihbjaabDoorW.PrintMore
open Go.Lib
attribute [local go_sem] max2_int min2_int max_two min_two max_three min_three max_four min_four
set_option linter.unusedVariables false
set_option linter.unusedSimpArgs false
open Go.Lib
theorem enc_len (r : Int) : (Lib.encodeRune r).length ≤ 4 := by
  have h2 := (Lib.runeCells_le r).2
  rwa [Lib.runeCells_length] at h2
set_option maxHeartbeats 4000000 in
set_option maxRecDepth 100000 in
theorem barred_w (B b : Nat) (l : List UInt8) (c : Int) (h0 : -2147483648 ≤ c) (h1 : c ≤ 2147483647) (w : World) (h : Blw w B b l) (hlen : l.length + 10 ≤ 140737488355328) (hBw : B ≤ w.heap.size) :
    Calls Tryd.prog 28 #[.pointer (some ⟨b, 0, none⟩), .int .i32 c] w fun e w' => e = .returned (.tuple #[]) ∧ (Blw w' B b (l ++ 92 :: Lib.encodeRune c) ∧ Below B w w' ∧ Lib.OthersKept 5 (some b) w w') := by
  have hu46 := Tryd.underlying46
  have c1 := wbyte B b l 92 w h (by omega) hBw
  have c2 : ∀ W, Blw W B b (l ++ [92]) → Below B w W → Calls Tryd.prog 52 #[.pointer (some ⟨b, 0, none⟩), .int .i32 c] W fun e w' => ∃ u, e = .returned (.tuple #[u, .nilIface]) ∧ (Blw w' B b (l ++ [92] ++ Lib.encodeRune c) ∧ Below B W w' ∧ Lib.OthersKept 5 (some b) W w') := fun W hW hb => wrune B b (l ++ [92]) c h0 h1 W hW (by rw [List.length_append, List.length_singleton]; omega) (by have := hb.size; omega)
  clear h hlen hBw h0 h1
  go_enter Tryd.func28, Tryd.ntmps28
  go_wp2_with (first | (go_at_call 25; refine c1.mono ?_; rintro e W ⟨rfl, hB1⟩) | (go_at_call 52; refine (c2 _ hB1.1 hB1.2.1).mono ?_; rintro e W2 ⟨u, rfl, hB2⟩) | fail)
  go_end0
  rw [List.append_assoc] at hB2
  exact ⟨rfl, hB2.1, hB1.2.1.trans hB2.2.1, hB1.2.2.trans hB2.2.2⟩
def plainB (sb : Int → Bool) (c : Int) : Option (List UInt8) := if c = 0 then some (Lib.encodeRune 65533) else if c < 32 ∨ c = 127 then some (hexC c.toNat) else if sb c then some (Lib.encodeRune c) else none
theorem plainB_len {sb : Int → Bool} {c : Int} {o : List UInt8} (h : plainB sb c = some o) : o.length ≤ 10 := by
  unfold plainB at h
  repeat' split at h
  · cases h; have := enc_len 65533; omega
  · cases h; exact hexC_len _
  · cases h; have := enc_len c; omega
  · cases h
def charB (sb : Int → Bool) (c : Int) : List UInt8 := match plainB sb c with
  | some o => o
  | none => 92 :: Lib.encodeRune c
theorem charB_len (sb : Int → Bool) (c : Int) : (charB sb c).length ≤ 10 := by
  unfold charB
  cases h : plainB sb c with
  | some o => exact plainB_len h
  | none => have := enc_len c; simp; omega
def optL (o : Option (List UInt8)) : List UInt8 := match o with
  | some o => o
  | none => []
set_option maxHeartbeats 4000000 in
set_option maxRecDepth 100000 in
theorem plain_part (B b : Nat) (l : List UInt8) (c : Int) (h0 : 0 ≤ c) (h1 : c ≤ 2147483647) (w : World) (hT : WT w) (h : Blw w B b l) (hlen : l.length + 10 ≤ 140737488355328) (hBw : B ≤ w.heap.size) :
    Calls Tryd.prog 26 #[.pointer (some ⟨b, 0, none⟩), .int .i32 c, .func (.func 57) #[] #[]] w fun e w' => e = .returned (.bool (plainB partB c).isSome) ∧ (Blw w' B b (l ++ optL (plainB partB c)) ∧ Below B w w' ∧ Lib.OthersKept 5 (some b) w w') := by
  have hu46 := Tryd.underlying46
  by_cases k0 : c = 0
  · have hp : plainB partB c = some (Lib.encodeRune 65533) := by rw [plainB, if_pos k0]
    have c1 := wrune B b l 65533 (by omega) (by omega) w h (by omega) hBw
    subst k0
    rw [hp]
    clear h hlen hBw h1 h0 hT
    go_enter Tryd.func26, Tryd.ntmps26
    go_wp2_with (first | (go_at_call 52; refine c1.mono ?_; rintro e W ⟨u, rfl, hB1⟩) | fail)
    go_ret
    exact ⟨rfl, hB1⟩
  · by_cases k1 : c < 32 ∨ c = 127
    · have hp : plainB partB c = some (hexC c.toNat) := by rw [plainB, if_neg k0, if_pos k1]
      have c1 := number_w B b l c.toNat (by omega) w hT h hlen hBw
      rw [show ((c.toNat : Nat) : Int) = c by omega] at c1
      have d0 : (c == 0) = false := by simp [k0]
      rw [hp]
      clear hlen hBw h1 h hT hp
      have d1 : (decide (c < 32) || (c == 127)) = true := by simpa using k1
      by_cases k2 : c < 32
      · clear k1 d1
        go_enter Tryd.func26, Tryd.ntmps26
        go_wp2_with (first | (go_at_call 32; refine c1.mono ?_; rintro e W ⟨rfl, hB1⟩) | fail)
        go_ret
        exact ⟨rfl, hB1⟩
      · obtain rfl : c = 127 := k1.resolve_left k2
        clear k1 d1 k2
        go_enter Tryd.func26, Tryd.ntmps26
        go_wp2_with (first | (go_at_call 32; refine c1.mono ?_; rintro e W ⟨rfl, hB1⟩) | fail)
        go_ret
        exact ⟨rfl, hB1⟩
    · have k2 : ¬ c < 32 := fun h => k1 (Or.inl h)
      have d2 : (c == 127) = false := by simpa using (fun h => k1 (Or.inr h))
      have d0 : (c == 0) = false := by simp [k0]
      obtain ⟨o, ho⟩ : ∃ o, partB c = o := ⟨_, rfl⟩
      have hp : plainB partB c = if o then some (Lib.encodeRune c) else none := by rw [plainB, if_neg k0, if_neg k1, ho]
      have c1 := part_calls c w
      rw [ho] at c1
      rw [hp]
      have HT := Aside0.mk h
      have HL := Aside0.mk hlen
      have HW := Aside0.mk hBw
      have H01 : Aside0 (-2147483648 ≤ c ∧ c ≤ 2147483647) := ⟨by omega⟩
      clear h hlen hBw h1 hT hp ho k1
      cases o with
      | true =>
        go_enter Tryd.func26, Tryd.ntmps26
        go_wp2_with (first | (go_at_call 57; refine c1.mono ?_; rintro e W ⟨rfl, hb⟩) | (go_at_call 52; refine (wrune B b l c H01.out.1 H01.out.2 _ (HT.out.mono hb) (by have := HL.out; omega) (by have := HW.out; have := hb.size; omega)).mono ?_; rintro e W2 ⟨u, rfl, hB1⟩) | fail)
        go_ret
        exact ⟨rfl, hB1.1, (below_less hb HW.out).trans hB1.2.1, (kept_of_below hb).trans hB1.2.2⟩
      | false =>
        go_enter Tryd.func26, Tryd.ntmps26
        go_wp2_with (first | (go_at_call 57; refine c1.mono ?_; rintro e W ⟨rfl, hb⟩) | fail)
        go_ret
        refine ⟨rfl, ?_, below_less hb HW.out, kept_of_below hb⟩
        show Blw _ B b (l ++ [])
        rw [List.append_nil]
        exact HT.out.mono hb
end Go.Proofs.YtpnlbmeeihbjaabDoor.P
end
