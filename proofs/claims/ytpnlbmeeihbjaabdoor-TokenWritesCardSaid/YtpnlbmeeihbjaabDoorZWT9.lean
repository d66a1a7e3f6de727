/- The law TokenWrites (layer 2): the row and its tied card: for every input the law returns true, and the arguments read behind the call as they read before. No condition of ours. -/
import Derived.Test.YtpnlbmeeihbjaabDoorZWT2
import Derived.Test.YtpnlbmeeihbjaabDoorZWT7
import Derived.Lib.Builder
import Derived.Shelf.Strings.BuilderRune
import Derived.Shelf.Strings.BuilderF
section
set_option linter.unusedVariables false
set_option linter.unusedSimpArgs false
namespace Go.Proofs.YtpnlbmeeihbjaabDoor.P
open Go.RowKit Go.Proofs.YtpnlbmeeihbjaabDoorW.PrintWords Go.Proofs.YtpnlbmeeihbjaabDoorW.PrintLast Go.Proofs.YtpnlbmeeihbjaabDoorW.PrintMore
open Go.Lib
attribute [local go_sem] max2_int min2_int max_two min_two max_three min_three max_four min_four
set_option linter.unusedVariables false
set_option linter.unusedSimpArgs false
open Go.Proofs
def ren242 : Go.Shelf.Ren := ⟨fun | 242 => 77 | 278 => 88 | n => n, fun | 37 => 40 | 21 => 21 | 51 => 84 | 4 => 4 | 5 => 5 | 46 => 90 | 72 => 44 | 70 => 42 | n => n, fun | n => n⟩
theorem lays242b : Go.Proofs.Lays.n242 Tryd.prog ren242 := {
  mixed := by kernel_rfl
  f242 := Tryd.func77.trans (congrArg some (by kernel_rfl))
  f278 := Tryd.func88.trans (congrArg some (by kernel_rfl))
  t4 := Tryd.underlying4
  a4 := Tryd.isAgg4
  z4 := Tryd.sizeOf4
  v4 := Tryd.zeroValue4
  t5 := Tryd.underlying5
  a5 := Tryd.isAgg5
  z5 := Tryd.sizeOf5
  v5 := Tryd.zeroValue5
  t21 := Tryd.underlying21
  a21 := Tryd.isAgg21
  z21 := Tryd.sizeOf21
  v21 := Tryd.zeroValue21
  t37 := Tryd.underlying40
  a37 := Tryd.isAgg40
  z37 := Tryd.sizeOf40
  v37 := Tryd.zeroValue40
  t46 := Tryd.underlying90
  a46 := Tryd.isAgg90
  z46 := Tryd.sizeOf90
  v46 := Tryd.zeroValue90
  t51 := Tryd.underlying84
  a51 := Tryd.isAgg84
  z51 := Tryd.sizeOf84
  v51 := Tryd.zeroValue84 }
theorem extra242 : Builder.Extra Tryd.prog ren242 := {
  sizeBuilder := by kernel_rfl
  liesBuilder := by kernel_rfl
  t5 := Tryd.underlying5
  a5 := Tryd.isAgg5
  z5 := Tryd.sizeOf5
  v5 := Tryd.zeroValue5
  infoByte := by kernel_rfl
  cellsByte := by kernel_rfl
  sizeByte := by kernel_rfl
  neB5 := by decide }
def Bld (w : World) (B b : Nat) (bs : List Value) : Prop := Lib.IsBuilderF 44 5 B b bs w
theorem sizeB : (Tryd.prog.info? 44).map (·.size) = some 2 := by kernel_rfl
theorem liesB : liesAt Tryd.prog Tryd.prog.depth 44 (2 / Tryd.prog.cellsOf 44) 0 44 1 = true := by kernel_rfl
set_option maxHeartbeats 2000000 in
set_option maxRecDepth 100000 in
theorem bcheck_used (b : Nat) (w : World) (h0 : w.cell? ⟨b, 0, none⟩ = some (.pointer (some ⟨b, 0, none⟩))) :
    Calls Tryd.prog 51 #[.pointer (some ⟨b, 0, none⟩)] w fun e w' => e = .returned (.tuple #[]) ∧ w' = w := by
  obtain ⟨j, hj, _⟩ := Option.map_eq_some_iff.1 sizeB
  have hu44 := Tryd.underlying44
  have hu42 := Tryd.underlying42
  go_enter Tryd.func51, Tryd.ntmps51
  go_wp2
  rw [Lib.run_neq_ptr_same w _ Tryd.underlying42 hj]
  go_wp2
  go_end0
  exact ⟨rfl, rfl⟩
set_option maxHeartbeats 2000000 in
set_option maxRecDepth 100000 in
theorem bcheck_fresh (b : Nat) (w : World) (h0 : w.cell? ⟨b, 0, none⟩ = some (.pointer none)) (hsh : w.shape? b = some (44, 2)) (hfz : w.frozen? ⟨b, 0, none⟩ = false) :
    Calls Tryd.prog 51 #[.pointer (some ⟨b, 0, none⟩)] w fun e w' => e = .returned (.tuple #[]) ∧ w' = w.setCell ⟨b, 0, none⟩ (.pointer (some ⟨b, 0, none⟩)) := by
  obtain ⟨j, hj, hjs⟩ := Option.map_eq_some_iff.1 sizeB
  have hu44 := Tryd.underlying44
  have hu42 := Tryd.underlying42
  go_enter Tryd.func51, Tryd.ntmps51
  go_wp2
  rw [Lib.run_to_unsafe w ⟨b, 0, none⟩ Tryd.underlying42 Tryd.underlying78 hj (by rw [hjs]; decide) hsh (Nat.zero_lt_succ 1)]
  simp only [Result.andThen]
  rw [Oper.upon_value]
  go_wp2
  rw [run_callFunc_extern Tryd.func76 (by kernel_rfl) (by kernel_rfl) (by kernel_rfl) (e := Extern.AbiNoEscape.same) (by kernel_rfl)]
  rw [Lib.run_noEscape]
  simp only [Result.andThen]
  rw [Oper.upon_value]
  go_wp2
  rw [Lib.run_from_unsafe w ⟨b, 0, none⟩ Tryd.underlying78 Tryd.underlying42 hj hsh liesB]
  simp only [Result.andThen]
  rw [Oper.upon_value]
  go_wp2
  go_end0
  exact ⟨rfl, rfl⟩
theorem bcheckF (B b : Nat) (bs : List Value) (w : World) (h : Bld w B b bs) :
    Calls Tryd.prog 51 #[.pointer (some ⟨b, 0, none⟩)] w fun e w' => e = .returned (.tuple #[]) ∧ (Lib.BuilderAtF 44 5 B b (.pointer (some ⟨b, 0, none⟩)) bs w' ∧ Below B w w') := by
  rcases h with h | h
  · refine (bcheck_fresh b w h.cell0 h.shape h.frozen0).mono ?_
    rintro e w' ⟨rfl, rfl⟩
    exact ⟨rfl, h.used _, (Below.refl B w).setCell (p := ⟨b, 0, none⟩) h.1 _⟩
  · refine (bcheck_used b w h.cell0).mono ?_
    rintro e w' ⟨rfl, rfl⟩
    exact ⟨rfl, h, Below.refl B _⟩
theorem append_rune (B : Nat) (v : Value) (n : Nat) (xs : List Value) (r : Int) (hr0 : -2147483648 ≤ r) (hr1 : r ≤ 2147483647) (w : World) (hown : w.ownsRowF B 5 1 v n xs) (hlen : n + 4 ≤ 140737488355328) (hBw : B ≤ w.heap.size) :
    Calls Tryd.prog 77 #[v, .int .i32 r] w fun e w' => ∃ v', e = .returned v' ∧ w'.ownsRowF B 5 1 v' (n + (Lib.runeCells r).length) (xs ++ Lib.runeCells r) ∧ ∃ o, (w.alloc o).grownBy w' v.ownBlock :=
  Any.utf8_AppendRune_own lays242b extra242 B v n xs r hr0 hr1 w hown hlen hBw
set_option maxHeartbeats 4000000 in
set_option maxRecDepth 100000 in
theorem bwrune (B b : Nat) (bs : List Value) (r : Int) (hr0 : -2147483648 ≤ r) (hr1 : r ≤ 2147483647) (w : World) (h : Bld w B b bs) (hlen : bs.length + 4 ≤ 140737488355328) (hBw : B ≤ w.heap.size) :
    Calls Tryd.prog 52 #[.pointer (some ⟨b, 0, none⟩), .int .i32 r] w fun e w' => ∃ u, e = .returned (.tuple #[u, .nilIface]) ∧ (Bld w' B b (bs ++ Lib.runeCells r) ∧ Below B w w') := by
  have hu44 := Tryd.underlying44
  have hu40 := Tryd.underlying40
  have hu42 := Tryd.underlying42
  go_enter Tryd.func52, Tryd.ntmps52
  go_wp2_with (go_at_call 51; refine (bcheckF B b bs _ h).mono ?_)
  rintro e w1 ⟨rfl, h1, hb1⟩
  obtain ⟨hB, v, hbk, hown, hne⟩ := h1
  have c0 : w1.cell? ⟨b, 0, none⟩ = some (.pointer (some ⟨b, 0, none⟩)) := by rw [Lib.cell_of_heap hbk]; rfl
  have c1 : w1.cell? ⟨b, 1, none⟩ = some v := by rw [Lib.cell_of_heap hbk]; rfl
  obtain ⟨ao, n0, cap0, hv⟩ : ∃ ao n' cap, v = .slice ao n' cap := by
    rcases hown.2 with ⟨hv, _⟩ | ⟨g, cap, cur, fz, hv, _⟩
    · exact ⟨_, _, _, hv⟩
    · exact ⟨_, _, _, hv⟩
  subst hv
  go_wp2_with fail
  have hs1 := hb1.size
  refine (append_rune B _ bs.length bs r hr0 hr1 w1 hown hlen (by omega)).mono ?_
  rintro e w2 ⟨v', rfl, hown', o, hgrow⟩
  have hgrow : (w1.alloc o).grownBy w2 (Value.slice ao n0 cap0).ownBlock := hgrow
  have hlt : b < w1.heap.size := by
    rcases Nat.lt_or_ge b w1.heap.size with h' | h'
    · exact h'
    · simp [Array.getElem?_eq_none h'] at hbk
  have hb2 : w2.heap[b]? = some (.cells #[.pointer (some ⟨b, 0, none⟩), .slice ao n0 cap0] 44 (0, 0)) := by
    rw [hgrow.block b (by rw [World.size_alloc]; omega) (fun e => hne e.symm)]
    exact (alloc_old w1 o b hlt).trans hbk
  have d0 : w2.cell? ⟨b, 0, none⟩ = some (.pointer (some ⟨b, 0, none⟩)) := by rw [Lib.cell_of_heap hb2]; rfl
  have d1 : w2.cell? ⟨b, 1, none⟩ = some (.slice ao n0 cap0) := by rw [Lib.cell_of_heap hb2]; rfl
  have f1 : w2.frozen? ⟨b, 1, none⟩ = false := Lib.frozen_of_heap hb2 1
  obtain ⟨ao', n', cap, rfl⟩ : ∃ ao n' cap, v' = .slice ao n' cap := by
    rcases hown'.2 with ⟨hv, _⟩ | ⟨g, cap, cur, fz, hv, _⟩
    · exact ⟨_, _, _, hv⟩
    · exact ⟨_, _, _, hv⟩
  go_wp2
  go_ret2
  refine ⟨_, rfl, .inr ?_, ?_⟩
  · exact Lib.BuilderAtF.put (T := 44) (e := 5) hB hb2 (bs' := bs ++ Lib.runeCells r) (by simpa using hown') (by decide)
  · have ha : Below B w1 (w1.alloc o) := ⟨rfl, rfl, rfl, by rw [World.size_alloc]; omega, fun k hk => alloc_old w1 o k (by omega)⟩
    exact ((hb1.trans ha).grown hgrow (by rw [World.size_alloc]; omega) (fun k hk => (hown.lt k hk).1)).setCell (p := ⟨b, 1, none⟩) hB _
end Go.Proofs.YtpnlbmeeihbjaabDoor.P
end
section
set_option linter.unusedVariables false
set_option linter.unusedSimpArgs false
namespace Go.Proofs.YtpnlbmeeihbjaabDoor.P
open Go.RowKit Go.Proofs.YtpnlbmeeihbjaabDoorW.PrintWords Go.Proofs.YtpnlbmeeihbjaabDoorW.PrintLast Go.Proofs.YtpnlbmeeihbjaabDoorW.PrintMore
open Go.Lib
attribute [local go_sem] max2_int min2_int max_two min_two max_three min_three max_four min_four
set_option linter.unusedVariables false
set_option linter.unusedSimpArgs false
open Go.Proofs
def St (w0 w : World) (g : Nat) (L s : List Int) : Prop := ∃ p, L = p ++ s ∧ IsS63 w0 w g L (p.length : Int)
structure Rdr (w0 w : World) (g : Nat) (L s : List Int) : Prop where
  st : St w0 w g L s
  bel : Below w0.heap.size w0 w
  ok : OkL L
section
variable {w0 w w1 : World} {g : Nat} {L s r : List Int}
theorem Rdr.suf (h : Rdr w0 w g L s) : s <:+ L := by obtain ⟨p, rfl, _⟩ := h.st; exact ⟨p, rfl⟩
theorem Rdr.chars (h : Rdr w0 w g L s) : ∀ c ∈ s, 0 ≤ c ∧ c ≤ 1114111 := fun c hc => by obtain ⟨p, rfl, _⟩ := h.st; exact h.ok.2 c (List.mem_append_right _ hc)
theorem Rdr.len (h : Rdr w0 w g L s) : s.length ≤ L.length ∧ L.length ≤ 1099511627776 := ⟨h.suf.length_le, h.ok.1⟩
theorem Rdr.lt (h : Rdr w0 w g L s) : w0.heap.size ≤ g ∧ g < w.heap.size := by obtain ⟨p, _, hI⟩ := h.st; exact ⟨hI.ge, hI.lt⟩
theorem St.of_idx (hp : L = r ++ s) (hr : w0 = w0) {t : List Int} (ht : t <:+ s) {i : Int} (hi : i = (L.length : Int) - t.length) (hI : IsS63 w0 w g L i) : St w0 w g L t := by
  obtain ⟨q, rfl⟩ := ht
  subst hp
  refine ⟨r ++ q, by simp, ?_⟩
  rw [show (((r ++ q).length : Nat) : Int) = i by rw [hi]; simp; omega]
  exact hI
theorem Rdr.cells (h : Rdr w0 w g L s) : ∃ A c i, w.cell? ⟨g, 0, none⟩ = some (.slice A L.length c) ∧ w.cell? ⟨g, 1, none⟩ = some (.int .i64 i) ∧ w.frozen? ⟨g, 1, none⟩ = false ∧ i = (L.length : Int) - s.length ∧ L.length ≤ c := by
  obtain ⟨p, hp, A, c, hb, hgc, _⟩ := h.st
  exact ⟨A, c, _, cellS63_0 hb, cellS63_1 hb, blk_frozen hb 1, by rw [hp]; simp, hgc.2⟩
theorem Rdr.set (h : Rdr w0 w g L s) {t : List Int} (ht : t <:+ s) {i : Int} (hi : i = (L.length : Int) - t.length) : Rdr w0 (w.setCell ⟨g, 1, none⟩ (.int .i64 i)) g L t := by
  obtain ⟨p, hp, hI⟩ := h.st
  exact ⟨St.of_idx hp rfl ht hi (hI.set_1 i), below_set h.bel hI.ge, h.ok⟩
theorem Rdr.below (h : Rdr w0 w g L s) (hb : Below w.heap.size w w1) : Rdr w0 w1 g L s := by
  obtain ⟨p, hp, hI⟩ := h.st
  exact ⟨⟨p, hp, hI.below hb⟩, below_then h.bel h.bel.size hb, h.ok⟩
theorem Rdr.drew (h : Rdr w0 w g L s) : Rdr w0 w.drew g L s := h.below (below_drew1 (Below.refl _ _))
theorem below_less {A B : Nat} {w w1 : World} (h : Below B w w1) (hA : A ≤ B) : Below A w w1 := ⟨h.os, h.tape, h.output, h.size, fun k hk => h.block k (by omega)⟩
theorem Rdr.bld (h : Rdr w0 w g L s) {B : Nat} (hb : Below B w w1) (hg : g < B) : Rdr w0 w1 g L s := by
  obtain ⟨p, hp, A, c, hbk, hge, hC⟩ := h.st
  exact ⟨⟨p, hp, A, c, (hb.block g hg).trans hbk, hge, hC⟩, h.bel.trans (below_less hb (by omega)), h.ok⟩
theorem keep_bld {wa : World} (h : KeepBut wa w g none) {B : Nat} (hb : Below B w w1) (hB : wa.heap.size ≤ B) : KeepBut wa w1 g none :=
  ⟨Nat.le_trans h.1 hb.size, fun i hi hg hr => (hb.block i (by omega)).trans (h.2 i hi hg hr)⟩
theorem keep_then {wa : World} (h : KeepBut wa w g none) (k : KeepBut w w1 g none) : KeepBut wa w1 g none := h.trans k (.inl rfl)
theorem Bld.keep {B b : Nat} {bs : List Value} (h : Bld w B b bs) (hk : KeepBut w w1 g none) (hg : g < B) : Bld w1 B b bs := by
  have key : ∀ q, Lib.BuilderAtF 44 5 B b q bs w → Lib.BuilderAtF 44 5 B b q bs w1 := by
    rintro q ⟨hB, v, hb, ⟨hl, hown⟩, hne⟩
    refine ⟨hB, v, hk.blk hb (by omega) (by simp), ⟨hl, ?_⟩, hne⟩
    rcases hown with hn | ⟨g', cap, cur, fz, hv, hbg, hgg, rest⟩
    · exact .inl hn
    · exact .inr ⟨g', cap, cur, fz, hv, hbg, hk.blk hgg (by omega) (by simp), rest⟩
  exact h.elim (fun x => .inl (key _ x)) (fun x => .inr (key _ x))
theorem bstr (B b : Nat) (l : List UInt8) (w : World) (h : Bld w B b (Lib.byteCells l)) (hBw : B ≤ w.heap.size) :
    Calls Tryd.prog 29 #[.pointer (some ⟨b, 0, none⟩)] w fun e w' => e = .returned (.string ⟨l.toArray⟩) ∧ Below B w w' :=
  (Any.Builder_String_any_f Tryd.lays169 Tryd.Builder_Extra_169 B b l w h hBw).mono (fun e w' h => ⟨h.1, h.2.2⟩)
theorem Bld.new (w : World) (B : Nat) (hB : B ≤ w.heap.size) : Bld (w.alloc (.cells #[.pointer none, .slice none 0 0] 44)) B w.heap.size [] := by
  refine .inl ⟨hB, .slice none 0 0, blk_new w _, World.ownsRowF_nil _ _ _ _, by simp [Value.ownBlock]⟩
theorem peek_c (n : Nat) (hn : n ≤ 900) (h : Rdr w0 w g L s) : Calls Tryd.prog 62 #[.pointer (some ⟨g, 0, none⟩), .int .i64 n] w fun e w' => e = .returned (.int .i32 (pk s n)) ∧ Rdr w0 w' g L s ∧ KeepBut w w' g none := by
  obtain ⟨p, rfl, hI⟩ := h.st
  refine (token_reader_peek.calls g _ _ n _ _ w0 w hI h.bel (peek_f h.ok n (by omega))).mono ?_
  rintro e w' ⟨rfl, h1, h2, h3⟩
  exact ⟨rfl, ⟨⟨p, rfl, h1⟩, h2, h.ok⟩, h3⟩
theorem peek0_c (h : Rdr w0 w g L s) : Calls Tryd.prog 62 #[.pointer (some ⟨g, 0, none⟩), .int .i64 0] w fun e w' => e = .returned (.int .i32 (pk s 0)) ∧ Rdr w0 w' g L s ∧ KeepBut w w' g none := peek_c 0 (by omega) h
theorem peek1_c (h : Rdr w0 w g L s) : Calls Tryd.prog 62 #[.pointer (some ⟨g, 0, none⟩), .int .i64 1] w fun e w' => e = .returned (.int .i32 (pk s 1)) ∧ Rdr w0 w' g L s ∧ KeepBut w w' g none := peek_c 1 (by omega) h
theorem over_c (h : Rdr w0 w g L s) : Calls Tryd.prog 47 #[.pointer (some ⟨g, 0, none⟩)] w fun e w' => e = .returned (.bool s.isEmpty) ∧ Rdr w0 w' g L s ∧ KeepBut w w' g none := by
  obtain ⟨p, rfl, hI⟩ := h.st
  refine (token_reader_over.calls g _ _ _ _ w0 w hI h.bel (over_f p s)).mono ?_
  rintro e w' ⟨rfl, h1, h2, h3⟩
  exact ⟨rfl, ⟨⟨p, rfl, h1⟩, h2, h.ok⟩, h3⟩
theorem esc_c (n : Nat) (hn : n ≤ 900) (h : Rdr w0 w g L s) : Calls Tryd.prog 66 #[.pointer (some ⟨g, 0, none⟩), .int .i64 n] w fun e w' => e = .returned (.bool (escB s n)) ∧ Rdr w0 w' g L s ∧ KeepBut w w' g none := by
  obtain ⟨p, rfl, hI⟩ := h.st
  refine (token_reader_escape.calls g _ _ n _ _ w0 w hI h.bel (escape_f h.ok n (by omega))).mono ?_
  rintro e w' ⟨rfl, h1, h2, h3⟩
  exact ⟨rfl, ⟨⟨p, rfl, h1⟩, h2, h.ok⟩, h3⟩
theorem esc0_c (h : Rdr w0 w g L s) : Calls Tryd.prog 66 #[.pointer (some ⟨g, 0, none⟩), .int .i64 0] w fun e w' => e = .returned (.bool (escB s 0)) ∧ Rdr w0 w' g L s ∧ KeepBut w w' g none := esc_c 0 (by omega) h
theorem esc1_c (h : Rdr w0 w g L s) : Calls Tryd.prog 66 #[.pointer (some ⟨g, 0, none⟩), .int .i64 1] w fun e w' => e = .returned (.bool (escB s 1)) ∧ Rdr w0 w' g L s ∧ KeepBut w w' g none := esc_c 1 (by omega) h
theorem beg_c (n : Nat) (hn : n ≤ 800) (h : Rdr w0 w g L s) : Calls Tryd.prog 72 #[.pointer (some ⟨g, 0, none⟩), .int .i64 n] w fun e w' => e = .returned (.bool (begB s n)) ∧ Rdr w0 w' g L s ∧ KeepBut w w' g none := by
  obtain ⟨p, rfl, hI⟩ := h.st
  refine (token_reader_begins.calls g _ _ n _ _ w0 w hI h.bel (begins_f h.ok n (by omega))).mono ?_
  rintro e w' ⟨rfl, h1, h2, h3⟩
  exact ⟨rfl, ⟨⟨p, rfl, h1⟩, h2, h.ok⟩, h3⟩
theorem beg0_c (h : Rdr w0 w g L s) : Calls Tryd.prog 72 #[.pointer (some ⟨g, 0, none⟩), .int .i64 0] w fun e w' => e = .returned (.bool (begB s 0)) ∧ Rdr w0 w' g L s ∧ KeepBut w w' g none := beg_c 0 (by omega) h
theorem beg1_c (h : Rdr w0 w g L s) : Calls Tryd.prog 72 #[.pointer (some ⟨g, 0, none⟩), .int .i64 1] w fun e w' => e = .returned (.bool (begB s 1)) ∧ Rdr w0 w' g L s ∧ KeepBut w w' g none := beg_c 1 (by omega) h
theorem cnt_c (h : Rdr w0 w g L s) : Calls Tryd.prog 68 #[.pointer (some ⟨g, 0, none⟩)] w fun e w' => e = .returned (.bool (cntB s)) ∧ Rdr w0 w' g L s ∧ KeepBut w w' g none := by
  obtain ⟨p, rfl, hI⟩ := h.st
  refine (token_reader_counts.calls 5 g _ _ _ _ w0 w hI h.bel (counts_f h.ok 5 (by omega))).mono ?_
  rintro e w' ⟨rfl, h1, h2, h3⟩
  exact ⟨rfl, ⟨⟨p, rfl, h1⟩, h2, h.ok⟩, h3⟩
theorem dig_c (c : Int) (w : World) : Calls Tryd.prog 85 #[.int .i32 c] w fun e w' => e = .returned (.bool (digB c)) ∧ Below w.heap.size w w' := token_digit.calls c _ w (digit_f c)
theorem blank_c (c : Int) (w : World) : Calls Tryd.prog 63 #[.int .i32 c] w fun e w' => e = .returned (.bool (blankB c)) ∧ Below w.heap.size w w' := by
  refine (text_Blank.calls c _ w (blank_f c)).mono ?_
  rintro e w' ⟨rfl, hb⟩
  exact ⟨rfl, by first | exact hb | (obtain ⟨m, rfl⟩ := hb; exact pw_below_drewN (Below.refl _ _) _)⟩
theorem hexR_suf : ∀ (j : Nat) (n : Int) (t : List Int), (hexR j n t).2 <:+ t
  | 0, _, t => List.suffix_refl t
  | j + 1, _, [] => List.suffix_refl []
  | j + 1, n, c :: t => by
    unfold hexR
    split
    · exact (hexR_suf j _ t).trans (List.suffix_cons c t)
    · exact List.suffix_refl _
theorem skipB_suf (t : List Int) : skipB t <:+ t := by
  cases t with
  | nil => exact List.suffix_refl []
  | cons c r =>
    show (if blankB c then r else c :: r) <:+ c :: r
    split
    · exact List.suffix_cons c r
    · exact List.suffix_refl _
theorem escd_suf (q : Int) (t : List Int) : (escd (q :: t)).2 <:+ t := by
  unfold escd
  simp only [List.drop_succ_cons, List.drop_zero]
  cases t with
  | nil => exact List.suffix_refl []
  | cons c r =>
    simp only
    split
    · exact List.suffix_cons c r
    · exact (skipB_suf _).trans (hexR_suf 6 0 (c :: r))
theorem escV_range (n : Int) (h : 0 ≤ n) : 0 ≤ escV n ∧ escV n ≤ 1114111 := by unfold escV; split <;> omega
theorem hexR_nn : ∀ (j : Nat) (n : Int) (t : List Int), 0 ≤ n → 0 ≤ (hexR j n t).1
  | 0, _, _, h => h
  | j + 1, _, [], h => h
  | j + 1, n, c :: t, h => by
    unfold hexR
    split
    · exact hexR_nn j _ t (by omega)
    · exact h
theorem escd_range (q : Int) (t : List Int) (h : ∀ c ∈ t, 0 ≤ c ∧ c ≤ 1114111) : 0 ≤ (escd (q :: t)).1 ∧ (escd (q :: t)).1 ≤ 1114111 := by
  unfold escd
  simp only [List.drop_succ_cons, List.drop_zero]
  cases t with
  | nil => exact ⟨by decide, by decide⟩
  | cons c r =>
    simp only
    split
    · exact h c List.mem_cons_self
    · exact escV_range _ (hexR_nn 6 0 _ (by omega))
theorem escd_c (q : Int) {t : List Int} (h : Rdr w0 w g L (q :: t)) : Calls Tryd.prog 83 #[.pointer (some ⟨g, 0, none⟩)] w fun e w' => e = .returned (.int .i32 (escd (q :: t)).1) ∧ Rdr w0 w' g L (escd (q :: t)).2 ∧ KeepBut w w' g none := by
  obtain ⟨p, rfl, hI⟩ := h.st
  refine (token_reader_escaped.calls 40 g _ _ _ _ w0 w hI h.bel (escaped_f q h.ok 40 (by omega))).mono ?_
  rintro e w' ⟨rfl, h1, h2, h3⟩
  exact ⟨rfl, ⟨St.of_idx (r := p) rfl rfl ((escd_suf q t).trans (List.suffix_cons q t)) (by simp) h1, h2, h.ok⟩, h3⟩
end
end Go.Proofs.YtpnlbmeeihbjaabDoor.P
end
section
set_option linter.unusedVariables false
set_option linter.unusedSimpArgs false
namespace Go.Proofs.YtpnlbmeeihbjaabDoor.P
open Go.RowKit Go.Proofs.YtpnlbmeeihbjaabDoorW.PrintWords Go.Proofs.YtpnlbmeeihbjaabDoorW.PrintLast Go.Proofs.YtpnlbmeeihbjaabDoorW.PrintMore
open Go.Lib
attribute [local go_sem] max2_int min2_int max_two min_two max_three min_three max_four min_four
set_option linter.unusedVariables false
set_option linter.unusedSimpArgs false
def strR (xs : List Int) : List UInt8 := xs.flatMap Lib.encodeRune
theorem strR_app (a b : List Int) : strR (a ++ b) = strR a ++ strR b := by simp [strR]
theorem strR_one (c : Int) : strR [c] = Lib.encodeRune c := by simp [strR]
theorem strR_len : ∀ (a : List Int), (strR a).length ≤ 4 * a.length
  | [] => Nat.le_refl _
  | c :: t => by
    have h := strR_len t
    have h2 := (Lib.runeCells_le c).2
    rw [Lib.runeCells_length] at h2
    show (Lib.encodeRune c ++ strR t).length ≤ _
    rw [List.length_append, List.length_cons]
    omega
theorem bld_snoc (out : List Int) (c : Int) : Lib.byteCells (strR out) ++ Lib.runeCells c = Lib.byteCells (strR (out ++ [c])) := by
  rw [strR_app, strR_one, Lib.byteCells_append, Lib.byteCells_encodeRune]
def nameL : Nat → List Int → List Int × List Int
  | 0, s => ([], s)
  | _ + 1, [] => ([], [])
  | n + 1, c :: t => if partB c then (c :: (nameL n t).1, (nameL n t).2) else if escB (c :: t) 0 then ((escd (c :: t)).1 :: (nameL n (escd (c :: t)).2).1, (nameL n (escd (c :: t)).2).2) else ([], c :: t)
def nameS (s : List Int) : List Int × List Int := nameL s.length s
theorem escd_len (c : Int) (t : List Int) : (escd (c :: t)).2.length ≤ t.length := (escd_suf c t).length_le
theorem nameL_fuel : ∀ (n m : Nat) (s : List Int), s.length ≤ n → s.length ≤ m → nameL n s = nameL m s
  | 0, 0, _, _, _ => rfl
  | 0, m + 1, s, h, _ => by
    obtain rfl := List.eq_nil_of_length_eq_zero (by omega : s.length = 0)
    rfl
  | n + 1, 0, s, _, h => by
    obtain rfl := List.eq_nil_of_length_eq_zero (by omega : s.length = 0)
    rfl
  | n + 1, m + 1, [], _, _ => rfl
  | n + 1, m + 1, c :: t, h1, h2 => by
    simp only [List.length_cons] at h1 h2
    have he := escd_len c t
    unfold nameL
    rw [nameL_fuel n m t (by omega) (by omega), nameL_fuel n m (escd (c :: t)).2 (by omega) (by omega)]
theorem nameS_nil : nameS [] = ([], []) := rfl
theorem nameS_part {c : Int} {t : List Int} (h : partB c = true) : nameS (c :: t) = (c :: (nameS t).1, (nameS t).2) := by
  unfold nameS
  rw [List.length_cons]
  show (if partB c then _ else _) = _
  rw [if_pos h]
theorem nameS_esc {c : Int} {t : List Int} (h : partB c = false) (h2 : escB (c :: t) 0 = true) : nameS (c :: t) = ((escd (c :: t)).1 :: (nameS (escd (c :: t)).2).1, (nameS (escd (c :: t)).2).2) := by
  unfold nameS
  rw [List.length_cons]
  show (if partB c then _ else if escB (c :: t) 0 then _ else _) = _
  rw [if_neg (by simp [h]), if_pos h2, nameL_fuel t.length _ (escd (c :: t)).2 (escd_len c t) (Nat.le_refl _)]
theorem nameS_end {c : Int} {t : List Int} (h : partB c = false) (h2 : escB (c :: t) 0 = false) : nameS (c :: t) = ([], c :: t) := by
  unfold nameS
  rw [List.length_cons]
  show (if partB c then _ else if escB (c :: t) 0 then _ else _) = _
  rw [if_neg (by simp [h]), if_neg (by simp [h2])]
theorem nameL_suf : ∀ (n : Nat) (s : List Int), (nameL n s).2 <:+ s
  | 0, s => List.suffix_refl s
  | n + 1, [] => List.suffix_refl []
  | n + 1, c :: t => by
    unfold nameL
    split
    · exact (nameL_suf n t).trans (List.suffix_cons c t)
    · split
      · exact ((nameL_suf n _).trans (escd_suf c t)).trans (List.suffix_cons c t)
      · exact List.suffix_refl _
theorem nameS_suf (s : List Int) : (nameS s).2 <:+ s := nameL_suf _ s
theorem escB_nil (n : Nat) : escB [] n = false := by simp [escB, pk]
def tokV (k : Int) (t u : ByteArray) (w f : Bool) : Value := .agg #[.int .i64 k, .string t, .string u, .bool w, .bool f]
theorem tok_put {w : World} {b : Nat} {a0 a1 a2 a3 a4 : Value} (h : w.heap[b]? = some (.cells #[a0, a1, a2, a3, a4] 26 (0, 0))) (v0 v1 v2 v3 v4 : Value) :
    (((((w.setCell ⟨b, 0, none⟩ v0).setCell ⟨b, 1, none⟩ v1).setCell ⟨b, 2, none⟩ v2).setCell ⟨b, 3, none⟩ v3).setCell ⟨b, 4, none⟩ v4).heap[b]? = some (.cells #[v0, v1, v2, v3, v4] 26 (0, 0)) := by
  refine blk_put (cs := #[v0, v1, v2, v3, a4]) ?_ 4 _ rfl
  refine blk_put (cs := #[v0, v1, v2, a3, a4]) ?_ 3 _ rfl
  refine blk_put (cs := #[v0, v1, a2, a3, a4]) ?_ 2 _ rfl
  refine blk_put (cs := #[v0, a1, a2, a3, a4]) ?_ 1 _ rfl
  refine blk_put (cs := #[a0, a1, a2, a3, a4]) ?_ 0 _ rfl
  exact h
section
variable {w0 w w1 : World} {g : Nat} {L s r : List Int}
theorem Rdr.far (h : Rdr w0 w g L s) {b : Nat} (hne : g ≠ b) (hb : w0.heap.size ≤ b) (j : Nat) (v : Value) : Rdr w0 (w.setCell ⟨b, j, none⟩ v) g L s := by
  obtain ⟨p, hp, hI⟩ := h.st
  exact ⟨⟨p, hp, hI.far hne v⟩, below_set h.bel hb, h.ok⟩
theorem Rdr.far5 (h : Rdr w0 w g L s) {b : Nat} (hne : g ≠ b) (hb : w0.heap.size ≤ b) (v0 v1 v2 v3 v4 : Value) : Rdr w0 (((((w.setCell ⟨b, 0, none⟩ v0).setCell ⟨b, 1, none⟩ v1).setCell ⟨b, 2, none⟩ v2).setCell ⟨b, 3, none⟩ v3).setCell ⟨b, 4, none⟩ v4) g L s :=
  ((((h.far hne hb 0 v0).far hne hb 1 v1).far hne hb 2 v2).far hne hb 3 v3).far hne hb 4 v4
theorem keep_far5 {wa : World} (h : KeepBut wa w g none) {b : Nat} (hb : wa.heap.size ≤ b) (v0 v1 v2 v3 v4 : Value) : KeepBut wa (((((w.setCell ⟨b, 0, none⟩ v0).setCell ⟨b, 1, none⟩ v1).setCell ⟨b, 2, none⟩ v2).setCell ⟨b, 3, none⟩ v3).setCell ⟨b, 4, none⟩ v4) g none :=
  keep_far (keep_far (keep_far (keep_far (keep_far h (p := ⟨b, 0, none⟩) hb v0) (p := ⟨b, 1, none⟩) hb v1) (p := ⟨b, 2, none⟩) hb v2) (p := ⟨b, 3, none⟩) hb v3) (p := ⟨b, 4, none⟩) hb v4
theorem keep_blk {wa : World} (hk : KeepBut wa w g none) {b : Nat} {o : Obj} (hb : wa.heap[b]? = some o) (hne : b ≠ g) : w.heap[b]? = some o := hk.blk hb hne (by simp)
end
end Go.Proofs.YtpnlbmeeihbjaabDoor.P
end
section
set_option linter.unusedVariables false
set_option linter.unusedSimpArgs false
namespace Go.Proofs.YtpnlbmeeihbjaabDoor.P
open Go.RowKit Go.Proofs.YtpnlbmeeihbjaabDoorW.PrintWords Go.Proofs.YtpnlbmeeihbjaabDoorW.PrintLast Go.Proofs.YtpnlbmeeihbjaabDoorW.PrintMore
open Go.Lib
attribute [local go_sem] max2_int min2_int max_two min_two max_three min_three max_four min_four
set_option linter.unusedVariables false
set_option linter.unusedSimpArgs false
set_option maxHeartbeats 8000000 in
set_option maxRecDepth 100000 in
theorem while_blank {w0 w : World} {g : Nat} {L s : List Int} (h : Rdr w0 w g L s) :
    Calls Tryd.prog 82 #[.pointer (some ⟨g, 0, none⟩), .func (.func 63) #[] #[]] w fun e w' => ∃ u, e = .returned u ∧ Rdr w0 w' g L (s.dropWhile blankB) ∧ KeepBut w w' g none := by
  have HR := Aside0.mk h
  have HK := Aside0.mk (KeepBut.refl w g none)
  have HS := Aside0.mk h.len
  obtain ⟨A, c, i0, q0, q1, z1, hi0, _⟩ := h.cells
  have HI0 := Aside0.mk hi0
  have hu63 := Tryd.underlying63
  clear hi0 h z1 q0
  go_enter Tryd.func82, Tryd.ntmps82
  go_wp2_with fail
  clear q1
  go_loopg [] (s.length + 1) (fun kq w' => ∃ r, Aside0 (r <:+ s) ∧ Aside0 (r.dropWhile blankB = s.dropWhile blankB) ∧ Aside0 (r.length < kq) ∧ Aside0 (Rdr w0 w' g L r) ∧ Aside0 (KeepBut w w' g none))
  case atStart => exact ⟨s, ⟨List.suffix_refl _⟩, ⟨rfl⟩, ⟨by omega⟩, HR, HK⟩
  case round =>
    clear HR HK
    obtain ⟨r, HSU, HE, HG, HR, HK⟩ := hrel
    cases gk with
    | zero => exact absurd HG.out (by omega)
    | succ n =>
      cases r with
      | nil =>
        have HN : Aside0 (([] : List Int).isEmpty = true) := ⟨rfl⟩
        go_upto_region 4 with (first
          | (go_at_call 47; (with_reducible refine (over_c HR.out).mono ?_); rintro e W ⟨rfl, hr, hk⟩; rw [HN.out]; have HR := Aside0.mk hr; have HK := Aside0.mk (keep_then HK.out hk); clear hr hk)
          | fail)
        obtain ⟨A, cc, i, q0, q1, z1, hi, hcc⟩ := HR.out.cells
        have HI := Aside0.mk hi
        have w1 : (0 ≤ i0) = True := eq_true (by have := HS.out; have := HI0.out; omega)
        have w2 : (i0 ≤ i) = True := eq_true (by have := HSU.out.length_le; have := HI0.out; have := HI.out; omega)
        have w3 : (i ≤ (cc : Int)) = True := eq_true (by have := HI.out; omega)
        have w4 : (0 ≤ i) = True := eq_true (by have := HS.out; have := HI.out; have := HR.out.len; omega)
        clear hi hcc
        go_region_held3 (fun w' => w'.cell? ⟨g, 0, none⟩ = some (.slice A L.length cc) ∧ w'.cell? ⟨g, 1, none⟩ = some (.int .i64 i)) (first | go_keep | exact ⟨q0, q1⟩) (fail)
        all_goals go_wp2_with fail
        all_goals go_ret
        all_goals first
          | exact ⟨⟨_, rfl⟩, by rw [← HE.out]; exact HR.out.drew, keep_drew HK.out⟩
          | exact ⟨_, rfl, by rw [← HE.out]; exact HR.out.drew, keep_drew HK.out⟩
      | cons c r =>
        have HN : Aside0 ((c :: r).isEmpty = false) := ⟨rfl⟩
        have HPK : Aside0 (pk (c :: r) 0 = c) := ⟨rfl⟩
        obtain ⟨t, ht⟩ : ∃ t, t = blankB c := ⟨_, rfl⟩
        have HT := Aside0.mk ht.symm
        cases t with
        | false =>
          clear ht
          go_upto_region 4 with (first
            | (go_at_call 47; (with_reducible refine (over_c HR.out).mono ?_); rintro e W ⟨rfl, hr, hk⟩; rw [HN.out]; have HR := Aside0.mk hr; have HK := Aside0.mk (keep_then HK.out hk); clear hr hk)
            | (go_at_call 62; (with_reducible refine (peek0_c HR.out).mono ?_); rintro e W ⟨rfl, hr, hk⟩; rw [HPK.out]; have HR := Aside0.mk hr; have HK := Aside0.mk (keep_then HK.out hk); clear hr hk)
            | (go_at_call 63; (with_reducible refine (blank_c c _).mono ?_); rintro e W ⟨rfl, hb⟩; rw [HT.out]; have HR := Aside0.mk (HR.out.below hb); have HK := Aside0.mk (keep_then HK.out (KeepBut.of_below hb g none)); clear hb)
            | fail)
          have HE : Aside0 (c :: r = s.dropWhile blankB) := ⟨by rw [← HE.out, List.dropWhile_cons, HT.out]; rfl⟩
          obtain ⟨A, cc, i, q0, q1, z1, hi, hcc⟩ := HR.out.cells
          have HI := Aside0.mk hi
          have w1 : (0 ≤ i0) = True := eq_true (by have := HS.out; have := HI0.out; omega)
          have w2 : (i0 ≤ i) = True := eq_true (by have := HSU.out.length_le; have := HI0.out; have := HI.out; omega)
          have w3 : (i ≤ (cc : Int)) = True := eq_true (by have := HI.out; omega)
          have w4 : (0 ≤ i) = True := eq_true (by have := HS.out; have := HI.out; have := HR.out.len; omega)
          clear hi hcc
          go_region_held3 (fun w' => w'.cell? ⟨g, 0, none⟩ = some (.slice A L.length cc) ∧ w'.cell? ⟨g, 1, none⟩ = some (.int .i64 i)) (first | go_keep | exact ⟨q0, q1⟩) (fail)
          all_goals go_wp2_with fail
          all_goals go_ret
          all_goals first
            | exact ⟨⟨_, rfl⟩, by rw [← HE.out]; exact HR.out.drew, keep_drew HK.out⟩
            | exact ⟨_, rfl, by rw [← HE.out]; exact HR.out.drew, keep_drew HK.out⟩
        | true =>
          clear ht
          go_upto_region 3 with (first
            | (go_at_call 47; (with_reducible refine (over_c HR.out).mono ?_); rintro e W ⟨rfl, hr, hk⟩; rw [HN.out]; have HR := Aside0.mk hr; have HK := Aside0.mk (keep_then HK.out hk); clear hr hk)
            | (go_at_call 62; (with_reducible refine (peek0_c HR.out).mono ?_); rintro e W ⟨rfl, hr, hk⟩; rw [HPK.out]; have HR := Aside0.mk hr; have HK := Aside0.mk (keep_then HK.out hk); clear hr hk)
            | (go_at_call 63; (with_reducible refine (blank_c c _).mono ?_); rintro e W ⟨rfl, hb⟩; rw [HT.out]; have HR := Aside0.mk (HR.out.below hb); have HK := Aside0.mk (keep_then HK.out (KeepBut.of_below hb g none)); clear hb)
            | fail)
          obtain ⟨A, cc, i, q0, q1, z1, hi, _⟩ := HR.out.cells
          have HI := Aside0.mk hi
          have HST : Aside0 (wrap64 (i + 1) = (L.length : Int) - r.length) := ⟨by have := HR.out.len; simp only [List.length_cons] at this hi; unfold wrap64; omega⟩
          clear hi q0
          go_wp2_with fail
          go_roundg n
          case measure => have := HG.out; simp at this; omega
          case rel => exact ⟨r, ⟨(List.suffix_cons c r).trans HSU.out⟩, ⟨by rw [← HE.out, List.dropWhile_cons, HT.out]; rfl⟩, ⟨by have := HG.out; simp at this; omega⟩, ⟨HR.out.set (List.suffix_cons c r) HST.out⟩, ⟨HK.out.set_ 1 _⟩⟩
theorem digit_cc (c : Int) (w : World) : Calls Tryd.prog 31 #[.int .i32 c] w fun e w' => e = .returned (.bool (digB c)) ∧ Below w.heap.size w w' := digit_calls c w
set_option maxHeartbeats 8000000 in
set_option maxRecDepth 100000 in
theorem while_digit {w0 w : World} {g : Nat} {L s : List Int} (h : Rdr w0 w g L s) :
    Calls Tryd.prog 82 #[.pointer (some ⟨g, 0, none⟩), .func (.func 31) #[] #[]] w fun e w' => ∃ u, e = .returned u ∧ Rdr w0 w' g L (s.dropWhile digB) ∧ KeepBut w w' g none := by
  have HR := Aside0.mk h
  have HK := Aside0.mk (KeepBut.refl w g none)
  have HS := Aside0.mk h.len
  obtain ⟨A, c, i0, q0, q1, z1, hi0, _⟩ := h.cells
  have HI0 := Aside0.mk hi0
  have hu63 := Tryd.underlying63
  clear hi0 h z1 q0
  go_enter Tryd.func82, Tryd.ntmps82
  go_wp2_with fail
  clear q1
  go_loopg [] (s.length + 1) (fun kq w' => ∃ r, Aside0 (r <:+ s) ∧ Aside0 (r.dropWhile digB = s.dropWhile digB) ∧ Aside0 (r.length < kq) ∧ Aside0 (Rdr w0 w' g L r) ∧ Aside0 (KeepBut w w' g none))
  case atStart => exact ⟨s, ⟨List.suffix_refl _⟩, ⟨rfl⟩, ⟨by omega⟩, HR, HK⟩
  case round =>
    clear HR HK
    obtain ⟨r, HSU, HE, HG, HR, HK⟩ := hrel
    cases gk with
    | zero => exact absurd HG.out (by omega)
    | succ n =>
      cases r with
      | nil =>
        have HN : Aside0 (([] : List Int).isEmpty = true) := ⟨rfl⟩
        go_upto_region 4 with (first
          | (go_at_call 47; (with_reducible refine (over_c HR.out).mono ?_); rintro e W ⟨rfl, hr, hk⟩; rw [HN.out]; have HR := Aside0.mk hr; have HK := Aside0.mk (keep_then HK.out hk); clear hr hk)
          | fail)
        obtain ⟨A, cc, i, q0, q1, z1, hi, hcc⟩ := HR.out.cells
        have HI := Aside0.mk hi
        have w1 : (0 ≤ i0) = True := eq_true (by have := HS.out; have := HI0.out; omega)
        have w2 : (i0 ≤ i) = True := eq_true (by have := HSU.out.length_le; have := HI0.out; have := HI.out; omega)
        have w3 : (i ≤ (cc : Int)) = True := eq_true (by have := HI.out; omega)
        have w4 : (0 ≤ i) = True := eq_true (by have := HS.out; have := HI.out; have := HR.out.len; omega)
        clear hi hcc
        go_region_held3 (fun w' => w'.cell? ⟨g, 0, none⟩ = some (.slice A L.length cc) ∧ w'.cell? ⟨g, 1, none⟩ = some (.int .i64 i)) (first | go_keep | exact ⟨q0, q1⟩) (fail)
        all_goals go_wp2_with fail
        all_goals go_ret
        all_goals first
          | exact ⟨⟨_, rfl⟩, by rw [← HE.out]; exact HR.out.drew, keep_drew HK.out⟩
          | exact ⟨_, rfl, by rw [← HE.out]; exact HR.out.drew, keep_drew HK.out⟩
      | cons c r =>
        have HN : Aside0 ((c :: r).isEmpty = false) := ⟨rfl⟩
        have HPK : Aside0 (pk (c :: r) 0 = c) := ⟨rfl⟩
        obtain ⟨t, ht⟩ : ∃ t, t = digB c := ⟨_, rfl⟩
        have HT := Aside0.mk ht.symm
        cases t with
        | false =>
          clear ht
          go_upto_region 4 with (first
            | (go_at_call 47; (with_reducible refine (over_c HR.out).mono ?_); rintro e W ⟨rfl, hr, hk⟩; rw [HN.out]; have HR := Aside0.mk hr; have HK := Aside0.mk (keep_then HK.out hk); clear hr hk)
            | (go_at_call 62; (with_reducible refine (peek0_c HR.out).mono ?_); rintro e W ⟨rfl, hr, hk⟩; rw [HPK.out]; have HR := Aside0.mk hr; have HK := Aside0.mk (keep_then HK.out hk); clear hr hk)
            | (go_at_call 31; (with_reducible refine (digit_cc c _).mono ?_); rintro e W ⟨rfl, hb⟩; rw [HT.out]; have HR := Aside0.mk (HR.out.below hb); have HK := Aside0.mk (keep_then HK.out (KeepBut.of_below hb g none)); clear hb)
            | fail)
          have HE : Aside0 (c :: r = s.dropWhile digB) := ⟨by rw [← HE.out, List.dropWhile_cons, HT.out]; rfl⟩
          obtain ⟨A, cc, i, q0, q1, z1, hi, hcc⟩ := HR.out.cells
          have HI := Aside0.mk hi
          have w1 : (0 ≤ i0) = True := eq_true (by have := HS.out; have := HI0.out; omega)
          have w2 : (i0 ≤ i) = True := eq_true (by have := HSU.out.length_le; have := HI0.out; have := HI.out; omega)
          have w3 : (i ≤ (cc : Int)) = True := eq_true (by have := HI.out; omega)
          have w4 : (0 ≤ i) = True := eq_true (by have := HS.out; have := HI.out; have := HR.out.len; omega)
          clear hi hcc
          go_region_held3 (fun w' => w'.cell? ⟨g, 0, none⟩ = some (.slice A L.length cc) ∧ w'.cell? ⟨g, 1, none⟩ = some (.int .i64 i)) (first | go_keep | exact ⟨q0, q1⟩) (fail)
          all_goals go_wp2_with fail
          all_goals go_ret
          all_goals first
            | exact ⟨⟨_, rfl⟩, by rw [← HE.out]; exact HR.out.drew, keep_drew HK.out⟩
            | exact ⟨_, rfl, by rw [← HE.out]; exact HR.out.drew, keep_drew HK.out⟩
        | true =>
          clear ht
          go_upto_region 3 with (first
            | (go_at_call 47; (with_reducible refine (over_c HR.out).mono ?_); rintro e W ⟨rfl, hr, hk⟩; rw [HN.out]; have HR := Aside0.mk hr; have HK := Aside0.mk (keep_then HK.out hk); clear hr hk)
            | (go_at_call 62; (with_reducible refine (peek0_c HR.out).mono ?_); rintro e W ⟨rfl, hr, hk⟩; rw [HPK.out]; have HR := Aside0.mk hr; have HK := Aside0.mk (keep_then HK.out hk); clear hr hk)
            | (go_at_call 31; (with_reducible refine (digit_cc c _).mono ?_); rintro e W ⟨rfl, hb⟩; rw [HT.out]; have HR := Aside0.mk (HR.out.below hb); have HK := Aside0.mk (keep_then HK.out (KeepBut.of_below hb g none)); clear hb)
            | fail)
          obtain ⟨A, cc, i, q0, q1, z1, hi, _⟩ := HR.out.cells
          have HI := Aside0.mk hi
          have HST : Aside0 (wrap64 (i + 1) = (L.length : Int) - r.length) := ⟨by have := HR.out.len; simp only [List.length_cons] at this hi; unfold wrap64; omega⟩
          clear hi q0
          go_wp2_with fail
          go_roundg n
          case measure => have := HG.out; simp at this; omega
          case rel => exact ⟨r, ⟨(List.suffix_cons c r).trans HSU.out⟩, ⟨by rw [← HE.out, List.dropWhile_cons, HT.out]; rfl⟩, ⟨by have := HG.out; simp at this; omega⟩, ⟨HR.out.set (List.suffix_cons c r) HST.out⟩, ⟨HK.out.set_ 1 _⟩⟩
end Go.Proofs.YtpnlbmeeihbjaabDoor.P
end
section
set_option linter.unusedVariables false
set_option linter.unusedSimpArgs false
namespace Go.Proofs.YtpnlbmeeihbjaabDoor.P
open Go.RowKit Go.Proofs.YtpnlbmeeihbjaabDoorW.PrintWords Go.Proofs.YtpnlbmeeihbjaabDoorW.PrintLast Go.Proofs.YtpnlbmeeihbjaabDoorW.PrintMore
open Go.Lib
attribute [local go_sem] max2_int min2_int max_two min_two max_three min_three max_four min_four
set_option linter.unusedVariables false
set_option linter.unusedSimpArgs false
set_option maxHeartbeats 8000000 in
set_option maxRecDepth 100000 in
theorem name_c {w0 w : World} {g : Nat} {L s : List Int} (h : Rdr w0 w g L s) :
    Calls Tryd.prog 84 #[.pointer (some ⟨g, 0, none⟩)] w fun e w' => e = .returned (.string ⟨(strR (nameS s).1).toArray⟩) ∧ Rdr w0 w' g L (nameS s).2 ∧ KeepBut w w' g none := by
  have hu63 := Tryd.underlying63
  have hu44 := Tryd.underlying44
  have HGB : Aside0 (g < w.heap.size ∧ w.heap.size ≤ w.heap.size) := ⟨h.lt.2, Nat.le_refl _⟩
  have HR : Aside0 (Rdr w0 (w.alloc (.cells #[.pointer none, .slice none 0 0] 44)) g L s) := ⟨h.below (below_alloc (Below.refl _ _) _)⟩
  have HK : Aside0 (KeepBut w (w.alloc (.cells #[.pointer none, .slice none 0 0] 44)) g none) := ⟨keep_alloc (KeepBut.refl w g none) _⟩
  have HBL : Aside0 (Bld (w.alloc (.cells #[.pointer none, .slice none 0 0] 44)) w.heap.size w.heap.size (Lib.byteCells (strR []))) := ⟨Bld.new w w.heap.size (Nat.le_refl _)⟩
  have HBS : Aside0 (w.heap.size ≤ w.heap.size) := ⟨Nat.le_refl _⟩
  clear h
  go_enter Tryd.func84, Tryd.ntmps84
  go_wp2_with fail
  generalize w.alloc (.cells #[.pointer none, .slice none 0 0] 44) = W0 at HR HK HBL ⊢
  go_loopg [] (s.length + 1) (fun kq w' => ∃ r out, Aside0 (nameS s = (out ++ (nameS r).1, (nameS r).2)) ∧ Aside0 (r.length < kq) ∧ Aside0 (out.length + r.length ≤ s.length ∧ s.length ≤ 1099511627776) ∧ Aside0 (Rdr w0 w' g L r) ∧ Aside0 (KeepBut w w' g none) ∧ Aside0 (Bld w' w.heap.size w.heap.size (Lib.byteCells (strR out))))
  case atStart => exact ⟨s, [], ⟨rfl⟩, ⟨by omega⟩, ⟨by simp; have := HR.out.len; omega⟩, HR, HK, HBL⟩
  case round =>
    clear HR HK HBL
    obtain ⟨r, out, HE, HG, HLN, HR, HK, HBL⟩ := hrel
    cases gk with
    | zero => exact absurd HG.out (by omega)
    | succ n =>
      cases r with
      | nil =>
        have HP : Aside0 (pk [] 0 = -1 ∧ escB [] 0 = false) := ⟨rfl, escB_nil 0⟩
        go_wp2_with (first
          | (go_at_call 62; (with_reducible refine (peek0_c HR.out).mono ?_); rintro e W ⟨rfl, hr, hk⟩; rw [HP.out.1]; (first | (have HBL := Aside0.mk (HBL.out.keep hk HGB.out.1)) | skip); (first | (have HQ := Aside0.mk (keep_blk hk HQ.out HNE.out)) | skip); have HR := Aside0.mk hr; have HK := Aside0.mk (keep_then HK.out hk); clear hr hk)
          | (go_at_call 66; (with_reducible refine (esc0_c HR.out).mono ?_); rintro e W ⟨rfl, hr, hk⟩; (first | rw [HP.out.2.1] | rw [HP.out.2]); (first | (have HBL := Aside0.mk (HBL.out.keep hk HGB.out.1)) | skip); (first | (have HQ := Aside0.mk (keep_blk hk HQ.out HNE.out)) | skip); have HR := Aside0.mk hr; have HK := Aside0.mk (keep_then HK.out hk); clear hr hk)
          | (go_at_call 29; (with_reducible refine (bstr w.heap.size w.heap.size (strR out) _ HBL.out (keep_size HK.out)).mono ?_); rintro e W ⟨rfl, hb⟩; have HR := Aside0.mk (HR.out.bld hb HGB.out.1); have HK := Aside0.mk (keep_bld HK.out hb (Nat.le_refl _)); clear hb)
          | fail)
        go_ret
        exact ⟨by rw [HE.out]; simp [nameS_nil], by rw [HE.out]; exact HR.out, HK.out⟩
      | cons c t =>
        have hc := HR.out.chars c List.mem_cons_self
        have HC := Aside0.mk hc
        have d1 : (c != -1) = true := by simp; omega
        obtain ⟨t1, ht1⟩ : ∃ b, b = partB c := ⟨_, rfl⟩
        obtain ⟨t2, ht2⟩ : ∃ b, b = escB (c :: t) 0 := ⟨_, rfl⟩
        have HP : Aside0 (pk (c :: t) 0 = c ∧ escB (c :: t) 0 = t2 ∧ partB c = t1) := ⟨rfl, ht2.symm, ht1.symm⟩
        clear ht1 ht2 hc
        cases t1 with
        | true =>
          go_upto_region 6 with (first
            | (go_at_call 62; (with_reducible refine (peek0_c HR.out).mono ?_); rintro e W ⟨rfl, hr, hk⟩; rw [HP.out.1]; (first | (have HBL := Aside0.mk (HBL.out.keep hk HGB.out.1)) | skip); (first | (have HQ := Aside0.mk (keep_blk hk HQ.out HNE.out)) | skip); have HR := Aside0.mk hr; have HK := Aside0.mk (keep_then HK.out hk); clear hr hk)
            | (go_at_call 57; (with_reducible refine (part_calls c _).mono ?_); rintro e W ⟨rfl, hb⟩; rw [HP.out.2.2]; (first | (have HBL := Aside0.mk (HBL.out.keep (KeepBut.of_below hb g none) HGB.out.1)) | skip); (first | (have HQ := Aside0.mk (blk_below HQ.out hb)) | skip); have HR := Aside0.mk (HR.out.below hb); have HK := Aside0.mk (keep_then HK.out (KeepBut.of_below hb g none)); clear hb)
            | (go_at_call 52; (with_reducible refine (bwrune _ _ _ c (by have := HC.out; omega) (by have := HC.out; omega) _ HBL.out (by have := HLN.out; have := strR_len out; have := HR.out.len; rw [Lib.byteCells_length]; omega) (by have := HBS.out; have := keep_size HK.out; omega)).mono ?_); rintro e W ⟨uu, rfl, hbl, hb⟩; rw [bld_snoc] at hbl; have HBL := Aside0.mk hbl; (first | (have HQ := Aside0.mk ((hb.block _ HQB.out).trans HQ.out)) | skip); have HR := Aside0.mk (HR.out.bld hb HGB.out.1); have HK := Aside0.mk (keep_bld HK.out hb HGB.out.2); clear hbl hb)
            | fail)
          obtain ⟨A, cc, i, q0, q1, z1, hi, _⟩ := HR.out.cells
          have HST : Aside0 (wrap64 (i + 1) = (L.length : Int) - t.length) := ⟨by have := HR.out.len; simp only [List.length_cons] at this hi; unfold wrap64; omega⟩
          clear hi q0 d1
          go_wp2_with fail
          go_roundg n
          case measure => have := HG.out; simp at this; omega
          case rel => exact ⟨t, out ++ [c], ⟨by rw [HE.out, nameS_part HP.out.2.2]; simp⟩, ⟨by have := HG.out; simp at this; omega⟩, ⟨by have := HLN.out; simp at this ⊢; omega⟩, ⟨HR.out.set (List.suffix_cons c t) HST.out⟩, ⟨HK.out.set_ 1 _⟩, ⟨HBL.out.keep ((KeepBut.refl _ g none).set_ 1 _) HGB.out.1⟩⟩
        | false =>
          cases t2 with
          | true =>
            have HEL := Aside0.mk (escd_len c t)
            have HER := Aside0.mk (escd_range c t (fun x hx => HR.out.chars x (List.mem_cons_of_mem _ hx)))
            obtain ⟨q, hq⟩ : ∃ q, q = escd (c :: t) := ⟨_, rfl⟩
            have HQE := Aside0.mk hq.symm
            rw [← hq] at HEL HER
            clear hq
            go_wp2_with (first
              | (go_at_call 62; (with_reducible refine (peek0_c HR.out).mono ?_); rintro e W ⟨rfl, hr, hk⟩; rw [HP.out.1]; (first | (have HBL := Aside0.mk (HBL.out.keep hk HGB.out.1)) | skip); (first | (have HQ := Aside0.mk (keep_blk hk HQ.out HNE.out)) | skip); have HR := Aside0.mk hr; have HK := Aside0.mk (keep_then HK.out hk); clear hr hk)
              | (go_at_call 57; (with_reducible refine (part_calls c _).mono ?_); rintro e W ⟨rfl, hb⟩; rw [HP.out.2.2]; (first | (have HBL := Aside0.mk (HBL.out.keep (KeepBut.of_below hb g none) HGB.out.1)) | skip); (first | (have HQ := Aside0.mk (blk_below HQ.out hb)) | skip); have HR := Aside0.mk (HR.out.below hb); have HK := Aside0.mk (keep_then HK.out (KeepBut.of_below hb g none)); clear hb)
              | (go_at_call 66; (with_reducible refine (esc0_c HR.out).mono ?_); rintro e W ⟨rfl, hr, hk⟩; (first | rw [HP.out.2.1] | rw [HP.out.2]); (first | (have HBL := Aside0.mk (HBL.out.keep hk HGB.out.1)) | skip); (first | (have HQ := Aside0.mk (keep_blk hk HQ.out HNE.out)) | skip); have HR := Aside0.mk hr; have HK := Aside0.mk (keep_then HK.out hk); clear hr hk)
              | (go_at_call 83; (with_reducible refine (escd_c c HR.out).mono ?_); rw [HQE.out]; rintro e W ⟨rfl, hr, hk⟩; have HBL := Aside0.mk (HBL.out.keep hk HGB.out.1); have HR := Aside0.mk hr; have HK := Aside0.mk (keep_then HK.out hk); clear hr hk)
              | (go_at_call 52; (with_reducible refine (bwrune _ _ _ q.1 (by have := HER.out; omega) (by have := HER.out; omega) _ HBL.out (by have := HLN.out; have := strR_len out; have := HR.out.len; rw [Lib.byteCells_length]; omega) (by have := HBS.out; have := keep_size HK.out; omega)).mono ?_); rintro e W ⟨uu, rfl, hbl, hb⟩; rw [bld_snoc] at hbl; have HBL := Aside0.mk hbl; (first | (have HQ := Aside0.mk ((hb.block _ HQB.out).trans HQ.out)) | skip); have HR := Aside0.mk (HR.out.bld hb HGB.out.1); have HK := Aside0.mk (keep_bld HK.out hb HGB.out.2); clear hbl hb)
              | fail)
            go_roundg n
            case measure => have h1 := HG.out; have h2 := HEL.out; rw [List.length_cons] at h1; omega
            case rel => exact ⟨q.2, out ++ [q.1], ⟨by rw [HE.out, nameS_esc HP.out.2.2 HP.out.2.1, HQE.out]; simp⟩, ⟨by have h1 := HG.out; have h2 := HEL.out; rw [List.length_cons] at h1; omega⟩, ⟨by have h1 := HLN.out; have h2 := HEL.out; rw [List.length_cons] at h1; rw [List.length_append, List.length_singleton]; omega⟩, HR, HK, HBL⟩
          | false =>
            go_wp2_with (first
              | (go_at_call 62; (with_reducible refine (peek0_c HR.out).mono ?_); rintro e W ⟨rfl, hr, hk⟩; rw [HP.out.1]; (first | (have HBL := Aside0.mk (HBL.out.keep hk HGB.out.1)) | skip); (first | (have HQ := Aside0.mk (keep_blk hk HQ.out HNE.out)) | skip); have HR := Aside0.mk hr; have HK := Aside0.mk (keep_then HK.out hk); clear hr hk)
              | (go_at_call 57; (with_reducible refine (part_calls c _).mono ?_); rintro e W ⟨rfl, hb⟩; rw [HP.out.2.2]; (first | (have HBL := Aside0.mk (HBL.out.keep (KeepBut.of_below hb g none) HGB.out.1)) | skip); (first | (have HQ := Aside0.mk (blk_below HQ.out hb)) | skip); have HR := Aside0.mk (HR.out.below hb); have HK := Aside0.mk (keep_then HK.out (KeepBut.of_below hb g none)); clear hb)
              | (go_at_call 66; (with_reducible refine (esc0_c HR.out).mono ?_); rintro e W ⟨rfl, hr, hk⟩; (first | rw [HP.out.2.1] | rw [HP.out.2]); (first | (have HBL := Aside0.mk (HBL.out.keep hk HGB.out.1)) | skip); (first | (have HQ := Aside0.mk (keep_blk hk HQ.out HNE.out)) | skip); have HR := Aside0.mk hr; have HK := Aside0.mk (keep_then HK.out hk); clear hr hk)
              | (go_at_call 29; (with_reducible refine (bstr w.heap.size w.heap.size (strR out) _ HBL.out (keep_size HK.out)).mono ?_); rintro e W ⟨rfl, hb⟩; have HR := Aside0.mk (HR.out.bld hb HGB.out.1); have HK := Aside0.mk (keep_bld HK.out hb (Nat.le_refl _)); clear hb)
              | fail)
            go_ret
            exact ⟨by rw [HE.out, nameS_end HP.out.2.2 HP.out.2.1]; simp, by rw [HE.out, nameS_end HP.out.2.2 HP.out.2.1]; exact HR.out, HK.out⟩
end Go.Proofs.YtpnlbmeeihbjaabDoor.P
end
section
set_option linter.unusedVariables false
set_option linter.unusedSimpArgs false
namespace Go.Proofs.YtpnlbmeeihbjaabDoor.P
open Go.RowKit Go.Proofs.YtpnlbmeeihbjaabDoorW.PrintWords Go.Proofs.YtpnlbmeeihbjaabDoorW.PrintLast Go.Proofs.YtpnlbmeeihbjaabDoorW.PrintMore
open Go.Lib
attribute [local go_sem] max2_int min2_int max_two min_two max_three min_three max_four min_four
set_option linter.unusedVariables false
set_option linter.unusedSimpArgs false
set_option maxHeartbeats 8000000 in
set_option maxRecDepth 100000 in
theorem space_c {w0 w : World} {g : Nat} {L s : List Int} (h : Rdr w0 w g L s) :
    Calls Tryd.prog 64 #[.pointer (some ⟨g, 0, none⟩)] w fun e w' => e = .returned (tokV 13 ⟨#[]⟩ ⟨#[]⟩ false false) ∧ Rdr w0 w' g L (s.dropWhile blankB) ∧ KeepBut w w' g none := by
  have hu63 := Tryd.underlying63
  have hu26 := Tryd.underlying26
  go_enter Tryd.func64, Tryd.ntmps64
  go_upto_region 1 with (fail)
  have hq := blk_new w (.cells #[.int .i64 0, .string ⟨#[]⟩, .string ⟨#[]⟩, .bool false, .bool false] 26)
  have HR : Aside0 (Rdr w0 (w.alloc (.cells #[.int .i64 0, .string ⟨#[]⟩, .string ⟨#[]⟩, .bool false, .bool false] 26)) g L s) := ⟨h.below (below_alloc (Below.refl _ _) _)⟩
  have HK : Aside0 (KeepBut w (w.alloc (.cells #[.int .i64 0, .string ⟨#[]⟩, .string ⟨#[]⟩, .bool false, .bool false] 26)) g none) := ⟨keep_alloc (KeepBut.refl w g none) _⟩
  have HNE : Aside0 (w.heap.size ≠ g ∧ g ≠ w.heap.size ∧ w0.heap.size ≤ w.heap.size) := ⟨by have := h.lt.2; omega, by have := h.lt.2; omega, h.bel.size⟩
  have HQ := Aside0.mk hq
  generalize w.alloc (.cells #[.int .i64 0, .string ⟨#[]⟩, .string ⟨#[]⟩, .bool false, .bool false] 26) = W0 at HR HK HQ ⊢
  obtain ⟨b, hb⟩ : ∃ b, b = w.heap.size := ⟨_, rfl⟩
  have HBD : Aside0 (w.heap.size ≤ b) := ⟨by omega⟩
  rw [← hb] at HNE HQ ⊢
  clear hq h hb
  go_upto_region 2 with (first | (go_at_call 82; (with_reducible refine (while_blank HR.out).mono ?_); rintro e W ⟨uw, rfl, hr, hk⟩; have HQ := Aside0.mk (keep_blk hk HQ.out HNE.out.1); have HR := Aside0.mk hr; have HK := Aside0.mk (keep_then HK.out hk); clear hr hk) | fail)
  have m0 := (blk_cell HQ.out 0).trans (show _ = some _ from rfl)
  have n0 := blk_frozen HQ.out 0
  have m1 := (blk_cell HQ.out 1).trans (show _ = some _ from rfl)
  have n1 := blk_frozen HQ.out 1
  have m2 := (blk_cell HQ.out 2).trans (show _ = some _ from rfl)
  have n2 := blk_frozen HQ.out 2
  have m3 := (blk_cell HQ.out 3).trans (show _ = some _ from rfl)
  have n3 := blk_frozen HQ.out 3
  have m4 := (blk_cell HQ.out 4).trans (show _ = some _ from rfl)
  have n4 := blk_frozen HQ.out 4
  go_wp2_with fail
  refine bodyPost_ret (results_cell_row rfl _ _ b 26 #[.int .i64 13, .string ⟨#[]⟩, .string ⟨#[]⟩, .bool false, .bool false] (0, 0) _ rfl (tok_put HQ.out _ _ _ _ _) Tryd.underlying26 rfl (by kernel_rfl)) rfl ?_
  exact ⟨rfl, HR.out.far5 HNE.out.2.1 HNE.out.2.2 _ _ _ _ _, keep_far5 HK.out HBD.out _ _ _ _ _⟩
set_option maxHeartbeats 8000000 in
set_option maxRecDepth 100000 in
theorem at_c {w0 w : World} {g : Nat} {L : List Int} {c : Int} {t : List Int} (h : Rdr w0 w g L (c :: t)) :
    Calls Tryd.prog 74 #[.pointer (some ⟨g, 0, none⟩)] w fun e w' => e = .returned (tokV 3 ⟨(strR (nameS t).1).toArray⟩ ⟨#[]⟩ false false) ∧ Rdr w0 w' g L (nameS t).2 ∧ KeepBut w w' g none := by
  have hu63 := Tryd.underlying63
  have hu26 := Tryd.underlying26
  go_enter Tryd.func74, Tryd.ntmps74
  go_upto_region 1 with (fail)
  have hq := blk_new w (.cells #[.int .i64 0, .string ⟨#[]⟩, .string ⟨#[]⟩, .bool false, .bool false] 26)
  have HR : Aside0 (Rdr w0 (w.alloc (.cells #[.int .i64 0, .string ⟨#[]⟩, .string ⟨#[]⟩, .bool false, .bool false] 26)) g L (c :: t)) := ⟨h.below (below_alloc (Below.refl _ _) _)⟩
  have HK : Aside0 (KeepBut w (w.alloc (.cells #[.int .i64 0, .string ⟨#[]⟩, .string ⟨#[]⟩, .bool false, .bool false] 26)) g none) := ⟨keep_alloc (KeepBut.refl w g none) _⟩
  have HNE : Aside0 (w.heap.size ≠ g ∧ g ≠ w.heap.size ∧ w0.heap.size ≤ w.heap.size) := ⟨by have := h.lt.2; omega, by have := h.lt.2; omega, h.bel.size⟩
  have HQ := Aside0.mk hq
  generalize w.alloc (.cells #[.int .i64 0, .string ⟨#[]⟩, .string ⟨#[]⟩, .bool false, .bool false] 26) = W0 at HR HK HQ ⊢
  obtain ⟨b, hb⟩ : ∃ b, b = w.heap.size := ⟨_, rfl⟩
  have HBD : Aside0 (w.heap.size ≤ b) := ⟨by omega⟩
  rw [← hb] at HNE HQ ⊢
  clear hq h hb
  obtain ⟨A, cc, i, q0, q1, z1, hi, _⟩ := HR.out.cells
  have HST : Aside0 (wrap64 (i + 1) = (L.length : Int) - t.length) := ⟨by have := HR.out.len; simp only [List.length_cons] at this hi; unfold wrap64; omega⟩
  clear hi q0
  go_upto_region 2 with (fail)
  have HR2 := Aside0.mk (HR.out.set (List.suffix_cons c t) HST.out)
  have HK2 := Aside0.mk (HK.out.set_ 1 (.int .i64 (wrap64 (i + 1))))
  have HQ2 := Aside0.mk (blk_far HQ.out (p := ⟨g, 1, none⟩) HNE.out.1 (.int .i64 (wrap64 (i + 1))))
  clear q1 z1
  generalize W0.setCell ⟨g, 1, none⟩ (.int .i64 (wrap64 (i + 1))) = W1 at HR2 HK2 HQ2 ⊢
  have HR := HR2
  have HK := HK2
  have HQ := HQ2
  go_wp2_with (first | ((go_at_call 84; (with_reducible refine (name_c HR.out).mono ?_); rintro e W ⟨rfl, hr, hk⟩; have HQ := Aside0.mk (keep_blk hk HQ.out HNE.out.1); have HR := Aside0.mk hr; have HK := Aside0.mk (keep_then HK.out hk); clear hr hk; have m0 := (blk_cell HQ.out 0).trans (show _ = some _ from rfl); have n0 := blk_frozen HQ.out 0; have m1 := (blk_cell HQ.out 1).trans (show _ = some _ from rfl); have n1 := blk_frozen HQ.out 1; have m2 := (blk_cell HQ.out 2).trans (show _ = some _ from rfl); have n2 := blk_frozen HQ.out 2; have m3 := (blk_cell HQ.out 3).trans (show _ = some _ from rfl); have n3 := blk_frozen HQ.out 3; have m4 := (blk_cell HQ.out 4).trans (show _ = some _ from rfl); have n4 := blk_frozen HQ.out 4)) | fail)
  refine bodyPost_ret (results_cell_row rfl _ _ b 26 #[.int .i64 3, .string ⟨(strR (nameS t).1).toArray⟩, .string ⟨#[]⟩, .bool false, .bool false] (0, 0) _ rfl (tok_put HQ.out _ _ _ _ _) Tryd.underlying26 rfl (by kernel_rfl)) rfl ?_
  exact ⟨rfl, HR.out.far5 HNE.out.2.1 HNE.out.2.2 _ _ _ _ _, keep_far5 HK.out HBD.out _ _ _ _ _⟩
end Go.Proofs.YtpnlbmeeihbjaabDoor.P
end
section
set_option linter.unusedVariables false
set_option linter.unusedSimpArgs false
namespace Go.Proofs.YtpnlbmeeihbjaabDoor.P
open Go.RowKit Go.Proofs.YtpnlbmeeihbjaabDoorW.PrintWords Go.Proofs.YtpnlbmeeihbjaabDoorW.PrintLast Go.Proofs.YtpnlbmeeihbjaabDoorW.PrintMore
open Go.Lib
attribute [local go_sem] max2_int min2_int max_two min_two max_three min_three max_four min_four
set_option linter.unusedVariables false
set_option linter.unusedSimpArgs false
set_option maxHeartbeats 8000000 in
set_option maxRecDepth 100000 in
theorem hash_c {w0 w : World} {g : Nat} {L : List Int} {c : Int} {t : List Int} (h : Rdr w0 w g L (c :: t)) :
    Calls Tryd.prog 67 #[.pointer (some ⟨g, 0, none⟩)] w fun e w' => e = .returned (tokV 4 ⟨(strR (nameS t).1).toArray⟩ ⟨#[]⟩ false (begB t 0)) ∧ Rdr w0 w' g L (nameS t).2 ∧ KeepBut w w' g none := by
  have hu63 := Tryd.underlying63
  have hu26 := Tryd.underlying26
  obtain ⟨fl, hfl⟩ : ∃ b, b = begB t 0 := ⟨_, rfl⟩
  have HFL := Aside0.mk hfl.symm
  rw [← hfl]
  clear hfl
  go_enter Tryd.func67, Tryd.ntmps67
  go_upto_region 1 with (fail)
  have hq := blk_new w (.cells #[.int .i64 0, .string ⟨#[]⟩, .string ⟨#[]⟩, .bool false, .bool false] 26)
  have HR : Aside0 (Rdr w0 (w.alloc (.cells #[.int .i64 0, .string ⟨#[]⟩, .string ⟨#[]⟩, .bool false, .bool false] 26)) g L (c :: t)) := ⟨h.below (below_alloc (Below.refl _ _) _)⟩
  have HK : Aside0 (KeepBut w (w.alloc (.cells #[.int .i64 0, .string ⟨#[]⟩, .string ⟨#[]⟩, .bool false, .bool false] 26)) g none) := ⟨keep_alloc (KeepBut.refl w g none) _⟩
  have HNE : Aside0 (w.heap.size ≠ g ∧ g ≠ w.heap.size ∧ w0.heap.size ≤ w.heap.size) := ⟨by have := h.lt.2; omega, by have := h.lt.2; omega, h.bel.size⟩
  have HQ := Aside0.mk hq
  generalize w.alloc (.cells #[.int .i64 0, .string ⟨#[]⟩, .string ⟨#[]⟩, .bool false, .bool false] 26) = W0 at HR HK HQ ⊢
  obtain ⟨b, hb⟩ : ∃ b, b = w.heap.size := ⟨_, rfl⟩
  have HBD : Aside0 (w.heap.size ≤ b) := ⟨by omega⟩
  rw [← hb] at HNE HQ ⊢
  clear hq h hb
  obtain ⟨A, cc, i, q0, q1, z1, hi, _⟩ := HR.out.cells
  have HST : Aside0 (wrap64 (i + 1) = (L.length : Int) - t.length) := ⟨by have := HR.out.len; simp only [List.length_cons] at this hi; unfold wrap64; omega⟩
  clear hi q0
  go_upto_region 2 with (fail)
  have HR2 := Aside0.mk (HR.out.set (List.suffix_cons c t) HST.out)
  have HK2 := Aside0.mk (HK.out.set_ 1 (.int .i64 (wrap64 (i + 1))))
  have HQ2 := Aside0.mk (blk_far HQ.out (p := ⟨g, 1, none⟩) HNE.out.1 (.int .i64 (wrap64 (i + 1))))
  clear q1 z1
  generalize W0.setCell ⟨g, 1, none⟩ (.int .i64 (wrap64 (i + 1))) = W1 at HR2 HK2 HQ2 ⊢
  have HR := HR2
  have HK := HK2
  have HQ := HQ2
  go_upto_region 3 with (first | (go_at_call 72; (with_reducible refine (beg0_c HR.out).mono ?_); rintro e W ⟨rfl, hr, hk⟩; rw [HFL.out]; have HQ := Aside0.mk (keep_blk hk HQ.out HNE.out.1); have HR := Aside0.mk hr; have HK := Aside0.mk (keep_then HK.out hk); clear hr hk) | fail)
  have hq := blk_new W (.cells #[.int .i64 4, .string ⟨#[]⟩, .string ⟨#[]⟩, .bool false, .bool fl] 26)
  have HNE3 : Aside0 (W.heap.size ≠ g ∧ g ≠ W.heap.size ∧ w0.heap.size ≤ W.heap.size ∧ b ≠ W.heap.size ∧ w.heap.size ≤ W.heap.size) := ⟨by have := HR.out.lt; have := blk_lt HQ.out; have := keep_size HK.out; have := HR.out.bel.size; omega⟩
  have HR2 := Aside0.mk (HR.out.below (below_alloc (Below.refl W.heap.size W) (.cells #[.int .i64 4, .string ⟨#[]⟩, .string ⟨#[]⟩, .bool false, .bool fl] 26)))
  have HK2 := Aside0.mk (keep_alloc HK.out (.cells #[.int .i64 4, .string ⟨#[]⟩, .string ⟨#[]⟩, .bool false, .bool fl] 26))
  have HQ2 := Aside0.mk (blk_below HQ.out (below_alloc (Below.refl W.heap.size W) (.cells #[.int .i64 4, .string ⟨#[]⟩, .string ⟨#[]⟩, .bool false, .bool fl] 26)))
  have HQ3 := Aside0.mk hq
  clear hq
  generalize W.alloc (.cells #[.int .i64 4, .string ⟨#[]⟩, .string ⟨#[]⟩, .bool false, .bool fl] 26) = W2 at HR2 HK2 HQ2 HQ3 ⊢
  generalize W.heap.size = b2 at HNE3 HQ3 ⊢
  have HR := HR2
  have HK := HK2
  have HQ := HQ2
  go_upto_region 4 with (first
    | (go_at_call 84; (with_reducible refine (name_c HR.out).mono ?_); rintro e W3 ⟨rfl, hr, hk⟩; have HQ := Aside0.mk (keep_blk hk HQ.out HNE.out.1); have HQ3 := Aside0.mk (keep_blk hk HQ3.out HNE3.out.1); have HR := Aside0.mk hr; have HK := Aside0.mk (keep_then HK.out hk); have m1 := (blk_cell HQ3.out 1).trans (show _ = some _ from rfl); have n1 := blk_frozen HQ3.out 1; clear hr hk)
    | fail)
  have HR4 := Aside0.mk (HR.out.far HNE3.out.2.1 HNE3.out.2.2.1 1 (.string ⟨(strR (nameS t).1).toArray⟩))
  have HK4 := Aside0.mk (keep_far HK.out (p := ⟨b2, 1, none⟩) HNE3.out.2.2.2.2 (.string ⟨(strR (nameS t).1).toArray⟩))
  have HQ4 := Aside0.mk (blk_far HQ.out (p := ⟨b2, 1, none⟩) HNE3.out.2.2.2.1 (.string ⟨(strR (nameS t).1).toArray⟩))
  have HQ34 := Aside0.mk (blk_put HQ3.out 1 (.string ⟨(strR (nameS t).1).toArray⟩) (cs' := #[.int .i64 4, .string ⟨(strR (nameS t).1).toArray⟩, .string ⟨#[]⟩, .bool false, .bool fl]) rfl)
  clear m1 n1
  generalize W3.setCell ⟨b2, 1, none⟩ (.string ⟨(strR (nameS t).1).toArray⟩) = W4 at HR4 HK4 HQ4 HQ34 ⊢
  have HR := HR4
  have HK := HK4
  have HQ := HQ4
  have e0 := (blk_cell HQ34.out 0).trans (show _ = some _ from rfl)
  have e1 := (blk_cell HQ34.out 1).trans (show _ = some _ from rfl)
  have e2 := (blk_cell HQ34.out 2).trans (show _ = some _ from rfl)
  have e3 := (blk_cell HQ34.out 3).trans (show _ = some _ from rfl)
  have e4 := (blk_cell HQ34.out 4).trans (show _ = some _ from rfl)
  have m0 := (blk_cell HQ.out 0).trans (show _ = some _ from rfl)
  have n0 := blk_frozen HQ.out 0
  have m1 := (blk_cell HQ.out 1).trans (show _ = some _ from rfl)
  have n1 := blk_frozen HQ.out 1
  have m2 := (blk_cell HQ.out 2).trans (show _ = some _ from rfl)
  have n2 := blk_frozen HQ.out 2
  have m3 := (blk_cell HQ.out 3).trans (show _ = some _ from rfl)
  have n3 := blk_frozen HQ.out 3
  have m4 := (blk_cell HQ.out 4).trans (show _ = some _ from rfl)
  have n4 := blk_frozen HQ.out 4
  go_wp2_with fail
  refine bodyPost_ret (results_cell_row rfl _ _ b 26 #[.int .i64 4, .string ⟨(strR (nameS t).1).toArray⟩, .string ⟨#[]⟩, .bool false, .bool fl] (0, 0) _ rfl (tok_put HQ.out _ _ _ _ _) Tryd.underlying26 rfl (by kernel_rfl)) rfl ?_
  exact ⟨rfl, HR.out.far5 HNE.out.2.1 HNE.out.2.2 _ _ _ _ _, keep_far5 HK.out HBD.out _ _ _ _ _⟩
theorem closes_c {w0 w : World} {g : Nat} {L : List Int} {a b c : Int} {t : List Int} (h : Rdr w0 w g L (a :: b :: c :: t)) :
    Calls Tryd.prog 70 #[.pointer (some ⟨g, 0, none⟩)] w fun e w' => e = .returned (tokV 15 ⟨#[]⟩ ⟨#[]⟩ false false) ∧ Rdr w0 w' g L t ∧ KeepBut w w' g none := by
  obtain ⟨p, rfl, hI⟩ := h.st
  have hl := h.len
  refine (token_reader_closes.calls g _ _ _ _ _ _ _ _ w0 w hI h.bel rfl).mono ?_
  rintro e w' ⟨rfl, h1, h2, h3⟩
  refine ⟨rfl, ⟨St.of_idx (r := p) rfl rfl (t := t) ⟨[a, b, c], rfl⟩ ?_ h1, h2, h.ok⟩, h3⟩
  simp only [List.length_append, List.length_cons] at hl ⊢
  unfold wrap64; omega
theorem opens_c {w0 w : World} {g : Nat} {L : List Int} {a b c d : Int} {t : List Int} (h : Rdr w0 w g L (a :: b :: c :: d :: t)) :
    Calls Tryd.prog 71 #[.pointer (some ⟨g, 0, none⟩)] w fun e w' => e = .returned (tokV 14 ⟨#[]⟩ ⟨#[]⟩ false false) ∧ Rdr w0 w' g L t ∧ KeepBut w w' g none := by
  obtain ⟨p, rfl, hI⟩ := h.st
  have hl := h.len
  refine (token_reader_opens.calls g _ _ _ _ _ _ _ _ w0 w hI h.bel rfl).mono ?_
  rintro e w' ⟨rfl, h1, h2, h3⟩
  refine ⟨rfl, ⟨St.of_idx (r := p) rfl rfl (t := t) ⟨[a, b, c, d], rfl⟩ ?_ h1, h2, h.ok⟩, h3⟩
  simp only [List.length_append, List.length_cons] at hl ⊢
  unfold wrap64; omega
theorem indexByte_lt : ∀ (l : List UInt8) (x : UInt8), Lib.indexByte l x < l.length
  | [], _ => by show (-1 : Int) < ((0 : Nat) : Int); omega
  | b :: l, x => by
    have h := indexByte_lt l x
    unfold Lib.indexByte
    rw [List.length_cons]
    split
    · omega
    · split
      · omega
      · omega
def sgn (c : Int) : Int := if c < 128 then Lib.indexByte [58, 59, 44, 91, 93, 40, 41, 123, 125] (c % 256).toNat.toUInt8 else -1
set_option maxHeartbeats 8000000 in
set_option maxRecDepth 100000 in
theorem sign_c {w0 w : World} {g : Nat} {L : List Int} {c : Int} {t : List Int} (h : Rdr w0 w g L (c :: t)) :
    Calls Tryd.prog 75 #[.pointer (some ⟨g, 0, none⟩)] w fun e w' => e = .returned (if 0 ≤ sgn c then tokV (16 + sgn c) ⟨#[]⟩ ⟨#[]⟩ false false else tokV 9 (Utf8.encode c) ⟨#[]⟩ false false) ∧ Rdr w0 w' g L t ∧ KeepBut w w' g none := by
  have hu63 := Tryd.underlying63
  have hu26 := Tryd.underlying26
  have HC := Aside0.mk (h.chars c List.mem_cons_self)
  have HP : Aside0 (pk (c :: t) 0 = c) := ⟨rfl⟩
  obtain ⟨k, hk⟩ : ∃ k, k = Lib.indexByte [58, 59, 44, 91, 93, 40, 41, 123, 125] (c % 256).toNat.toUInt8 := ⟨_, rfl⟩
  have HS := Aside0.mk hk.symm
  by_cases c1 : c < 128
  · have d1 : decide (c < 128) = true := decide_eq_true c1
    rw [show sgn c = k from (if_pos c1).trans hk.symm]
    clear hk c1
    by_cases c2 : 0 ≤ k
    · rw [if_pos c2]
      have d2 : decide (0 ≤ k) = true := decide_eq_true c2
      have hkl : k < 9 := by
        rw [← HS.out]
        exact indexByte_lt _ _
      have HW : Aside0 (wrap64 (16 + k) = 16 + k) := ⟨by unfold wrap64; omega⟩
      clear c2 hkl
      go_enter Tryd.func75, Tryd.ntmps75
      go_upto_region 1 with (fail)
      have hq := blk_new w (.cells #[.int .i64 0, .string ⟨#[]⟩, .string ⟨#[]⟩, .bool false, .bool false] 26)
      have HR : Aside0 (Rdr w0 (w.alloc (.cells #[.int .i64 0, .string ⟨#[]⟩, .string ⟨#[]⟩, .bool false, .bool false] 26)) g L (c :: t)) := ⟨h.below (below_alloc (Below.refl _ _) _)⟩
      have HK : Aside0 (KeepBut w (w.alloc (.cells #[.int .i64 0, .string ⟨#[]⟩, .string ⟨#[]⟩, .bool false, .bool false] 26)) g none) := ⟨keep_alloc (KeepBut.refl w g none) _⟩
      have HNE : Aside0 (w.heap.size ≠ g ∧ g ≠ w.heap.size ∧ w0.heap.size ≤ w.heap.size) := ⟨by have := h.lt.2; omega, by have := h.lt.2; omega, h.bel.size⟩
      have HQ := Aside0.mk hq
      generalize w.alloc (.cells #[.int .i64 0, .string ⟨#[]⟩, .string ⟨#[]⟩, .bool false, .bool false] 26) = W0 at HR HK HQ ⊢
      obtain ⟨b, hb⟩ : ∃ b, b = w.heap.size := ⟨_, rfl⟩
      have HBD : Aside0 (w.heap.size ≤ b) := ⟨by omega⟩
      rw [← hb] at HNE HQ ⊢
      clear hq h hb
      go_upto_region 2 with (first | (go_at_call 62; (with_reducible refine (peek0_c HR.out).mono ?_); rintro e W ⟨rfl, hr, hk⟩; rw [HP.out]; have HQ := Aside0.mk (keep_blk hk HQ.out HNE.out.1); have HR := Aside0.mk hr; have HK := Aside0.mk (keep_then HK.out hk); clear hr hk) | fail)
      obtain ⟨A, cc, i, q0, q1, z1, hi, _⟩ := HR.out.cells
      have HST : Aside0 (wrap64 (i + 1) = (L.length : Int) - t.length) := ⟨by have := HR.out.len; simp only [List.length_cons] at this hi; unfold wrap64; omega⟩
      clear hi q0
      go_upto_region 3 with (fail)
      have HR2 := Aside0.mk (HR.out.set (List.suffix_cons c t) HST.out)
      have HK2 := Aside0.mk (HK.out.set_ 1 (.int .i64 (wrap64 (i + 1))))
      have HQ2 := Aside0.mk (blk_far HQ.out (p := ⟨g, 1, none⟩) HNE.out.1 (.int .i64 (wrap64 (i + 1))))
      clear q1 z1
      generalize W.setCell ⟨g, 1, none⟩ (.int .i64 (wrap64 (i + 1))) = W1 at HR2 HK2 HQ2 ⊢
      have HR := HR2
      have HK := HK2
      have HQ := HQ2
      go_upto_region 5 with (first | (go_at_call 87; (with_reducible refine (Tryd.strings_IndexByte ⟨#[58, 59, 44, 91, 93, 40, 41, 123, 125]⟩ _ _).mono ?_); rintro e W5 ⟨rfl, rfl⟩; rw [show Lib.indexByte (⟨#[58, 59, 44, 91, 93, 40, 41, 123, 125]⟩ : ByteArray).data.toList _ = k from HS.out]) | fail)
      have m0 := (blk_cell HQ.out 0).trans (show _ = some _ from rfl)
      have n0 := blk_frozen HQ.out 0
      have m1 := (blk_cell HQ.out 1).trans (show _ = some _ from rfl)
      have n1 := blk_frozen HQ.out 1
      have m2 := (blk_cell HQ.out 2).trans (show _ = some _ from rfl)
      have n2 := blk_frozen HQ.out 2
      have m3 := (blk_cell HQ.out 3).trans (show _ = some _ from rfl)
      have n3 := blk_frozen HQ.out 3
      have m4 := (blk_cell HQ.out 4).trans (show _ = some _ from rfl)
      have n4 := blk_frozen HQ.out 4
      go_wp2_with fail
      refine bodyPost_ret (results_cell_row rfl _ _ b 26 #[.int .i64 (wrap64 (16 + k)), .string ⟨#[]⟩, .string ⟨#[]⟩, .bool false, .bool false] (0, 0) _ rfl (tok_put HQ.out _ _ _ _ _) Tryd.underlying26 rfl (by kernel_rfl)) rfl ?_
      rw [HW.out]
      exact ⟨rfl, HR.out.far5 HNE.out.2.1 HNE.out.2.2 _ _ _ _ _, keep_far5 HK.out HBD.out _ _ _ _ _⟩
    · rw [if_neg c2]
      have d2 : decide (0 ≤ k) = false := decide_eq_false c2
      clear c2
      go_enter Tryd.func75, Tryd.ntmps75
      go_upto_region 1 with (fail)
      have hq := blk_new w (.cells #[.int .i64 0, .string ⟨#[]⟩, .string ⟨#[]⟩, .bool false, .bool false] 26)
      have HR : Aside0 (Rdr w0 (w.alloc (.cells #[.int .i64 0, .string ⟨#[]⟩, .string ⟨#[]⟩, .bool false, .bool false] 26)) g L (c :: t)) := ⟨h.below (below_alloc (Below.refl _ _) _)⟩
      have HK : Aside0 (KeepBut w (w.alloc (.cells #[.int .i64 0, .string ⟨#[]⟩, .string ⟨#[]⟩, .bool false, .bool false] 26)) g none) := ⟨keep_alloc (KeepBut.refl w g none) _⟩
      have HNE : Aside0 (w.heap.size ≠ g ∧ g ≠ w.heap.size ∧ w0.heap.size ≤ w.heap.size) := ⟨by have := h.lt.2; omega, by have := h.lt.2; omega, h.bel.size⟩
      have HQ := Aside0.mk hq
      generalize w.alloc (.cells #[.int .i64 0, .string ⟨#[]⟩, .string ⟨#[]⟩, .bool false, .bool false] 26) = W0 at HR HK HQ ⊢
      obtain ⟨b, hb⟩ : ∃ b, b = w.heap.size := ⟨_, rfl⟩
      have HBD : Aside0 (w.heap.size ≤ b) := ⟨by omega⟩
      rw [← hb] at HNE HQ ⊢
      clear hq h hb
      go_upto_region 2 with (first | (go_at_call 62; (with_reducible refine (peek0_c HR.out).mono ?_); rintro e W ⟨rfl, hr, hk⟩; rw [HP.out]; have HQ := Aside0.mk (keep_blk hk HQ.out HNE.out.1); have HR := Aside0.mk hr; have HK := Aside0.mk (keep_then HK.out hk); clear hr hk) | fail)
      obtain ⟨A, cc, i, q0, q1, z1, hi, _⟩ := HR.out.cells
      have HST : Aside0 (wrap64 (i + 1) = (L.length : Int) - t.length) := ⟨by have := HR.out.len; simp only [List.length_cons] at this hi; unfold wrap64; omega⟩
      clear hi q0
      go_upto_region 3 with (fail)
      have HR2 := Aside0.mk (HR.out.set (List.suffix_cons c t) HST.out)
      have HK2 := Aside0.mk (HK.out.set_ 1 (.int .i64 (wrap64 (i + 1))))
      have HQ2 := Aside0.mk (blk_far HQ.out (p := ⟨g, 1, none⟩) HNE.out.1 (.int .i64 (wrap64 (i + 1))))
      clear q1 z1
      generalize W.setCell ⟨g, 1, none⟩ (.int .i64 (wrap64 (i + 1))) = W1 at HR2 HK2 HQ2 ⊢
      have HR := HR2
      have HK := HK2
      have HQ := HQ2
      go_upto_region 6 with (first | (go_at_call 87; (with_reducible refine (Tryd.strings_IndexByte ⟨#[58, 59, 44, 91, 93, 40, 41, 123, 125]⟩ _ _).mono ?_); rintro e W5 ⟨rfl, rfl⟩; rw [show Lib.indexByte (⟨#[58, 59, 44, 91, 93, 40, 41, 123, 125]⟩ : ByteArray).data.toList _ = k from HS.out]) | fail)
      have m0 := (blk_cell HQ.out 0).trans (show _ = some _ from rfl)
      have n0 := blk_frozen HQ.out 0
      have m1 := (blk_cell HQ.out 1).trans (show _ = some _ from rfl)
      have n1 := blk_frozen HQ.out 1
      have m2 := (blk_cell HQ.out 2).trans (show _ = some _ from rfl)
      have n2 := blk_frozen HQ.out 2
      have m3 := (blk_cell HQ.out 3).trans (show _ = some _ from rfl)
      have n3 := blk_frozen HQ.out 3
      have m4 := (blk_cell HQ.out 4).trans (show _ = some _ from rfl)
      have n4 := blk_frozen HQ.out 4
      go_wp2_with fail
      refine bodyPost_ret (results_cell_row rfl _ _ b 26 #[.int .i64 9, .string (Utf8.encode c), .string ⟨#[]⟩, .bool false, .bool false] (0, 0) _ rfl (tok_put HQ.out _ _ _ _ _) Tryd.underlying26 rfl (by kernel_rfl)) rfl ?_
      exact ⟨rfl, HR.out.far5 HNE.out.2.1 HNE.out.2.2 _ _ _ _ _, keep_far5 HK.out HBD.out _ _ _ _ _⟩
  · have d1 : decide (c < 128) = false := decide_eq_false c1
    rw [show sgn c = -1 from if_neg c1, if_neg (by omega)]
    clear hk c1
    go_enter Tryd.func75, Tryd.ntmps75
    go_upto_region 1 with (fail)
    have hq := blk_new w (.cells #[.int .i64 0, .string ⟨#[]⟩, .string ⟨#[]⟩, .bool false, .bool false] 26)
    have HR : Aside0 (Rdr w0 (w.alloc (.cells #[.int .i64 0, .string ⟨#[]⟩, .string ⟨#[]⟩, .bool false, .bool false] 26)) g L (c :: t)) := ⟨h.below (below_alloc (Below.refl _ _) _)⟩
    have HK : Aside0 (KeepBut w (w.alloc (.cells #[.int .i64 0, .string ⟨#[]⟩, .string ⟨#[]⟩, .bool false, .bool false] 26)) g none) := ⟨keep_alloc (KeepBut.refl w g none) _⟩
    have HNE : Aside0 (w.heap.size ≠ g ∧ g ≠ w.heap.size ∧ w0.heap.size ≤ w.heap.size) := ⟨by have := h.lt.2; omega, by have := h.lt.2; omega, h.bel.size⟩
    have HQ := Aside0.mk hq
    generalize w.alloc (.cells #[.int .i64 0, .string ⟨#[]⟩, .string ⟨#[]⟩, .bool false, .bool false] 26) = W0 at HR HK HQ ⊢
    obtain ⟨b, hb⟩ : ∃ b, b = w.heap.size := ⟨_, rfl⟩
    have HBD : Aside0 (w.heap.size ≤ b) := ⟨by omega⟩
    rw [← hb] at HNE HQ ⊢
    clear hq h hb
    go_upto_region 2 with (first | (go_at_call 62; (with_reducible refine (peek0_c HR.out).mono ?_); rintro e W ⟨rfl, hr, hk⟩; rw [HP.out]; have HQ := Aside0.mk (keep_blk hk HQ.out HNE.out.1); have HR := Aside0.mk hr; have HK := Aside0.mk (keep_then HK.out hk); clear hr hk) | fail)
    obtain ⟨A, cc, i, q0, q1, z1, hi, _⟩ := HR.out.cells
    have HST : Aside0 (wrap64 (i + 1) = (L.length : Int) - t.length) := ⟨by have := HR.out.len; simp only [List.length_cons] at this hi; unfold wrap64; omega⟩
    clear hi q0
    go_upto_region 3 with (fail)
    have HR2 := Aside0.mk (HR.out.set (List.suffix_cons c t) HST.out)
    have HK2 := Aside0.mk (HK.out.set_ 1 (.int .i64 (wrap64 (i + 1))))
    have HQ2 := Aside0.mk (blk_far HQ.out (p := ⟨g, 1, none⟩) HNE.out.1 (.int .i64 (wrap64 (i + 1))))
    clear q1 z1
    generalize W.setCell ⟨g, 1, none⟩ (.int .i64 (wrap64 (i + 1))) = W1 at HR2 HK2 HQ2 ⊢
    have HR := HR2
    have HK := HK2
    have HQ := HQ2
    go_upto_region 6 with (first | (go_at_call 87; (with_reducible refine (Tryd.strings_IndexByte ⟨#[58, 59, 44, 91, 93, 40, 41, 123, 125]⟩ _ _).mono ?_); rintro e W5 ⟨rfl, rfl⟩; rw [show Lib.indexByte (⟨#[58, 59, 44, 91, 93, 40, 41, 123, 125]⟩ : ByteArray).data.toList _ = k from HS.out]) | fail)
    have m0 := (blk_cell HQ.out 0).trans (show _ = some _ from rfl)
    have n0 := blk_frozen HQ.out 0
    have m1 := (blk_cell HQ.out 1).trans (show _ = some _ from rfl)
    have n1 := blk_frozen HQ.out 1
    have m2 := (blk_cell HQ.out 2).trans (show _ = some _ from rfl)
    have n2 := blk_frozen HQ.out 2
    have m3 := (blk_cell HQ.out 3).trans (show _ = some _ from rfl)
    have n3 := blk_frozen HQ.out 3
    have m4 := (blk_cell HQ.out 4).trans (show _ = some _ from rfl)
    have n4 := blk_frozen HQ.out 4
    go_wp2_with fail
    refine bodyPost_ret (results_cell_row rfl _ _ b 26 #[.int .i64 9, .string (Utf8.encode c), .string ⟨#[]⟩, .bool false, .bool false] (0, 0) _ rfl (tok_put HQ.out _ _ _ _ _) Tryd.underlying26 rfl (by kernel_rfl)) rfl ?_
    exact ⟨rfl, HR.out.far5 HNE.out.2.1 HNE.out.2.2 _ _ _ _ _, keep_far5 HK.out HBD.out _ _ _ _ _⟩
end Go.Proofs.YtpnlbmeeihbjaabDoor.P
end
section
set_option linter.unusedVariables false
set_option linter.unusedSimpArgs false
namespace Go.Proofs.YtpnlbmeeihbjaabDoor.P
open Go.RowKit Go.Proofs.YtpnlbmeeihbjaabDoorW.PrintWords Go.Proofs.YtpnlbmeeihbjaabDoorW.PrintLast Go.Proofs.YtpnlbmeeihbjaabDoorW.PrintMore
open Go.Lib
attribute [local go_sem] max2_int min2_int max_two min_two max_three min_three max_four min_four
set_option linter.unusedVariables false
set_option linter.unusedSimpArgs false
def quotL (q : Int) : Nat → List Int → Bool × List Int × List Int
  | 0, s => (false, [], s)
  | _ + 1, [] => (false, [], [])
  | n + 1, c :: t => if c = q then (false, [], t) else if c = 10 then (true, [], c :: t) else
    if escB (c :: t) 0 = true ∧ pk (c :: t) 1 ≠ -1 then ((quotL q n (escd (c :: t)).2).1, (escd (c :: t)).1 :: (quotL q n (escd (c :: t)).2).2.1, (quotL q n (escd (c :: t)).2).2.2)
    else if c = 92 then quotL q n (t.drop 1) else ((quotL q n t).1, c :: (quotL q n t).2.1, (quotL q n t).2.2)
def quotS (q : Int) (s : List Int) : Bool × List Int × List Int := quotL q s.length s
theorem quotL_fuel (q : Int) : ∀ (n m : Nat) (s : List Int), s.length ≤ n → s.length ≤ m → quotL q n s = quotL q m s
  | 0, 0, _, _, _ => rfl
  | 0, m + 1, s, h, _ => by
    obtain rfl := List.eq_nil_of_length_eq_zero (by omega : s.length = 0)
    rfl
  | n + 1, 0, s, _, h => by
    obtain rfl := List.eq_nil_of_length_eq_zero (by omega : s.length = 0)
    rfl
  | n + 1, m + 1, [], _, _ => rfl
  | n + 1, m + 1, c :: t, h1, h2 => by
    simp only [List.length_cons] at h1 h2
    have he := escd_len c t
    have hd : (t.drop 1).length ≤ t.length := by rw [List.length_drop]; omega
    unfold quotL
    rw [quotL_fuel q n m t (by omega) (by omega), quotL_fuel q n m (escd (c :: t)).2 (by omega) (by omega), quotL_fuel q n m (t.drop 1) (by omega) (by omega)]
section
variable {q c : Int} {t : List Int}
theorem quotS_nil (q : Int) : quotS q [] = (false, [], []) := rfl
theorem quotS_unf (q c : Int) (t : List Int) : quotS q (c :: t) = if c = q then (false, [], t) else if c = 10 then (true, [], c :: t) else
    if escB (c :: t) 0 = true ∧ pk (c :: t) 1 ≠ -1 then ((quotS q (escd (c :: t)).2).1, (escd (c :: t)).1 :: (quotS q (escd (c :: t)).2).2.1, (quotS q (escd (c :: t)).2).2.2)
    else if c = 92 then quotS q (t.drop 1) else ((quotS q t).1, c :: (quotS q t).2.1, (quotS q t).2.2) := by
  have e1 : quotL q t.length (escd (c :: t)).2 = quotS q (escd (c :: t)).2 := quotL_fuel q _ _ _ (escd_len c t) (Nat.le_refl _)
  have e2 : quotL q t.length (t.drop 1) = quotS q (t.drop 1) := quotL_fuel q _ _ _ (by rw [List.length_drop]; omega) (Nat.le_refl _)
  rw [← e1, ← e2]
  rfl
end
theorem Rdr.cell0_set {w0 w : World} {g : Nat} {L s : List Int} (h : Rdr w0 w g L s) {A : Option Addr} {c : Nat} (q0 : w.cell? ⟨g, 0, none⟩ = some (.slice A L.length c)) (v : Value) : (w.setCell ⟨g, 1, none⟩ v).cell? ⟨g, 0, none⟩ = some (.slice A L.length c) := by
  obtain ⟨p, hp, A', c', hb, _, _⟩ := h.st
  have h1 := cellS63_0 hb
  rw [q0] at h1
  rw [h1]
  exact (blk_cell (blk_put hb 1 v rfl) 0).trans rfl
def quotT (q : Int) (s : List Int) : Value := if (quotS q s).1 then tokV 6 ⟨#[]⟩ ⟨#[]⟩ false false else tokV 5 ⟨(strR (quotS q s).2.1).toArray⟩ ⟨#[]⟩ false false
theorem gb_next {g b B S : Nat} {w w' : World} (h : g < B ∧ b < B ∧ B ≤ w.heap.size ∧ S ≤ B) (hs : w.heap.size ≤ w'.heap.size) : g < B ∧ b < B ∧ B ≤ w'.heap.size ∧ S ≤ B := ⟨h.1, h.2.1, Nat.le_trans h.2.2.1 hs, h.2.2.2⟩
set_option maxHeartbeats 16000000 in
set_option maxRecDepth 100000 in
theorem quoted_c {w0 w : World} {g : Nat} {L : List Int} {q : Int} {s : List Int} (h : Rdr w0 w g L (q :: s)) :
    Calls Tryd.prog 65 #[.pointer (some ⟨g, 0, none⟩)] w fun e w' => e = .returned (quotT q s) ∧ Rdr w0 w' g L (quotS q s).2.2 ∧ KeepBut w w' g none := by
  have hu63 := Tryd.underlying63
  have hu26 := Tryd.underlying26
  have hu44 := Tryd.underlying44
  have hu38 := Tryd.underlying38
  have HP : Aside0 (pk (q :: s) 0 = q) := ⟨rfl⟩
  go_enter Tryd.func65, Tryd.ntmps65
  go_upto_region 1 with (fail)
  have hq := blk_new w (.cells #[.int .i64 0, .string ⟨#[]⟩, .string ⟨#[]⟩, .bool false, .bool false] 26)
  have HR : Aside0 (Rdr w0 (w.alloc (.cells #[.int .i64 0, .string ⟨#[]⟩, .string ⟨#[]⟩, .bool false, .bool false] 26)) g L (q :: s)) := ⟨h.below (below_alloc (Below.refl _ _) _)⟩
  have HK : Aside0 (KeepBut w (w.alloc (.cells #[.int .i64 0, .string ⟨#[]⟩, .string ⟨#[]⟩, .bool false, .bool false] 26)) g none) := ⟨keep_alloc (KeepBut.refl w g none) _⟩
  have HNE : Aside0 (w.heap.size ≠ g ∧ g ≠ w.heap.size ∧ w0.heap.size ≤ w.heap.size) := ⟨by have := h.lt.2; omega, by have := h.lt.2; omega, h.bel.size⟩
  have HQ := Aside0.mk hq
  generalize w.alloc (.cells #[.int .i64 0, .string ⟨#[]⟩, .string ⟨#[]⟩, .bool false, .bool false] 26) = W0 at HR HK HQ ⊢
  obtain ⟨b, hb⟩ : ∃ b, b = w.heap.size := ⟨_, rfl⟩
  have HBD : Aside0 (w.heap.size ≤ b) := ⟨by omega⟩
  rw [← hb] at HNE HQ ⊢
  clear hq h hb
  go_upto_region 2 with (first | (go_at_call 62; (with_reducible refine (peek0_c HR.out).mono ?_); rintro e W ⟨rfl, hr, hk⟩; rw [HP.out]; have HQ := Aside0.mk (keep_blk hk HQ.out HNE.out.1); have HR := Aside0.mk hr; have HK := Aside0.mk (keep_then HK.out hk); clear hr hk) | fail)
  go_upto_region 3 with (fail)
  obtain ⟨B, hB⟩ : ∃ B, B = W.heap.size := ⟨_, rfl⟩
  have hbl := Bld.new W B (by omega)
  have hszW : (W.alloc (.cells #[.pointer none, .slice none 0 0] 44)).heap.size = W.heap.size + 1 := World.size_alloc _ _
  have HGB : Aside0 (g < B ∧ b < B ∧ B ≤ (W.alloc (.cells #[.pointer none, .slice none 0 0] 44)).heap.size ∧ w.heap.size ≤ B) := ⟨by have := HR.out.lt; have := blk_lt HQ.out; have := keep_size HK.out; omega⟩
  have HR2 := Aside0.mk (HR.out.below (below_alloc (Below.refl W.heap.size W) (.cells #[.pointer none, .slice none 0 0] 44)))
  have HK2 := Aside0.mk (keep_alloc HK.out (.cells #[.pointer none, .slice none 0 0] 44))
  have HQ2 := Aside0.mk (blk_below HQ.out (below_alloc (Below.refl W.heap.size W) (.cells #[.pointer none, .slice none 0 0] 44)))
  rw [← hB] at hbl ⊢
  have HBL : Aside0 (Bld (W.alloc (.cells #[.pointer none, .slice none 0 0] 44)) B B (Lib.byteCells (strR []))) := ⟨hbl⟩
  clear hbl hB hszW
  generalize W.alloc (.cells #[.pointer none, .slice none 0 0] 44) = W2 at HR2 HK2 HQ2 HBL HGB ⊢
  have HR := HR2
  have HK := HK2
  have HQ := HQ2
  obtain ⟨A, cc, i, q0, q1, z1, hi, _⟩ := HR.out.cells
  have HST : Aside0 (wrap64 (i + 1) = (L.length : Int) - s.length) := ⟨by have := HR.out.len; simp only [List.length_cons] at this hi; unfold wrap64; omega⟩
  clear hi q0
  go_upto_region 4 with (fail)
  have HR2 := Aside0.mk (HR.out.set (List.suffix_cons q s) HST.out)
  have HK2 := Aside0.mk (HK.out.set_ 1 (.int .i64 (wrap64 (i + 1))))
  have HQ2 := Aside0.mk (blk_far HQ.out (p := ⟨g, 1, none⟩) HNE.out.1 (.int .i64 (wrap64 (i + 1))))
  have HBL2 := Aside0.mk (HBL.out.keep ((KeepBut.refl W2 g none).set_ 1 (.int .i64 (wrap64 (i + 1)))) HGB.out.1)
  have hsz : (W2.setCell ⟨g, 1, none⟩ (.int .i64 (wrap64 (i + 1)))).heap.size = W2.heap.size := by simp [World.setCell]
  have HGB2 := Aside0.mk (gb_next HGB.out (Nat.le_of_eq hsz.symm))
  clear q1 z1 hsz
  generalize W2.setCell ⟨g, 1, none⟩ (.int .i64 (wrap64 (i + 1))) = W1 at HR2 HK2 HQ2 HBL2 HGB2 ⊢
  have HR := HR2
  have HK := HK2
  have HQ := HQ2
  have HBL := HBL2
  have HGB := HGB2
  have HLS : Aside0 (s.length ≤ 1099511627776) := ⟨by have := HR.out.len; omega⟩
  go_loopg [] (s.length + 1) (fun kq w' => ∃ r out, Aside0 (quotS q s = ((quotS q r).1, out ++ (quotS q r).2.1, (quotS q r).2.2)) ∧ Aside0 (r.length < kq) ∧ Aside0 (out.length + r.length ≤ s.length ∧ s.length ≤ 1099511627776) ∧ Aside0 (Rdr w0 w' g L r) ∧ Aside0 (KeepBut w w' g none) ∧ Aside0 (Bld w' B B (Lib.byteCells (strR out))) ∧ Aside0 (w'.heap[b]? = some (.cells #[.int .i64 0, .string ⟨#[]⟩, .string ⟨#[]⟩, .bool false, .bool false] 26 (0, 0))) ∧ Aside0 (g < B ∧ b < B ∧ B ≤ w'.heap.size ∧ w.heap.size ≤ B))
  case atStart => exact ⟨s, [], ⟨rfl⟩, ⟨by omega⟩, ⟨by have := HLS.out; simp; omega⟩, HR, HK, HBL, HQ, HGB⟩
  case round =>
    clear HR2 HK2 HQ2 HBL2 HGB2
    clear HR HK HQ HBL HGB
    obtain ⟨r, out, HE, HG, HLN, HR, HK, HBL, HQ, HGB⟩ := hrel
    cases gk with
    | zero => exact absurd HG.out (by omega)
    | succ n =>
      cases r with
      | nil =>
        have HE2 : Aside0 (quotS q s = (false, out, [])) := ⟨by rw [HE.out, quotS_nil]; simp⟩
        have HI : Aside0 (([] : List Int).isEmpty = true) := ⟨rfl⟩
        go_upto_region 17 with (first | (go_at_call 47; (with_reducible refine (over_c HR.out).mono ?_); rintro e W ⟨rfl, hr, hk⟩; rw [HI.out]; have HQ := Aside0.mk (keep_blk hk HQ.out HNE.out.1); have HBL := Aside0.mk (HBL.out.keep hk HGB.out.1); have HR := Aside0.mk hr; have HGB := Aside0.mk (gb_next HGB.out (keep_size hk)); have HK := Aside0.mk (keep_then HK.out hk); clear hr hk) | fail)
        go_wp2_with (first | (go_at_call 29; (with_reducible refine (bstr _ _ (strR out) _ HBL.out HGB.out.2.2.1).mono ?_); rintro e W ⟨rfl, hb⟩; have HQ := Aside0.mk ((hb.block _ HGB.out.2.1).trans HQ.out); have HR := Aside0.mk (HR.out.bld hb HGB.out.1); have HK := Aside0.mk (keep_bld HK.out hb HGB.out.2.2.2); clear hb; have m0 := (blk_cell HQ.out 0).trans (show _ = some _ from rfl); have n0 := blk_frozen HQ.out 0; have m1 := (blk_cell HQ.out 1).trans (show _ = some _ from rfl); have n1 := blk_frozen HQ.out 1; have m2 := (blk_cell HQ.out 2).trans (show _ = some _ from rfl); have n2 := blk_frozen HQ.out 2; have m3 := (blk_cell HQ.out 3).trans (show _ = some _ from rfl); have n3 := blk_frozen HQ.out 3; have m4 := (blk_cell HQ.out 4).trans (show _ = some _ from rfl); have n4 := blk_frozen HQ.out 4) | fail)
        refine bodyPost_ret (results_cell_row rfl _ _ b 26 #[.int .i64 5, .string ⟨(strR out).toArray⟩, .string ⟨#[]⟩, .bool false, .bool false] (0, 0) _ rfl (tok_put HQ.out _ _ _ _ _) Tryd.underlying26 rfl (by kernel_rfl)) rfl ?_
        exact ⟨by unfold quotT; rw [HE2.out]; rfl, by rw [HE2.out]; exact HR.out.far5 HNE.out.2.1 HNE.out.2.2 _ _ _ _ _, keep_far5 HK.out HBD.out _ _ _ _ _⟩
      | cons c t =>
        have HI : Aside0 ((c :: t).isEmpty = false) := ⟨rfl⟩
        have HP0 : Aside0 (pk (c :: t) 0 = c) := ⟨rfl⟩
        have HC := Aside0.mk (HR.out.chars c List.mem_cons_self)
        have HU := Aside0.mk (quotS_unf q c t)
        by_cases k1 : c = q
        · have d1 : (c == q) = true := by simp [k1]
          have HE2 : Aside0 (quotS q s = (false, out, t)) := ⟨by rw [HE.out, HU.out, if_pos k1]; simp⟩
          clear k1
          go_upto_region 9 with (first | (go_at_call 47; (with_reducible refine (over_c HR.out).mono ?_); rintro e W ⟨rfl, hr, hk⟩; rw [HI.out]; have HQ := Aside0.mk (keep_blk hk HQ.out HNE.out.1); have HBL := Aside0.mk (HBL.out.keep hk HGB.out.1); have HR := Aside0.mk hr; have HGB := Aside0.mk (gb_next HGB.out (keep_size hk)); have HK := Aside0.mk (keep_then HK.out hk); clear hr hk) | (go_at_call 62; (with_reducible refine (peek0_c HR.out).mono ?_); rintro e W ⟨rfl, hr, hk⟩; rw [HP0.out]; have HQ := Aside0.mk (keep_blk hk HQ.out HNE.out.1); have HBL := Aside0.mk (HBL.out.keep hk HGB.out.1); have HR := Aside0.mk hr; have HGB := Aside0.mk (gb_next HGB.out (keep_size hk)); have HK := Aside0.mk (keep_then HK.out hk); clear hr hk) | fail)
          clear d1
          obtain ⟨A, cc, i, q0, q1, z1, hi, _⟩ := HR.out.cells
          have HST : Aside0 (wrap64 (i + 1) = (L.length : Int) - t.length) := ⟨by have := HR.out.len; simp only [List.length_cons] at this hi; unfold wrap64; omega⟩
          clear hi q0
          go_upto_region 10 with (fail)
          have HR2 := Aside0.mk (HR.out.set (List.suffix_cons c t) HST.out)
          have HK2 := Aside0.mk (HK.out.set_ 1 (.int .i64 (wrap64 (i + 1))))
          have HQ2 := Aside0.mk (blk_far HQ.out (p := ⟨g, 1, none⟩) HNE.out.1 (.int .i64 (wrap64 (i + 1))))
          have HBL2 := Aside0.mk (HBL.out.keep ((KeepBut.refl W g none).set_ 1 (.int .i64 (wrap64 (i + 1)))) HGB.out.1)
          have hsz : (W.setCell ⟨g, 1, none⟩ (.int .i64 (wrap64 (i + 1)))).heap.size = W.heap.size := by simp [World.setCell]
          have HGB2 := Aside0.mk (gb_next HGB.out (Nat.le_of_eq hsz.symm))
          clear q1 z1 hsz
          generalize W.setCell ⟨g, 1, none⟩ (.int .i64 (wrap64 (i + 1))) = W1 at HR2 HK2 HQ2 HBL2 HGB2 ⊢
          have HR := HR2
          have HK := HK2
          have HQ := HQ2
          have HBL := HBL2
          have HGB := HGB2
          go_wp2_with (first | (go_at_call 29; (with_reducible refine (bstr _ _ (strR out) _ HBL.out HGB.out.2.2.1).mono ?_); rintro e W ⟨rfl, hb⟩; have HQ := Aside0.mk ((hb.block _ HGB.out.2.1).trans HQ.out); have HR := Aside0.mk (HR.out.bld hb HGB.out.1); have HK := Aside0.mk (keep_bld HK.out hb HGB.out.2.2.2); clear hb; have m0 := (blk_cell HQ.out 0).trans (show _ = some _ from rfl); have n0 := blk_frozen HQ.out 0; have m1 := (blk_cell HQ.out 1).trans (show _ = some _ from rfl); have n1 := blk_frozen HQ.out 1; have m2 := (blk_cell HQ.out 2).trans (show _ = some _ from rfl); have n2 := blk_frozen HQ.out 2; have m3 := (blk_cell HQ.out 3).trans (show _ = some _ from rfl); have n3 := blk_frozen HQ.out 3; have m4 := (blk_cell HQ.out 4).trans (show _ = some _ from rfl); have n4 := blk_frozen HQ.out 4) | fail)
          refine bodyPost_ret (results_cell_row rfl _ _ b 26 #[.int .i64 5, .string ⟨(strR out).toArray⟩, .string ⟨#[]⟩, .bool false, .bool false] (0, 0) _ rfl (tok_put HQ.out _ _ _ _ _) Tryd.underlying26 rfl (by kernel_rfl)) rfl ?_
          exact ⟨by unfold quotT; rw [HE2.out]; rfl, by rw [HE2.out]; exact HR.out.far5 HNE.out.2.1 HNE.out.2.2 _ _ _ _ _, keep_far5 HK.out HBD.out _ _ _ _ _⟩
        · have d1 : (c == q) = false := by simp [k1]
          by_cases k2 : c = 10
          · have d2 : (c == 10) = true := by simp [k2]
            have HE2 : Aside0 (quotS q s = (true, out, c :: t)) := ⟨by rw [HE.out, HU.out, if_neg k1, if_pos k2]; simp⟩
            clear k1 k2
            go_upto_region 12 with (first | (go_at_call 47; (with_reducible refine (over_c HR.out).mono ?_); rintro e W ⟨rfl, hr, hk⟩; rw [HI.out]; have HQ := Aside0.mk (keep_blk hk HQ.out HNE.out.1); have HBL := Aside0.mk (HBL.out.keep hk HGB.out.1); have HR := Aside0.mk hr; have HGB := Aside0.mk (gb_next HGB.out (keep_size hk)); have HK := Aside0.mk (keep_then HK.out hk); clear hr hk) | (go_at_call 62; (with_reducible refine (peek0_c HR.out).mono ?_); rintro e W ⟨rfl, hr, hk⟩; rw [HP0.out]; have HQ := Aside0.mk (keep_blk hk HQ.out HNE.out.1); have HBL := Aside0.mk (HBL.out.keep hk HGB.out.1); have HR := Aside0.mk hr; have HGB := Aside0.mk (gb_next HGB.out (keep_size hk)); have HK := Aside0.mk (keep_then HK.out hk); clear hr hk) | fail)
            clear d1 d2
            have m0 := (blk_cell HQ.out 0).trans (show _ = some _ from rfl)
            have n0 := blk_frozen HQ.out 0
            have m1 := (blk_cell HQ.out 1).trans (show _ = some _ from rfl)
            have n1 := blk_frozen HQ.out 1
            have m2 := (blk_cell HQ.out 2).trans (show _ = some _ from rfl)
            have n2 := blk_frozen HQ.out 2
            have m3 := (blk_cell HQ.out 3).trans (show _ = some _ from rfl)
            have n3 := blk_frozen HQ.out 3
            have m4 := (blk_cell HQ.out 4).trans (show _ = some _ from rfl)
            have n4 := blk_frozen HQ.out 4
            go_wp2_with fail
            refine bodyPost_ret (results_cell_row rfl _ _ b 26 #[.int .i64 6, .string ⟨#[]⟩, .string ⟨#[]⟩, .bool false, .bool false] (0, 0) _ rfl (tok_put HQ.out _ _ _ _ _) Tryd.underlying26 rfl (by kernel_rfl)) rfl ?_
            exact ⟨by unfold quotT; rw [HE2.out]; rfl, by rw [HE2.out]; exact HR.out.far5 HNE.out.2.1 HNE.out.2.2 _ _ _ _ _, keep_far5 HK.out HBD.out _ _ _ _ _⟩
          · have d2 : (c == 10) = false := by simp [k2]
            obtain ⟨t2, ht2⟩ : ∃ b, b = escB (c :: t) 0 := ⟨_, rfl⟩
            obtain ⟨p1, hp1⟩ : ∃ b, b = pk (c :: t) 1 := ⟨_, rfl⟩
            have HT := Aside0.mk (And.intro ht2.symm hp1.symm)
            have HN1 := Aside0.mk k1
            have HN2 := Aside0.mk k2
            rw [← ht2, ← hp1, if_neg k1, if_neg k2] at HU
            clear ht2 hp1 k1 k2
            by_cases k3 : t2 = true ∧ p1 ≠ -1
            · obtain ⟨rfl, k4⟩ := k3
              have d3 : (p1 != -1) = true := by simp [k4]
              rw [if_pos ⟨rfl, k4⟩] at HU
              have HEL := Aside0.mk (escd_len c t)
              have HER := Aside0.mk (escd_range c t (fun x hx => HR.out.chars x (List.mem_cons_of_mem _ hx)))
              obtain ⟨e, he⟩ : ∃ e, e = escd (c :: t) := ⟨_, rfl⟩
              have HQE := Aside0.mk he.symm
              rw [← he] at HEL HER HU
              clear he k4
              go_wp2_with (first | (go_at_call 47; (with_reducible refine (over_c HR.out).mono ?_); rintro e W ⟨rfl, hr, hk⟩; rw [HI.out]; have HQ := Aside0.mk (keep_blk hk HQ.out HNE.out.1); have HBL := Aside0.mk (HBL.out.keep hk HGB.out.1); have HR := Aside0.mk hr; have HGB := Aside0.mk (gb_next HGB.out (keep_size hk)); have HK := Aside0.mk (keep_then HK.out hk); clear hr hk) | (go_at_call 62; (with_reducible refine (peek0_c HR.out).mono ?_); rintro e W ⟨rfl, hr, hk⟩; rw [HP0.out]; have HQ := Aside0.mk (keep_blk hk HQ.out HNE.out.1); have HBL := Aside0.mk (HBL.out.keep hk HGB.out.1); have HR := Aside0.mk hr; have HGB := Aside0.mk (gb_next HGB.out (keep_size hk)); have HK := Aside0.mk (keep_then HK.out hk); clear hr hk) | (go_at_call 66; (with_reducible refine (esc0_c HR.out).mono ?_); rintro e W ⟨rfl, hr, hk⟩; rw [HT.out.1]; have HQ := Aside0.mk (keep_blk hk HQ.out HNE.out.1); have HBL := Aside0.mk (HBL.out.keep hk HGB.out.1); have HR := Aside0.mk hr; have HGB := Aside0.mk (gb_next HGB.out (keep_size hk)); have HK := Aside0.mk (keep_then HK.out hk); clear hr hk) | (go_at_call 62; (with_reducible refine (peek1_c HR.out).mono ?_); rintro e W ⟨rfl, hr, hk⟩; rw [HT.out.2]; have HQ := Aside0.mk (keep_blk hk HQ.out HNE.out.1); have HBL := Aside0.mk (HBL.out.keep hk HGB.out.1); have HR := Aside0.mk hr; have HGB := Aside0.mk (gb_next HGB.out (keep_size hk)); have HK := Aside0.mk (keep_then HK.out hk); clear hr hk) | (go_at_call 83; (with_reducible refine (escd_c c HR.out).mono ?_); rw [HQE.out]; rintro e' W ⟨rfl, hr, hk⟩; have HQ := Aside0.mk (keep_blk hk HQ.out HNE.out.1); have HBL := Aside0.mk (HBL.out.keep hk HGB.out.1); have HR := Aside0.mk hr; have HGB := Aside0.mk (gb_next HGB.out (keep_size hk)); have HK := Aside0.mk (keep_then HK.out hk); clear hr hk) | (go_at_call 52; (with_reducible refine (bwrune _ _ _ e.1 (by have := HER.out; omega) (by have := HER.out; omega) _ HBL.out (by have := HLN.out; have := strR_len out; have := HR.out.len; rw [Lib.byteCells_length]; omega) HGB.out.2.2.1).mono ?_); rintro e W ⟨uu, rfl, hbl, hb⟩; rw [bld_snoc] at hbl; have HBL := Aside0.mk hbl; have HQ := Aside0.mk ((hb.block _ HGB.out.2.1).trans HQ.out); have HGB := Aside0.mk (gb_next HGB.out hb.size); have HR := Aside0.mk (HR.out.bld hb HGB.out.1); have HK := Aside0.mk (keep_bld HK.out hb HGB.out.2.2.2); clear hbl hb) | fail)
              go_roundg n
              case measure => have h1 := HG.out; have h2 := HEL.out; rw [List.length_cons] at h1; omega
              case rel => exact ⟨e.2, out ++ [e.1], ⟨by rw [HE.out, HU.out]; simp⟩, ⟨by have h1 := HG.out; have h2 := HEL.out; rw [List.length_cons] at h1; omega⟩, ⟨by have h1 := HLN.out; have h2 := HEL.out; rw [List.length_cons] at h1; rw [List.length_append, List.length_singleton]; omega⟩, HR, HK, HBL, HQ, HGB⟩
            · rw [if_neg k3] at HU
              have d3 : t2 = true → (p1 != -1) = false := fun h => by
                have : p1 = -1 := Classical.byContradiction (fun h' => k3 ⟨h, h'⟩)
                simp [this]
              clear k3
              by_cases k4 : c = 92
              · rw [if_pos k4] at HU
                have d4 : (c == 92) = true := by simp [k4]
                have HDR := Aside0.mk (List.drop_suffix 1 t)
                have HDL : Aside0 ((t.drop 1).length = t.length - 1) := ⟨List.length_drop⟩
                generalize t.drop 1 = t' at HU HDR HDL
                clear k4
                cases t2 with
                | true =>
                  have d3 := d3 rfl
                  go_upto_region 16 with (first | (go_at_call 47; (with_reducible refine (over_c HR.out).mono ?_); rintro e W ⟨rfl, hr, hk⟩; rw [HI.out]; have HQ := Aside0.mk (keep_blk hk HQ.out HNE.out.1); have HBL := Aside0.mk (HBL.out.keep hk HGB.out.1); have HR := Aside0.mk hr; have HGB := Aside0.mk (gb_next HGB.out (keep_size hk)); have HK := Aside0.mk (keep_then HK.out hk); clear hr hk) | (go_at_call 62; (with_reducible refine (peek0_c HR.out).mono ?_); rintro e W ⟨rfl, hr, hk⟩; rw [HP0.out]; have HQ := Aside0.mk (keep_blk hk HQ.out HNE.out.1); have HBL := Aside0.mk (HBL.out.keep hk HGB.out.1); have HR := Aside0.mk hr; have HGB := Aside0.mk (gb_next HGB.out (keep_size hk)); have HK := Aside0.mk (keep_then HK.out hk); clear hr hk) | (go_at_call 66; (with_reducible refine (esc0_c HR.out).mono ?_); rintro e W ⟨rfl, hr, hk⟩; rw [HT.out.1]; have HQ := Aside0.mk (keep_blk hk HQ.out HNE.out.1); have HBL := Aside0.mk (HBL.out.keep hk HGB.out.1); have HR := Aside0.mk hr; have HGB := Aside0.mk (gb_next HGB.out (keep_size hk)); have HK := Aside0.mk (keep_then HK.out hk); clear hr hk) | (go_at_call 62; (with_reducible refine (peek1_c HR.out).mono ?_); rintro e W ⟨rfl, hr, hk⟩; rw [HT.out.2]; have HQ := Aside0.mk (keep_blk hk HQ.out HNE.out.1); have HBL := Aside0.mk (HBL.out.keep hk HGB.out.1); have HR := Aside0.mk hr; have HGB := Aside0.mk (gb_next HGB.out (keep_size hk)); have HK := Aside0.mk (keep_then HK.out hk); clear hr hk) | fail)
                  obtain ⟨A, cc, i, q0, q1, z1, hi, _⟩ := HR.out.cells
                  have HLI : Aside0 (IntKind.i64.wrap (i + 2) = i + 2 ∧ i = (L.length : Int) - (c :: t).length ∧ (c :: t).length ≤ L.length) := ⟨by have := HR.out.len; simp only [List.length_cons] at this hi ⊢; rw [i64_w]; refine ⟨by unfold wrap64; omega, by omega, by omega⟩⟩
                  by_cases hz : (L.length : Int) < IntKind.i64.wrap (i + 2)
                  · have zz := eq_true hz
                    have HST : Aside0 ((L.length : Int) = (L.length : Int) - t'.length) := ⟨by have h1 := HLI.out; have h2 := HDL.out; rw [List.length_cons] at h1; omega⟩
                    clear hz
                    clear hi
                    refine wp_region_noPanic ?_
                    refine wp_region_held_drew (S := (fun w' : World => w'.cell? ⟨g, 0, none⟩ = some (.slice A L.length cc))) (by kernel_rfl) q0 (fun hHeld => ?_)
                    refine wpAnyH_take (i := 0) (v := ?_) rfl (by kernel_rfl) (by kernel_rfl) (by kernel_rfl) (fun _ _ _ h => h) (Or.inl ⟨by rfl, ?_⟩) (by assumption) ?_
                    rotate_left
                    focus (intro w hSw; (try dsimp only at hSw); go_simp; try with_reducible rfl)
                    try simp only [Act.put, List.setIfInBounds_toArray, List.set_cons_zero, List.set_cons_succ, List.getElem_toArray, List.getElem_cons_succ, List.getElem_cons_zero]
                    refine wpAnyH_take (i := 1) (v := ?_) rfl (by kernel_rfl) (by kernel_rfl) (by kernel_rfl) (fun _ _ _ h => h) (Or.inl ⟨by rfl, ?_⟩) (by assumption) ?_
                    rotate_left
                    focus (intro w hSw; (try dsimp only at hSw); go_simp; try with_reducible rfl)
                    try simp only [Act.put, List.setIfInBounds_toArray, List.set_cons_zero, List.set_cons_succ, List.getElem_toArray, List.getElem_cons_succ, List.getElem_cons_zero]
                    refine wpAnyH_take (i := 2) (v := ?_) rfl (by kernel_rfl) (by kernel_rfl) (by kernel_rfl) (fun _ _ _ h => h) (Or.inl ⟨by rfl, ?_⟩) (by assumption) ?_
                    rotate_left
                    focus (intro w hSw; (try dsimp only at hSw); go_simp; try with_reducible rfl)
                    try simp only [Act.put, List.setIfInBounds_toArray, List.set_cons_zero, List.set_cons_succ, List.getElem_toArray, List.getElem_cons_succ, List.getElem_cons_zero]
                    refine wpAnyH_take (i := 3) (v := ?_) rfl (by kernel_rfl) (by kernel_rfl) (by kernel_rfl) (fun _ _ _ h => h) (Or.inl ⟨by rfl, ?_⟩) (by assumption) ?_
                    rotate_left
                    focus (intro w hSw; (try dsimp only at hSw); go_simp; try with_reducible rfl)
                    try simp only [Act.put, List.setIfInBounds_toArray, List.set_cons_zero, List.set_cons_succ, List.getElem_toArray, List.getElem_cons_succ, List.getElem_cons_zero]
                    refine wpAnyH_take (i := 6) (v := ?_) rfl (by kernel_rfl) (by kernel_rfl) (by kernel_rfl) (fun _ _ _ h => h) (Or.inl ⟨by rfl, ?_⟩) (by assumption) ?_
                    rotate_left
                    focus (intro w hSw; (try dsimp only at hSw); go_simp; try with_reducible rfl)
                    try simp only [Act.put, List.setIfInBounds_toArray, List.set_cons_zero, List.set_cons_succ, List.getElem_toArray, List.getElem_cons_succ, List.getElem_cons_zero]
                    refine wpAnyH_take (i := 7) (v := ?_) rfl (by kernel_rfl) (by kernel_rfl) (by kernel_rfl) (fun _ _ _ h => h) (Or.inl ⟨by rfl, ?_⟩) (by assumption) ?_
                    rotate_left
                    focus (intro w hSw; (try dsimp only at hSw); go_simp; try with_reducible rfl)
                    try simp only [Act.put, List.setIfInBounds_toArray, List.set_cons_zero, List.set_cons_succ, List.getElem_toArray, List.getElem_cons_succ, List.getElem_cons_zero]
                    refine wpAnyH_take (i := 8) (v := ?_) rfl (by kernel_rfl) (by kernel_rfl) (by kernel_rfl) (fun _ _ _ h => h) (Or.inl ⟨by rfl, ?_⟩) (by assumption) ?_
                    rotate_left
                    focus (intro w hSw; (try dsimp only at hSw); go_simp; try with_reducible rfl)
                    try simp only [Act.put, List.setIfInBounds_toArray, List.set_cons_zero, List.set_cons_succ, List.getElem_toArray, List.getElem_cons_succ, List.getElem_cons_zero]
                    refine wpAnyH_take (i := 9) (v := ?_) rfl (by kernel_rfl) (by kernel_rfl) (by kernel_rfl) (fun _ _ _ h => h) (Or.inl ⟨by rfl, ?_⟩) (by assumption) ?_
                    rotate_left
                    focus (intro w hSw; (try dsimp only at hSw); go_simp; try with_reducible rfl)
                    try simp only [Act.put, List.setIfInBounds_toArray, List.set_cons_zero, List.set_cons_succ, List.getElem_toArray, List.getElem_cons_succ, List.getElem_cons_zero]
                    refine wpAnyH_take (i := 10) (v := ?_) rfl (by kernel_rfl) (by kernel_rfl) (by kernel_rfl) (fun _ _ _ h => h) (Or.inl ⟨by rfl, ?_⟩) (by assumption) ?_
                    rotate_left
                    focus (intro w hSw; (try dsimp only at hSw); go_simp; try with_reducible rfl)
                    try simp only [Act.put, List.setIfInBounds_toArray, List.set_cons_zero, List.set_cons_succ, List.getElem_toArray, List.getElem_cons_succ, List.getElem_cons_zero]
                    refine wpAnyH_ready (rs := [4]) (by kernel_rfl) (by simp) ?_
                    refine AllReadyH.cons rfl (fun K hK => ?_) AllReadyH.nil
                    go_simp
                    refine hK.out _ _ q0 (fun hHeld2 => ?_)
                    clear hK K
                    try simp only [Act.put, List.setIfInBounds_toArray, List.set_cons_zero, List.set_cons_succ, List.getElem_toArray, List.getElem_cons_succ, List.getElem_cons_zero]
                    refine wpAnyH_take (i := 5) (v := ?_) rfl (by kernel_rfl) (by kernel_rfl) (by kernel_rfl) (fun _ _ _ h => h) (Or.inl ⟨by rfl, ?_⟩) (by assumption) ?_
                    rotate_left
                    focus (intro w hSw; (try dsimp only at hSw); go_simp; try with_reducible rfl)
                    try simp only [Act.put, List.setIfInBounds_toArray, List.set_cons_zero, List.set_cons_succ, List.getElem_toArray, List.getElem_cons_succ, List.getElem_cons_zero]
                    refine wpAnyH_take (i := 11) (v := ?_) rfl (by kernel_rfl) (by kernel_rfl) (by kernel_rfl) (fun _ _ _ h => h) (Or.inl ⟨by rfl, ?_⟩) (by assumption) ?_
                    rotate_left
                    focus (intro w hSw; (try dsimp only at hSw); go_simp; try with_reducible rfl)
                    try simp only [Act.put, List.setIfInBounds_toArray, List.set_cons_zero, List.set_cons_succ, List.getElem_toArray, List.getElem_cons_succ, List.getElem_cons_zero]
                    refine wpAnyH_take (i := 12) (v := ?_) rfl (by kernel_rfl) (by kernel_rfl) (by kernel_rfl) (fun _ _ _ h => h) (Or.inl ⟨by rfl, ?_⟩) (by assumption) ?_
                    rotate_left
                    focus (intro w hSw; (try dsimp only at hSw); go_simp; try with_reducible rfl)
                    try simp only [Act.put, List.setIfInBounds_toArray, List.set_cons_zero, List.set_cons_succ, List.getElem_toArray, List.getElem_cons_succ, List.getElem_cons_zero]
                    refine wpAnyH_take (i := 13) (v := ?_) rfl (by kernel_rfl) (by kernel_rfl) (by kernel_rfl) (fun _ _ _ h => h) (Or.inl ⟨by rfl, ?_⟩) (by assumption) ?_
                    rotate_left
                    focus (intro w hSw; (try dsimp only at hSw); go_simp; try with_reducible rfl)
                    try simp only [Act.put, List.setIfInBounds_toArray, List.set_cons_zero, List.set_cons_succ, List.getElem_toArray, List.getElem_cons_succ, List.getElem_cons_zero]
                    refine wpAnyH_ready (rs := [14]) (by kernel_rfl) (by simp) ?_
                    refine AllReadyH.cons rfl (fun K hK => ?_) AllReadyH.nil
                    go_simp
                    refine hK.out _ _ ?_ (fun hHeld2 => ?_)
                    · exact HR.out.cell0_set q0 _
                    refine wpAnyH_done (by kernel_rfl) ?_ _
                    refine NoPanic.normal ?_
                    go_wp2_with fail
                    go_roundg n
                    case measure => have h1 := HG.out; have h2 := HDL.out; rw [List.length_cons] at h1; omega
                    case rel => exact ⟨t', out, ⟨by rw [HE.out, HU.out]⟩, ⟨by have h1 := HG.out; have h2 := HDL.out; rw [List.length_cons] at h1; omega⟩, ⟨by have h1 := HLN.out; have h2 := HDL.out; rw [List.length_cons] at h1; omega⟩, ⟨HR.out.drew.set (HDR.out.trans (List.suffix_cons c t)) HST.out⟩, ⟨(keep_drew HK.out).set_ 1 _⟩, ⟨HBL.out.keep ((KeepBut.refl _ g none).set_ 1 _) HGB.out.1⟩, ⟨blk_far (w := W.drew) HQ.out (p := ⟨g, 1, none⟩) HNE.out.1 _⟩, ⟨gb_next HGB.out (by simp [World.setCell])⟩⟩
                  · have zz := eq_false hz
                    have HST : Aside0 (IntKind.i64.wrap (i + 2) = (L.length : Int) - t'.length) := ⟨by have h1 := HLI.out; have h2 := HDL.out; rw [List.length_cons] at h1; omega⟩
                    clear hz
                    clear hi
                    refine wp_region_noPanic ?_
                    refine wp_region_held_drew (S := (fun w' : World => w'.cell? ⟨g, 0, none⟩ = some (.slice A L.length cc))) (by kernel_rfl) q0 (fun hHeld => ?_)
                    refine wpAnyH_take (i := 0) (v := ?_) rfl (by kernel_rfl) (by kernel_rfl) (by kernel_rfl) (fun _ _ _ h => h) (Or.inl ⟨by rfl, ?_⟩) (by assumption) ?_
                    rotate_left
                    focus (intro w hSw; (try dsimp only at hSw); go_simp; try with_reducible rfl)
                    try simp only [Act.put, List.setIfInBounds_toArray, List.set_cons_zero, List.set_cons_succ, List.getElem_toArray, List.getElem_cons_succ, List.getElem_cons_zero]
                    refine wpAnyH_take (i := 1) (v := ?_) rfl (by kernel_rfl) (by kernel_rfl) (by kernel_rfl) (fun _ _ _ h => h) (Or.inl ⟨by rfl, ?_⟩) (by assumption) ?_
                    rotate_left
                    focus (intro w hSw; (try dsimp only at hSw); go_simp; try with_reducible rfl)
                    try simp only [Act.put, List.setIfInBounds_toArray, List.set_cons_zero, List.set_cons_succ, List.getElem_toArray, List.getElem_cons_succ, List.getElem_cons_zero]
                    refine wpAnyH_take (i := 2) (v := ?_) rfl (by kernel_rfl) (by kernel_rfl) (by kernel_rfl) (fun _ _ _ h => h) (Or.inl ⟨by rfl, ?_⟩) (by assumption) ?_
                    rotate_left
                    focus (intro w hSw; (try dsimp only at hSw); go_simp; try with_reducible rfl)
                    try simp only [Act.put, List.setIfInBounds_toArray, List.set_cons_zero, List.set_cons_succ, List.getElem_toArray, List.getElem_cons_succ, List.getElem_cons_zero]
                    refine wpAnyH_take (i := 3) (v := ?_) rfl (by kernel_rfl) (by kernel_rfl) (by kernel_rfl) (fun _ _ _ h => h) (Or.inl ⟨by rfl, ?_⟩) (by assumption) ?_
                    rotate_left
                    focus (intro w hSw; (try dsimp only at hSw); go_simp; try with_reducible rfl)
                    try simp only [Act.put, List.setIfInBounds_toArray, List.set_cons_zero, List.set_cons_succ, List.getElem_toArray, List.getElem_cons_succ, List.getElem_cons_zero]
                    refine wpAnyH_take (i := 6) (v := ?_) rfl (by kernel_rfl) (by kernel_rfl) (by kernel_rfl) (fun _ _ _ h => h) (Or.inl ⟨by rfl, ?_⟩) (by assumption) ?_
                    rotate_left
                    focus (intro w hSw; (try dsimp only at hSw); go_simp; try with_reducible rfl)
                    try simp only [Act.put, List.setIfInBounds_toArray, List.set_cons_zero, List.set_cons_succ, List.getElem_toArray, List.getElem_cons_succ, List.getElem_cons_zero]
                    refine wpAnyH_take (i := 7) (v := ?_) rfl (by kernel_rfl) (by kernel_rfl) (by kernel_rfl) (fun _ _ _ h => h) (Or.inl ⟨by rfl, ?_⟩) (by assumption) ?_
                    rotate_left
                    focus (intro w hSw; (try dsimp only at hSw); go_simp; try with_reducible rfl)
                    try simp only [Act.put, List.setIfInBounds_toArray, List.set_cons_zero, List.set_cons_succ, List.getElem_toArray, List.getElem_cons_succ, List.getElem_cons_zero]
                    refine wpAnyH_take (i := 8) (v := ?_) rfl (by kernel_rfl) (by kernel_rfl) (by kernel_rfl) (fun _ _ _ h => h) (Or.inl ⟨by rfl, ?_⟩) (by assumption) ?_
                    rotate_left
                    focus (intro w hSw; (try dsimp only at hSw); go_simp; try with_reducible rfl)
                    try simp only [Act.put, List.setIfInBounds_toArray, List.set_cons_zero, List.set_cons_succ, List.getElem_toArray, List.getElem_cons_succ, List.getElem_cons_zero]
                    refine wpAnyH_take (i := 9) (v := ?_) rfl (by kernel_rfl) (by kernel_rfl) (by kernel_rfl) (fun _ _ _ h => h) (Or.inl ⟨by rfl, ?_⟩) (by assumption) ?_
                    rotate_left
                    focus (intro w hSw; (try dsimp only at hSw); go_simp; try with_reducible rfl)
                    try simp only [Act.put, List.setIfInBounds_toArray, List.set_cons_zero, List.set_cons_succ, List.getElem_toArray, List.getElem_cons_succ, List.getElem_cons_zero]
                    refine wpAnyH_take (i := 10) (v := ?_) rfl (by kernel_rfl) (by kernel_rfl) (by kernel_rfl) (fun _ _ _ h => h) (Or.inl ⟨by rfl, ?_⟩) (by assumption) ?_
                    rotate_left
                    focus (intro w hSw; (try dsimp only at hSw); go_simp; try with_reducible rfl)
                    try simp only [Act.put, List.setIfInBounds_toArray, List.set_cons_zero, List.set_cons_succ, List.getElem_toArray, List.getElem_cons_succ, List.getElem_cons_zero]
                    refine wpAnyH_ready (rs := [4]) (by kernel_rfl) (by simp) ?_
                    refine AllReadyH.cons rfl (fun K hK => ?_) AllReadyH.nil
                    go_simp
                    refine hK.out _ _ q0 (fun hHeld2 => ?_)
                    clear hK K
                    try simp only [Act.put, List.setIfInBounds_toArray, List.set_cons_zero, List.set_cons_succ, List.getElem_toArray, List.getElem_cons_succ, List.getElem_cons_zero]
                    refine wpAnyH_take (i := 5) (v := ?_) rfl (by kernel_rfl) (by kernel_rfl) (by kernel_rfl) (fun _ _ _ h => h) (Or.inl ⟨by rfl, ?_⟩) (by assumption) ?_
                    rotate_left
                    focus (intro w hSw; (try dsimp only at hSw); go_simp; try with_reducible rfl)
                    try simp only [Act.put, List.setIfInBounds_toArray, List.set_cons_zero, List.set_cons_succ, List.getElem_toArray, List.getElem_cons_succ, List.getElem_cons_zero]
                    refine wpAnyH_take (i := 11) (v := ?_) rfl (by kernel_rfl) (by kernel_rfl) (by kernel_rfl) (fun _ _ _ h => h) (Or.inl ⟨by rfl, ?_⟩) (by assumption) ?_
                    rotate_left
                    focus (intro w hSw; (try dsimp only at hSw); go_simp; try with_reducible rfl)
                    try simp only [Act.put, List.setIfInBounds_toArray, List.set_cons_zero, List.set_cons_succ, List.getElem_toArray, List.getElem_cons_succ, List.getElem_cons_zero]
                    refine wpAnyH_take (i := 12) (v := ?_) rfl (by kernel_rfl) (by kernel_rfl) (by kernel_rfl) (fun _ _ _ h => h) (Or.inl ⟨by rfl, ?_⟩) (by assumption) ?_
                    rotate_left
                    focus (intro w hSw; (try dsimp only at hSw); go_simp; try with_reducible rfl)
                    try simp only [Act.put, List.setIfInBounds_toArray, List.set_cons_zero, List.set_cons_succ, List.getElem_toArray, List.getElem_cons_succ, List.getElem_cons_zero]
                    refine wpAnyH_take (i := 13) (v := ?_) rfl (by kernel_rfl) (by kernel_rfl) (by kernel_rfl) (fun _ _ _ h => h) (Or.inl ⟨by rfl, ?_⟩) (by assumption) ?_
                    rotate_left
                    focus (intro w hSw; (try dsimp only at hSw); go_simp; try with_reducible rfl)
                    try simp only [Act.put, List.setIfInBounds_toArray, List.set_cons_zero, List.set_cons_succ, List.getElem_toArray, List.getElem_cons_succ, List.getElem_cons_zero]
                    refine wpAnyH_ready (rs := [14]) (by kernel_rfl) (by simp) ?_
                    refine AllReadyH.cons rfl (fun K hK => ?_) AllReadyH.nil
                    go_simp
                    refine hK.out _ _ ?_ (fun hHeld2 => ?_)
                    · exact HR.out.cell0_set q0 _
                    refine wpAnyH_done (by kernel_rfl) ?_ _
                    refine NoPanic.normal ?_
                    go_wp2_with fail
                    go_roundg n
                    case measure => have h1 := HG.out; have h2 := HDL.out; rw [List.length_cons] at h1; omega
                    case rel => exact ⟨t', out, ⟨by rw [HE.out, HU.out]⟩, ⟨by have h1 := HG.out; have h2 := HDL.out; rw [List.length_cons] at h1; omega⟩, ⟨by have h1 := HLN.out; have h2 := HDL.out; rw [List.length_cons] at h1; omega⟩, ⟨HR.out.drew.set (HDR.out.trans (List.suffix_cons c t)) HST.out⟩, ⟨(keep_drew HK.out).set_ 1 _⟩, ⟨HBL.out.keep ((KeepBut.refl _ g none).set_ 1 _) HGB.out.1⟩, ⟨blk_far (w := W.drew) HQ.out (p := ⟨g, 1, none⟩) HNE.out.1 _⟩, ⟨gb_next HGB.out (by simp [World.setCell])⟩⟩
                | false =>
                  clear d3
                  go_upto_region 16 with (first | (go_at_call 47; (with_reducible refine (over_c HR.out).mono ?_); rintro e W ⟨rfl, hr, hk⟩; rw [HI.out]; have HQ := Aside0.mk (keep_blk hk HQ.out HNE.out.1); have HBL := Aside0.mk (HBL.out.keep hk HGB.out.1); have HR := Aside0.mk hr; have HGB := Aside0.mk (gb_next HGB.out (keep_size hk)); have HK := Aside0.mk (keep_then HK.out hk); clear hr hk) | (go_at_call 62; (with_reducible refine (peek0_c HR.out).mono ?_); rintro e W ⟨rfl, hr, hk⟩; rw [HP0.out]; have HQ := Aside0.mk (keep_blk hk HQ.out HNE.out.1); have HBL := Aside0.mk (HBL.out.keep hk HGB.out.1); have HR := Aside0.mk hr; have HGB := Aside0.mk (gb_next HGB.out (keep_size hk)); have HK := Aside0.mk (keep_then HK.out hk); clear hr hk) | (go_at_call 66; (with_reducible refine (esc0_c HR.out).mono ?_); rintro e W ⟨rfl, hr, hk⟩; rw [HT.out.1]; have HQ := Aside0.mk (keep_blk hk HQ.out HNE.out.1); have HBL := Aside0.mk (HBL.out.keep hk HGB.out.1); have HR := Aside0.mk hr; have HGB := Aside0.mk (gb_next HGB.out (keep_size hk)); have HK := Aside0.mk (keep_then HK.out hk); clear hr hk) | (go_at_call 62; (with_reducible refine (peek1_c HR.out).mono ?_); rintro e W ⟨rfl, hr, hk⟩; rw [HT.out.2]; have HQ := Aside0.mk (keep_blk hk HQ.out HNE.out.1); have HBL := Aside0.mk (HBL.out.keep hk HGB.out.1); have HR := Aside0.mk hr; have HGB := Aside0.mk (gb_next HGB.out (keep_size hk)); have HK := Aside0.mk (keep_then HK.out hk); clear hr hk) | fail)
                  obtain ⟨A, cc, i, q0, q1, z1, hi, _⟩ := HR.out.cells
                  have HLI : Aside0 (IntKind.i64.wrap (i + 2) = i + 2 ∧ i = (L.length : Int) - (c :: t).length ∧ (c :: t).length ≤ L.length) := ⟨by have := HR.out.len; simp only [List.length_cons] at this hi ⊢; rw [i64_w]; refine ⟨by unfold wrap64; omega, by omega, by omega⟩⟩
                  by_cases hz : (L.length : Int) < IntKind.i64.wrap (i + 2)
                  · have zz := eq_true hz
                    have HST : Aside0 ((L.length : Int) = (L.length : Int) - t'.length) := ⟨by have h1 := HLI.out; have h2 := HDL.out; rw [List.length_cons] at h1; omega⟩
                    clear hz
                    clear hi
                    refine wp_region_noPanic ?_
                    refine wp_region_held_drew (S := (fun w' : World => w'.cell? ⟨g, 0, none⟩ = some (.slice A L.length cc))) (by kernel_rfl) q0 (fun hHeld => ?_)
                    refine wpAnyH_take (i := 0) (v := ?_) rfl (by kernel_rfl) (by kernel_rfl) (by kernel_rfl) (fun _ _ _ h => h) (Or.inl ⟨by rfl, ?_⟩) (by assumption) ?_
                    rotate_left
                    focus (intro w hSw; (try dsimp only at hSw); go_simp; try with_reducible rfl)
                    try simp only [Act.put, List.setIfInBounds_toArray, List.set_cons_zero, List.set_cons_succ, List.getElem_toArray, List.getElem_cons_succ, List.getElem_cons_zero]
                    refine wpAnyH_take (i := 1) (v := ?_) rfl (by kernel_rfl) (by kernel_rfl) (by kernel_rfl) (fun _ _ _ h => h) (Or.inl ⟨by rfl, ?_⟩) (by assumption) ?_
                    rotate_left
                    focus (intro w hSw; (try dsimp only at hSw); go_simp; try with_reducible rfl)
                    try simp only [Act.put, List.setIfInBounds_toArray, List.set_cons_zero, List.set_cons_succ, List.getElem_toArray, List.getElem_cons_succ, List.getElem_cons_zero]
                    refine wpAnyH_take (i := 2) (v := ?_) rfl (by kernel_rfl) (by kernel_rfl) (by kernel_rfl) (fun _ _ _ h => h) (Or.inl ⟨by rfl, ?_⟩) (by assumption) ?_
                    rotate_left
                    focus (intro w hSw; (try dsimp only at hSw); go_simp; try with_reducible rfl)
                    try simp only [Act.put, List.setIfInBounds_toArray, List.set_cons_zero, List.set_cons_succ, List.getElem_toArray, List.getElem_cons_succ, List.getElem_cons_zero]
                    refine wpAnyH_take (i := 3) (v := ?_) rfl (by kernel_rfl) (by kernel_rfl) (by kernel_rfl) (fun _ _ _ h => h) (Or.inl ⟨by rfl, ?_⟩) (by assumption) ?_
                    rotate_left
                    focus (intro w hSw; (try dsimp only at hSw); go_simp; try with_reducible rfl)
                    try simp only [Act.put, List.setIfInBounds_toArray, List.set_cons_zero, List.set_cons_succ, List.getElem_toArray, List.getElem_cons_succ, List.getElem_cons_zero]
                    refine wpAnyH_take (i := 6) (v := ?_) rfl (by kernel_rfl) (by kernel_rfl) (by kernel_rfl) (fun _ _ _ h => h) (Or.inl ⟨by rfl, ?_⟩) (by assumption) ?_
                    rotate_left
                    focus (intro w hSw; (try dsimp only at hSw); go_simp; try with_reducible rfl)
                    try simp only [Act.put, List.setIfInBounds_toArray, List.set_cons_zero, List.set_cons_succ, List.getElem_toArray, List.getElem_cons_succ, List.getElem_cons_zero]
                    refine wpAnyH_take (i := 7) (v := ?_) rfl (by kernel_rfl) (by kernel_rfl) (by kernel_rfl) (fun _ _ _ h => h) (Or.inl ⟨by rfl, ?_⟩) (by assumption) ?_
                    rotate_left
                    focus (intro w hSw; (try dsimp only at hSw); go_simp; try with_reducible rfl)
                    try simp only [Act.put, List.setIfInBounds_toArray, List.set_cons_zero, List.set_cons_succ, List.getElem_toArray, List.getElem_cons_succ, List.getElem_cons_zero]
                    refine wpAnyH_take (i := 8) (v := ?_) rfl (by kernel_rfl) (by kernel_rfl) (by kernel_rfl) (fun _ _ _ h => h) (Or.inl ⟨by rfl, ?_⟩) (by assumption) ?_
                    rotate_left
                    focus (intro w hSw; (try dsimp only at hSw); go_simp; try with_reducible rfl)
                    try simp only [Act.put, List.setIfInBounds_toArray, List.set_cons_zero, List.set_cons_succ, List.getElem_toArray, List.getElem_cons_succ, List.getElem_cons_zero]
                    refine wpAnyH_take (i := 9) (v := ?_) rfl (by kernel_rfl) (by kernel_rfl) (by kernel_rfl) (fun _ _ _ h => h) (Or.inl ⟨by rfl, ?_⟩) (by assumption) ?_
                    rotate_left
                    focus (intro w hSw; (try dsimp only at hSw); go_simp; try with_reducible rfl)
                    try simp only [Act.put, List.setIfInBounds_toArray, List.set_cons_zero, List.set_cons_succ, List.getElem_toArray, List.getElem_cons_succ, List.getElem_cons_zero]
                    refine wpAnyH_take (i := 10) (v := ?_) rfl (by kernel_rfl) (by kernel_rfl) (by kernel_rfl) (fun _ _ _ h => h) (Or.inl ⟨by rfl, ?_⟩) (by assumption) ?_
                    rotate_left
                    focus (intro w hSw; (try dsimp only at hSw); go_simp; try with_reducible rfl)
                    try simp only [Act.put, List.setIfInBounds_toArray, List.set_cons_zero, List.set_cons_succ, List.getElem_toArray, List.getElem_cons_succ, List.getElem_cons_zero]
                    refine wpAnyH_ready (rs := [4]) (by kernel_rfl) (by simp) ?_
                    refine AllReadyH.cons rfl (fun K hK => ?_) AllReadyH.nil
                    go_simp
                    refine hK.out _ _ q0 (fun hHeld2 => ?_)
                    clear hK K
                    try simp only [Act.put, List.setIfInBounds_toArray, List.set_cons_zero, List.set_cons_succ, List.getElem_toArray, List.getElem_cons_succ, List.getElem_cons_zero]
                    refine wpAnyH_take (i := 5) (v := ?_) rfl (by kernel_rfl) (by kernel_rfl) (by kernel_rfl) (fun _ _ _ h => h) (Or.inl ⟨by rfl, ?_⟩) (by assumption) ?_
                    rotate_left
                    focus (intro w hSw; (try dsimp only at hSw); go_simp; try with_reducible rfl)
                    try simp only [Act.put, List.setIfInBounds_toArray, List.set_cons_zero, List.set_cons_succ, List.getElem_toArray, List.getElem_cons_succ, List.getElem_cons_zero]
                    refine wpAnyH_take (i := 11) (v := ?_) rfl (by kernel_rfl) (by kernel_rfl) (by kernel_rfl) (fun _ _ _ h => h) (Or.inl ⟨by rfl, ?_⟩) (by assumption) ?_
                    rotate_left
                    focus (intro w hSw; (try dsimp only at hSw); go_simp; try with_reducible rfl)
                    try simp only [Act.put, List.setIfInBounds_toArray, List.set_cons_zero, List.set_cons_succ, List.getElem_toArray, List.getElem_cons_succ, List.getElem_cons_zero]
                    refine wpAnyH_take (i := 12) (v := ?_) rfl (by kernel_rfl) (by kernel_rfl) (by kernel_rfl) (fun _ _ _ h => h) (Or.inl ⟨by rfl, ?_⟩) (by assumption) ?_
                    rotate_left
                    focus (intro w hSw; (try dsimp only at hSw); go_simp; try with_reducible rfl)
                    try simp only [Act.put, List.setIfInBounds_toArray, List.set_cons_zero, List.set_cons_succ, List.getElem_toArray, List.getElem_cons_succ, List.getElem_cons_zero]
                    refine wpAnyH_take (i := 13) (v := ?_) rfl (by kernel_rfl) (by kernel_rfl) (by kernel_rfl) (fun _ _ _ h => h) (Or.inl ⟨by rfl, ?_⟩) (by assumption) ?_
                    rotate_left
                    focus (intro w hSw; (try dsimp only at hSw); go_simp; try with_reducible rfl)
                    try simp only [Act.put, List.setIfInBounds_toArray, List.set_cons_zero, List.set_cons_succ, List.getElem_toArray, List.getElem_cons_succ, List.getElem_cons_zero]
                    refine wpAnyH_ready (rs := [14]) (by kernel_rfl) (by simp) ?_
                    refine AllReadyH.cons rfl (fun K hK => ?_) AllReadyH.nil
                    go_simp
                    refine hK.out _ _ ?_ (fun hHeld2 => ?_)
                    · exact HR.out.cell0_set q0 _
                    refine wpAnyH_done (by kernel_rfl) ?_ _
                    refine NoPanic.normal ?_
                    go_wp2_with fail
                    go_roundg n
                    case measure => have h1 := HG.out; have h2 := HDL.out; rw [List.length_cons] at h1; omega
                    case rel => exact ⟨t', out, ⟨by rw [HE.out, HU.out]⟩, ⟨by have h1 := HG.out; have h2 := HDL.out; rw [List.length_cons] at h1; omega⟩, ⟨by have h1 := HLN.out; have h2 := HDL.out; rw [List.length_cons] at h1; omega⟩, ⟨HR.out.drew.set (HDR.out.trans (List.suffix_cons c t)) HST.out⟩, ⟨(keep_drew HK.out).set_ 1 _⟩, ⟨HBL.out.keep ((KeepBut.refl _ g none).set_ 1 _) HGB.out.1⟩, ⟨blk_far (w := W.drew) HQ.out (p := ⟨g, 1, none⟩) HNE.out.1 _⟩, ⟨gb_next HGB.out (by simp [World.setCell])⟩⟩
                  · have zz := eq_false hz
                    have HST : Aside0 (IntKind.i64.wrap (i + 2) = (L.length : Int) - t'.length) := ⟨by have h1 := HLI.out; have h2 := HDL.out; rw [List.length_cons] at h1; omega⟩
                    clear hz
                    clear hi
                    refine wp_region_noPanic ?_
                    refine wp_region_held_drew (S := (fun w' : World => w'.cell? ⟨g, 0, none⟩ = some (.slice A L.length cc))) (by kernel_rfl) q0 (fun hHeld => ?_)
                    refine wpAnyH_take (i := 0) (v := ?_) rfl (by kernel_rfl) (by kernel_rfl) (by kernel_rfl) (fun _ _ _ h => h) (Or.inl ⟨by rfl, ?_⟩) (by assumption) ?_
                    rotate_left
                    focus (intro w hSw; (try dsimp only at hSw); go_simp; try with_reducible rfl)
                    try simp only [Act.put, List.setIfInBounds_toArray, List.set_cons_zero, List.set_cons_succ, List.getElem_toArray, List.getElem_cons_succ, List.getElem_cons_zero]
                    refine wpAnyH_take (i := 1) (v := ?_) rfl (by kernel_rfl) (by kernel_rfl) (by kernel_rfl) (fun _ _ _ h => h) (Or.inl ⟨by rfl, ?_⟩) (by assumption) ?_
                    rotate_left
                    focus (intro w hSw; (try dsimp only at hSw); go_simp; try with_reducible rfl)
                    try simp only [Act.put, List.setIfInBounds_toArray, List.set_cons_zero, List.set_cons_succ, List.getElem_toArray, List.getElem_cons_succ, List.getElem_cons_zero]
                    refine wpAnyH_take (i := 2) (v := ?_) rfl (by kernel_rfl) (by kernel_rfl) (by kernel_rfl) (fun _ _ _ h => h) (Or.inl ⟨by rfl, ?_⟩) (by assumption) ?_
                    rotate_left
                    focus (intro w hSw; (try dsimp only at hSw); go_simp; try with_reducible rfl)
                    try simp only [Act.put, List.setIfInBounds_toArray, List.set_cons_zero, List.set_cons_succ, List.getElem_toArray, List.getElem_cons_succ, List.getElem_cons_zero]
                    refine wpAnyH_take (i := 3) (v := ?_) rfl (by kernel_rfl) (by kernel_rfl) (by kernel_rfl) (fun _ _ _ h => h) (Or.inl ⟨by rfl, ?_⟩) (by assumption) ?_
                    rotate_left
                    focus (intro w hSw; (try dsimp only at hSw); go_simp; try with_reducible rfl)
                    try simp only [Act.put, List.setIfInBounds_toArray, List.set_cons_zero, List.set_cons_succ, List.getElem_toArray, List.getElem_cons_succ, List.getElem_cons_zero]
                    refine wpAnyH_take (i := 6) (v := ?_) rfl (by kernel_rfl) (by kernel_rfl) (by kernel_rfl) (fun _ _ _ h => h) (Or.inl ⟨by rfl, ?_⟩) (by assumption) ?_
                    rotate_left
                    focus (intro w hSw; (try dsimp only at hSw); go_simp; try with_reducible rfl)
                    try simp only [Act.put, List.setIfInBounds_toArray, List.set_cons_zero, List.set_cons_succ, List.getElem_toArray, List.getElem_cons_succ, List.getElem_cons_zero]
                    refine wpAnyH_take (i := 7) (v := ?_) rfl (by kernel_rfl) (by kernel_rfl) (by kernel_rfl) (fun _ _ _ h => h) (Or.inl ⟨by rfl, ?_⟩) (by assumption) ?_
                    rotate_left
                    focus (intro w hSw; (try dsimp only at hSw); go_simp; try with_reducible rfl)
                    try simp only [Act.put, List.setIfInBounds_toArray, List.set_cons_zero, List.set_cons_succ, List.getElem_toArray, List.getElem_cons_succ, List.getElem_cons_zero]
                    refine wpAnyH_take (i := 8) (v := ?_) rfl (by kernel_rfl) (by kernel_rfl) (by kernel_rfl) (fun _ _ _ h => h) (Or.inl ⟨by rfl, ?_⟩) (by assumption) ?_
                    rotate_left
                    focus (intro w hSw; (try dsimp only at hSw); go_simp; try with_reducible rfl)
                    try simp only [Act.put, List.setIfInBounds_toArray, List.set_cons_zero, List.set_cons_succ, List.getElem_toArray, List.getElem_cons_succ, List.getElem_cons_zero]
                    refine wpAnyH_take (i := 9) (v := ?_) rfl (by kernel_rfl) (by kernel_rfl) (by kernel_rfl) (fun _ _ _ h => h) (Or.inl ⟨by rfl, ?_⟩) (by assumption) ?_
                    rotate_left
                    focus (intro w hSw; (try dsimp only at hSw); go_simp; try with_reducible rfl)
                    try simp only [Act.put, List.setIfInBounds_toArray, List.set_cons_zero, List.set_cons_succ, List.getElem_toArray, List.getElem_cons_succ, List.getElem_cons_zero]
                    refine wpAnyH_take (i := 10) (v := ?_) rfl (by kernel_rfl) (by kernel_rfl) (by kernel_rfl) (fun _ _ _ h => h) (Or.inl ⟨by rfl, ?_⟩) (by assumption) ?_
                    rotate_left
                    focus (intro w hSw; (try dsimp only at hSw); go_simp; try with_reducible rfl)
                    try simp only [Act.put, List.setIfInBounds_toArray, List.set_cons_zero, List.set_cons_succ, List.getElem_toArray, List.getElem_cons_succ, List.getElem_cons_zero]
                    refine wpAnyH_ready (rs := [4]) (by kernel_rfl) (by simp) ?_
                    refine AllReadyH.cons rfl (fun K hK => ?_) AllReadyH.nil
                    go_simp
                    refine hK.out _ _ q0 (fun hHeld2 => ?_)
                    clear hK K
                    try simp only [Act.put, List.setIfInBounds_toArray, List.set_cons_zero, List.set_cons_succ, List.getElem_toArray, List.getElem_cons_succ, List.getElem_cons_zero]
                    refine wpAnyH_take (i := 5) (v := ?_) rfl (by kernel_rfl) (by kernel_rfl) (by kernel_rfl) (fun _ _ _ h => h) (Or.inl ⟨by rfl, ?_⟩) (by assumption) ?_
                    rotate_left
                    focus (intro w hSw; (try dsimp only at hSw); go_simp; try with_reducible rfl)
                    try simp only [Act.put, List.setIfInBounds_toArray, List.set_cons_zero, List.set_cons_succ, List.getElem_toArray, List.getElem_cons_succ, List.getElem_cons_zero]
                    refine wpAnyH_take (i := 11) (v := ?_) rfl (by kernel_rfl) (by kernel_rfl) (by kernel_rfl) (fun _ _ _ h => h) (Or.inl ⟨by rfl, ?_⟩) (by assumption) ?_
                    rotate_left
                    focus (intro w hSw; (try dsimp only at hSw); go_simp; try with_reducible rfl)
                    try simp only [Act.put, List.setIfInBounds_toArray, List.set_cons_zero, List.set_cons_succ, List.getElem_toArray, List.getElem_cons_succ, List.getElem_cons_zero]
                    refine wpAnyH_take (i := 12) (v := ?_) rfl (by kernel_rfl) (by kernel_rfl) (by kernel_rfl) (fun _ _ _ h => h) (Or.inl ⟨by rfl, ?_⟩) (by assumption) ?_
                    rotate_left
                    focus (intro w hSw; (try dsimp only at hSw); go_simp; try with_reducible rfl)
                    try simp only [Act.put, List.setIfInBounds_toArray, List.set_cons_zero, List.set_cons_succ, List.getElem_toArray, List.getElem_cons_succ, List.getElem_cons_zero]
                    refine wpAnyH_take (i := 13) (v := ?_) rfl (by kernel_rfl) (by kernel_rfl) (by kernel_rfl) (fun _ _ _ h => h) (Or.inl ⟨by rfl, ?_⟩) (by assumption) ?_
                    rotate_left
                    focus (intro w hSw; (try dsimp only at hSw); go_simp; try with_reducible rfl)
                    try simp only [Act.put, List.setIfInBounds_toArray, List.set_cons_zero, List.set_cons_succ, List.getElem_toArray, List.getElem_cons_succ, List.getElem_cons_zero]
                    refine wpAnyH_ready (rs := [14]) (by kernel_rfl) (by simp) ?_
                    refine AllReadyH.cons rfl (fun K hK => ?_) AllReadyH.nil
                    go_simp
                    refine hK.out _ _ ?_ (fun hHeld2 => ?_)
                    · exact HR.out.cell0_set q0 _
                    refine wpAnyH_done (by kernel_rfl) ?_ _
                    refine NoPanic.normal ?_
                    go_wp2_with fail
                    go_roundg n
                    case measure => have h1 := HG.out; have h2 := HDL.out; rw [List.length_cons] at h1; omega
                    case rel => exact ⟨t', out, ⟨by rw [HE.out, HU.out]⟩, ⟨by have h1 := HG.out; have h2 := HDL.out; rw [List.length_cons] at h1; omega⟩, ⟨by have h1 := HLN.out; have h2 := HDL.out; rw [List.length_cons] at h1; omega⟩, ⟨HR.out.drew.set (HDR.out.trans (List.suffix_cons c t)) HST.out⟩, ⟨(keep_drew HK.out).set_ 1 _⟩, ⟨HBL.out.keep ((KeepBut.refl _ g none).set_ 1 _) HGB.out.1⟩, ⟨blk_far (w := W.drew) HQ.out (p := ⟨g, 1, none⟩) HNE.out.1 _⟩, ⟨gb_next HGB.out (by simp [World.setCell])⟩⟩
              · rw [if_neg k4] at HU
                have d4 : (c == 92) = false := by simp [k4]
                clear k4
                cases t2 with
                | true =>
                  have d3 := d3 rfl
                  go_upto_region 7 with (first | (go_at_call 47; (with_reducible refine (over_c HR.out).mono ?_); rintro e W ⟨rfl, hr, hk⟩; rw [HI.out]; have HQ := Aside0.mk (keep_blk hk HQ.out HNE.out.1); have HBL := Aside0.mk (HBL.out.keep hk HGB.out.1); have HR := Aside0.mk hr; have HGB := Aside0.mk (gb_next HGB.out (keep_size hk)); have HK := Aside0.mk (keep_then HK.out hk); clear hr hk) | (go_at_call 62; (with_reducible refine (peek0_c HR.out).mono ?_); rintro e W ⟨rfl, hr, hk⟩; rw [HP0.out]; have HQ := Aside0.mk (keep_blk hk HQ.out HNE.out.1); have HBL := Aside0.mk (HBL.out.keep hk HGB.out.1); have HR := Aside0.mk hr; have HGB := Aside0.mk (gb_next HGB.out (keep_size hk)); have HK := Aside0.mk (keep_then HK.out hk); clear hr hk) | (go_at_call 66; (with_reducible refine (esc0_c HR.out).mono ?_); rintro e W ⟨rfl, hr, hk⟩; rw [HT.out.1]; have HQ := Aside0.mk (keep_blk hk HQ.out HNE.out.1); have HBL := Aside0.mk (HBL.out.keep hk HGB.out.1); have HR := Aside0.mk hr; have HGB := Aside0.mk (gb_next HGB.out (keep_size hk)); have HK := Aside0.mk (keep_then HK.out hk); clear hr hk) | (go_at_call 62; (with_reducible refine (peek1_c HR.out).mono ?_); rintro e W ⟨rfl, hr, hk⟩; rw [HT.out.2]; have HQ := Aside0.mk (keep_blk hk HQ.out HNE.out.1); have HBL := Aside0.mk (HBL.out.keep hk HGB.out.1); have HR := Aside0.mk hr; have HGB := Aside0.mk (gb_next HGB.out (keep_size hk)); have HK := Aside0.mk (keep_then HK.out hk); clear hr hk) | (go_at_call 52; (with_reducible refine (bwrune _ _ _ c (by have := HC.out; omega) (by have := HC.out; omega) _ HBL.out (by have := HLN.out; have := strR_len out; have := HR.out.len; rw [Lib.byteCells_length]; omega) HGB.out.2.2.1).mono ?_); rintro e W ⟨uu, rfl, hbl, hb⟩; rw [bld_snoc] at hbl; have HBL := Aside0.mk hbl; have HQ := Aside0.mk ((hb.block _ HGB.out.2.1).trans HQ.out); have HGB := Aside0.mk (gb_next HGB.out hb.size); have HR := Aside0.mk (HR.out.bld hb HGB.out.1); have HK := Aside0.mk (keep_bld HK.out hb HGB.out.2.2.2); clear hbl hb) | fail)
                  obtain ⟨A, cc, i, q0, q1, z1, hi, _⟩ := HR.out.cells
                  have HST : Aside0 (wrap64 (i + 1) = (L.length : Int) - t.length) := ⟨by have := HR.out.len; simp only [List.length_cons] at this hi; unfold wrap64; omega⟩
                  clear hi q0
                  go_wp2_with fail
                  go_roundg n
                  case measure => have h1 := HG.out; rw [List.length_cons] at h1; omega
                  case rel => exact ⟨t, out ++ [c], ⟨by rw [HE.out, HU.out]; simp⟩, ⟨by have h1 := HG.out; rw [List.length_cons] at h1; omega⟩, ⟨by have h1 := HLN.out; rw [List.length_cons] at h1; rw [List.length_append, List.length_singleton]; omega⟩, ⟨HR.out.set (List.suffix_cons c t) HST.out⟩, ⟨HK.out.set_ 1 _⟩, ⟨HBL.out.keep ((KeepBut.refl _ g none).set_ 1 _) HGB.out.1⟩, ⟨blk_far HQ.out (p := ⟨g, 1, none⟩) HNE.out.1 _⟩, ⟨gb_next HGB.out (by simp [World.setCell])⟩⟩
                | false =>
                  clear d3
                  go_upto_region 7 with (first | (go_at_call 47; (with_reducible refine (over_c HR.out).mono ?_); rintro e W ⟨rfl, hr, hk⟩; rw [HI.out]; have HQ := Aside0.mk (keep_blk hk HQ.out HNE.out.1); have HBL := Aside0.mk (HBL.out.keep hk HGB.out.1); have HR := Aside0.mk hr; have HGB := Aside0.mk (gb_next HGB.out (keep_size hk)); have HK := Aside0.mk (keep_then HK.out hk); clear hr hk) | (go_at_call 62; (with_reducible refine (peek0_c HR.out).mono ?_); rintro e W ⟨rfl, hr, hk⟩; rw [HP0.out]; have HQ := Aside0.mk (keep_blk hk HQ.out HNE.out.1); have HBL := Aside0.mk (HBL.out.keep hk HGB.out.1); have HR := Aside0.mk hr; have HGB := Aside0.mk (gb_next HGB.out (keep_size hk)); have HK := Aside0.mk (keep_then HK.out hk); clear hr hk) | (go_at_call 66; (with_reducible refine (esc0_c HR.out).mono ?_); rintro e W ⟨rfl, hr, hk⟩; rw [HT.out.1]; have HQ := Aside0.mk (keep_blk hk HQ.out HNE.out.1); have HBL := Aside0.mk (HBL.out.keep hk HGB.out.1); have HR := Aside0.mk hr; have HGB := Aside0.mk (gb_next HGB.out (keep_size hk)); have HK := Aside0.mk (keep_then HK.out hk); clear hr hk) | (go_at_call 62; (with_reducible refine (peek1_c HR.out).mono ?_); rintro e W ⟨rfl, hr, hk⟩; rw [HT.out.2]; have HQ := Aside0.mk (keep_blk hk HQ.out HNE.out.1); have HBL := Aside0.mk (HBL.out.keep hk HGB.out.1); have HR := Aside0.mk hr; have HGB := Aside0.mk (gb_next HGB.out (keep_size hk)); have HK := Aside0.mk (keep_then HK.out hk); clear hr hk) | (go_at_call 52; (with_reducible refine (bwrune _ _ _ c (by have := HC.out; omega) (by have := HC.out; omega) _ HBL.out (by have := HLN.out; have := strR_len out; have := HR.out.len; rw [Lib.byteCells_length]; omega) HGB.out.2.2.1).mono ?_); rintro e W ⟨uu, rfl, hbl, hb⟩; rw [bld_snoc] at hbl; have HBL := Aside0.mk hbl; have HQ := Aside0.mk ((hb.block _ HGB.out.2.1).trans HQ.out); have HGB := Aside0.mk (gb_next HGB.out hb.size); have HR := Aside0.mk (HR.out.bld hb HGB.out.1); have HK := Aside0.mk (keep_bld HK.out hb HGB.out.2.2.2); clear hbl hb) | fail)
                  obtain ⟨A, cc, i, q0, q1, z1, hi, _⟩ := HR.out.cells
                  have HST : Aside0 (wrap64 (i + 1) = (L.length : Int) - t.length) := ⟨by have := HR.out.len; simp only [List.length_cons] at this hi; unfold wrap64; omega⟩
                  clear hi q0
                  go_wp2_with fail
                  go_roundg n
                  case measure => have h1 := HG.out; rw [List.length_cons] at h1; omega
                  case rel => exact ⟨t, out ++ [c], ⟨by rw [HE.out, HU.out]; simp⟩, ⟨by have h1 := HG.out; rw [List.length_cons] at h1; omega⟩, ⟨by have h1 := HLN.out; rw [List.length_cons] at h1; rw [List.length_append, List.length_singleton]; omega⟩, ⟨HR.out.set (List.suffix_cons c t) HST.out⟩, ⟨HK.out.set_ 1 _⟩, ⟨HBL.out.keep ((KeepBut.refl _ g none).set_ 1 _) HGB.out.1⟩, ⟨blk_far HQ.out (p := ⟨g, 1, none⟩) HNE.out.1 _⟩, ⟨gb_next HGB.out (by simp [World.setCell])⟩⟩
end Go.Proofs.YtpnlbmeeihbjaabDoor.P
end
section
set_option linter.unusedVariables false
set_option linter.unusedSimpArgs false
namespace Go.Proofs.YtpnlbmeeihbjaabDoor.P
open Go.RowKit Go.Proofs.YtpnlbmeeihbjaabDoorW.PrintWords Go.Proofs.YtpnlbmeeihbjaabDoorW.PrintLast Go.Proofs.YtpnlbmeeihbjaabDoorW.PrintMore
open Go.Lib
attribute [local go_sem] max2_int min2_int max_two min_two max_three min_three max_four min_four
set_option linter.unusedVariables false
set_option linter.unusedSimpArgs false
theorem Rdr.elem {w0 w : World} {g : Nat} {L s : List Int} (h : Rdr w0 w g L s) {A : Option Addr} {cc : Nat} (q0 : w.cell? ⟨g, 0, none⟩ = some (.slice A L.length cc)) (j : Int) (h0 : 0 ≤ j) (h1 : j < L.length) : ∃ ad, A = some ad ∧ w.cell? (ad.add j.toNat) = some (.int .i32 (rd L j)) := by
  obtain ⟨p, hp, A', c', hb, _, hC⟩ := h.st
  have e := cellS63_0 hb
  rw [q0] at e
  injection e with e
  injection e with e1 e2 e3
  subst e1
  obtain ⟨ad, ha, hc⟩ := Kd.at_int hC j h0 h1
  exact ⟨ad, ha, pw_cell_below h.bel hc⟩
theorem rd_suf {L t : List Int} {c : Int} (h : c :: t <:+ L) : rd L ((L.length : Int) - t.length - 1) = c := by
  obtain ⟨p, rfl⟩ := h
  rw [show ((p ++ c :: t).length : Int) - t.length - 1 = (p.length : Int) by simp; omega, rd_at _ _ (by simp)]
  simp
def badL : Nat → List Int → List Int
  | 0, s => s
  | _ + 1, [] => []
  | n + 1, c :: t => if escB (c :: t) 0 then badL n (escd (c :: t)).2 else if c = 41 then t else badL n t
def badS (s : List Int) : List Int := badL s.length s
theorem badL_fuel : ∀ (n m : Nat) (s : List Int), s.length ≤ n → s.length ≤ m → badL n s = badL m s
  | 0, 0, _, _, _ => rfl
  | 0, m + 1, s, h, _ => by
    obtain rfl := List.eq_nil_of_length_eq_zero (by omega : s.length = 0)
    rfl
  | n + 1, 0, s, _, h => by
    obtain rfl := List.eq_nil_of_length_eq_zero (by omega : s.length = 0)
    rfl
  | n + 1, m + 1, [], _, _ => rfl
  | n + 1, m + 1, c :: t, h1, h2 => by
    simp only [List.length_cons] at h1 h2
    have he := escd_len c t
    unfold badL
    rw [badL_fuel n m t (by omega) (by omega), badL_fuel n m (escd (c :: t)).2 (by omega) (by omega)]
theorem badS_unf (c : Int) (t : List Int) : badS (c :: t) = if escB (c :: t) 0 then badS (escd (c :: t)).2 else if c = 41 then t else badS t := by
  have e1 : badL t.length (escd (c :: t)).2 = badS (escd (c :: t)).2 := badL_fuel _ _ _ (escd_len c t) (Nat.le_refl _)
  rw [← e1]
  rfl
set_option maxHeartbeats 16000000 in
set_option maxRecDepth 100000 in
theorem spoilt_c {w0 w : World} {g : Nat} {L : List Int} {s : List Int} (h : Rdr w0 w g L s) :
    Calls Tryd.prog 95 #[.pointer (some ⟨g, 0, none⟩)] w fun e w' => e = .returned (tokV 8 ⟨#[]⟩ ⟨#[]⟩ false false) ∧ Rdr w0 w' g L (badS s) ∧ KeepBut w w' g none := by
  have hu63 := Tryd.underlying63
  have hu26 := Tryd.underlying26
  have hu38 := Tryd.underlying38
  go_enter Tryd.func95, Tryd.ntmps95
  go_upto_region 1 with (fail)
  have hq := blk_new w (.cells #[.int .i64 0, .string ⟨#[]⟩, .string ⟨#[]⟩, .bool false, .bool false] 26)
  have HR : Aside0 (Rdr w0 (w.alloc (.cells #[.int .i64 0, .string ⟨#[]⟩, .string ⟨#[]⟩, .bool false, .bool false] 26)) g L s) := ⟨h.below (below_alloc (Below.refl _ _) _)⟩
  have HK : Aside0 (KeepBut w (w.alloc (.cells #[.int .i64 0, .string ⟨#[]⟩, .string ⟨#[]⟩, .bool false, .bool false] 26)) g none) := ⟨keep_alloc (KeepBut.refl w g none) _⟩
  have HNE : Aside0 (w.heap.size ≠ g ∧ g ≠ w.heap.size ∧ w0.heap.size ≤ w.heap.size) := ⟨by have := h.lt.2; omega, by have := h.lt.2; omega, h.bel.size⟩
  have HQ := Aside0.mk hq
  generalize w.alloc (.cells #[.int .i64 0, .string ⟨#[]⟩, .string ⟨#[]⟩, .bool false, .bool false] 26) = W0 at HR HK HQ ⊢
  obtain ⟨b, hb⟩ : ∃ b, b = w.heap.size := ⟨_, rfl⟩
  have HBD : Aside0 (w.heap.size ≤ b) := ⟨by omega⟩
  rw [← hb] at HNE HQ ⊢
  clear hq h hb
  have HLS : Aside0 (s.length ≤ 1099511627776) := ⟨by have := HR.out.len; omega⟩
  go_loopg [] (s.length + 1) (fun kq w' => ∃ r, Aside0 (badS s = badS r) ∧ Aside0 (r.length < kq) ∧ Aside0 (Rdr w0 w' g L r) ∧ Aside0 (KeepBut w w' g none) ∧ Aside0 (w'.heap[b]? = some (.cells #[.int .i64 0, .string ⟨#[]⟩, .string ⟨#[]⟩, .bool false, .bool false] 26 (0, 0))))
  case atStart => exact ⟨s, ⟨rfl⟩, ⟨by omega⟩, HR, HK, HQ⟩
  case round =>
    clear HR HK HQ
    obtain ⟨r, HE, HG, HR, HK, HQ⟩ := hrel
    cases gk with
    | zero => exact absurd HG.out (by omega)
    | succ n =>
      cases r with
      | nil =>
        have HI : Aside0 (([] : List Int).isEmpty = true) := ⟨rfl⟩
        go_upto_region 6 with (first | (go_at_call 47; (with_reducible refine (over_c HR.out).mono ?_); rintro e W ⟨rfl, hr, hk⟩; rw [HI.out]; have HQ := Aside0.mk (keep_blk hk HQ.out HNE.out.1); have HR := Aside0.mk hr; have HK := Aside0.mk (keep_then HK.out hk); clear hr hk) | fail)
        have m0 := (blk_cell HQ.out 0).trans (show _ = some _ from rfl)
        have n0 := blk_frozen HQ.out 0
        have m1 := (blk_cell HQ.out 1).trans (show _ = some _ from rfl)
        have n1 := blk_frozen HQ.out 1
        have m2 := (blk_cell HQ.out 2).trans (show _ = some _ from rfl)
        have n2 := blk_frozen HQ.out 2
        have m3 := (blk_cell HQ.out 3).trans (show _ = some _ from rfl)
        have n3 := blk_frozen HQ.out 3
        have m4 := (blk_cell HQ.out 4).trans (show _ = some _ from rfl)
        have n4 := blk_frozen HQ.out 4
        go_wp2_with fail
        refine bodyPost_ret (results_cell_row rfl _ _ b 26 #[.int .i64 8, .string ⟨#[]⟩, .string ⟨#[]⟩, .bool false, .bool false] (0, 0) _ rfl (tok_put HQ.out _ _ _ _ _) Tryd.underlying26 rfl (by kernel_rfl)) rfl ?_
        exact ⟨rfl, by rw [HE.out]; exact HR.out.far5 HNE.out.2.1 HNE.out.2.2 _ _ _ _ _, keep_far5 HK.out HBD.out _ _ _ _ _⟩
      | cons c t =>
        have HI : Aside0 ((c :: t).isEmpty = false) := ⟨rfl⟩
        have HU := Aside0.mk (badS_unf c t)
        have HSU := Aside0.mk HR.out.suf
        obtain ⟨t2, ht2⟩ : ∃ b, b = escB (c :: t) 0 := ⟨_, rfl⟩
        have HT := Aside0.mk ht2.symm
        rw [← ht2] at HU
        clear ht2
        cases t2 with
        | true =>
          have HEL := Aside0.mk (escd_len c t)
          obtain ⟨e, he⟩ : ∃ e, e = escd (c :: t) := ⟨_, rfl⟩
          have HQE := Aside0.mk he.symm
          rw [← he] at HEL HU
          clear he
          go_wp2_with (first | (go_at_call 47; (with_reducible refine (over_c HR.out).mono ?_); rintro e W ⟨rfl, hr, hk⟩; rw [HI.out]; have HQ := Aside0.mk (keep_blk hk HQ.out HNE.out.1); have HR := Aside0.mk hr; have HK := Aside0.mk (keep_then HK.out hk); clear hr hk) | (go_at_call 66; (with_reducible refine (esc0_c HR.out).mono ?_); rintro e W ⟨rfl, hr, hk⟩; rw [HT.out]; have HQ := Aside0.mk (keep_blk hk HQ.out HNE.out.1); have HR := Aside0.mk hr; have HK := Aside0.mk (keep_then HK.out hk); clear hr hk) | (go_at_call 83; (with_reducible refine (escd_c c HR.out).mono ?_); rw [HQE.out]; rintro e' W ⟨rfl, hr, hk⟩; have HQ := Aside0.mk (keep_blk hk HQ.out HNE.out.1); have HR := Aside0.mk hr; have HK := Aside0.mk (keep_then HK.out hk); clear hr hk) | fail)
          go_roundg n
          case measure => have h1 := HG.out; have h2 := HEL.out; rw [List.length_cons] at h1; omega
          case rel => exact ⟨e.2, ⟨by rw [HE.out, HU.out]; rfl⟩, ⟨by have h1 := HG.out; have h2 := HEL.out; rw [List.length_cons] at h1; omega⟩, HR, HK, HQ⟩
        | false =>
          have HU : Aside0 (badS (c :: t) = if c = 41 then t else badS t) := ⟨HU.out⟩
          go_upto_region 4 with (first | (go_at_call 47; (with_reducible refine (over_c HR.out).mono ?_); rintro e W ⟨rfl, hr, hk⟩; rw [HI.out]; have HQ := Aside0.mk (keep_blk hk HQ.out HNE.out.1); have HR := Aside0.mk hr; have HK := Aside0.mk (keep_then HK.out hk); clear hr hk) | (go_at_call 66; (with_reducible refine (esc0_c HR.out).mono ?_); rintro e W ⟨rfl, hr, hk⟩; rw [HT.out]; have HQ := Aside0.mk (keep_blk hk HQ.out HNE.out.1); have HR := Aside0.mk hr; have HK := Aside0.mk (keep_then HK.out hk); clear hr hk) | fail)
          obtain ⟨A, cc, i, q0, q1, z1, hi, _⟩ := HR.out.cells
          have HST : Aside0 (wrap64 (i + 1) = (L.length : Int) - t.length) := ⟨by have := HR.out.len; simp only [List.length_cons] at this hi; unfold wrap64; omega⟩
          clear hi q0
          go_upto_region 5 with (fail)
          have HR2 := Aside0.mk (HR.out.set (List.suffix_cons c t) HST.out)
          have HK2 := Aside0.mk (HK.out.set_ 1 (.int .i64 (wrap64 (i + 1))))
          have HQ2 := Aside0.mk (blk_far HQ.out (p := ⟨g, 1, none⟩) HNE.out.1 (.int .i64 (wrap64 (i + 1))))
          clear q1 z1
          generalize W.setCell ⟨g, 1, none⟩ (.int .i64 (wrap64 (i + 1))) = W1 at HR2 HK2 HQ2 ⊢
          have HR := HR2
          have HK := HK2
          have HQ := HQ2
          obtain ⟨A, cc, i, q0, q1, z1, hi, _⟩ := HR.out.cells
          have hL := HR.out.len
          have hSL := HSU.out.length_le
          rw [List.length_cons] at hSL
          obtain ⟨ad, rfl, qe⟩ := HR.out.elem q0 (i - 1) (by omega) (by omega)
          rw [show rd L (i - 1) = c by rw [hi]; exact rd_suf HSU.out] at qe
          obtain ⟨j, hj⟩ : ∃ j, j = i - 1 := ⟨_, rfl⟩
          rw [← hj] at qe
          have w1 : wrap64 (i - 1) = j := by unfold wrap64; omega
          have w1' : IntKind.i64.wrap (i - 1) = j := by rw [i64_w]; exact w1
          have w2 : (0 ≤ j) = True := eq_true (by omega)
          have w3 : (j < (L.length : Int)) = True := eq_true (by omega)
          have w4 : 0 ≤ j := by omega
          have w5 : j < (L.length : Int) := by omega
          clear hi hL hSL hj
          by_cases k1 : c = 41
          · have d1 : (c == 41) = true := by simp [k1]
            have HU2 : Aside0 (badS s = t) := ⟨by rw [HE.out, HU.out, if_pos k1]⟩
            clear k1
            go_region_held3 (fun w' => w'.cell? ⟨g, 0, none⟩ = some (.slice (some ad) L.length cc) ∧ w'.cell? ⟨g, 1, none⟩ = some (.int .i64 i) ∧ w'.cell? (ad.add j.toNat) = some (.int .i32 c)) (first | go_keep | exact ⟨q0, q1, qe⟩) (fail)
            have HR := Aside0.mk HR.out.drew
            have HK := Aside0.mk (keep_drew HK.out)
            have HQ : Aside0 (W1.drew.heap[b]? = some (.cells #[.int .i64 0, .string ⟨#[]⟩, .string ⟨#[]⟩, .bool false, .bool false] 26 (0, 0))) := ⟨HQ.out⟩
            generalize W1.drew = W3 at HR HK HQ ⊢
            go_upto_region 6 with (fail)
            have m0 := (blk_cell HQ.out 0).trans (show _ = some _ from rfl)
            have n0 := blk_frozen HQ.out 0
            have m1 := (blk_cell HQ.out 1).trans (show _ = some _ from rfl)
            have n1 := blk_frozen HQ.out 1
            have m2 := (blk_cell HQ.out 2).trans (show _ = some _ from rfl)
            have n2 := blk_frozen HQ.out 2
            have m3 := (blk_cell HQ.out 3).trans (show _ = some _ from rfl)
            have n3 := blk_frozen HQ.out 3
            have m4 := (blk_cell HQ.out 4).trans (show _ = some _ from rfl)
            have n4 := blk_frozen HQ.out 4
            go_wp2_with fail
            refine bodyPost_ret (results_cell_row rfl _ _ b 26 #[.int .i64 8, .string ⟨#[]⟩, .string ⟨#[]⟩, .bool false, .bool false] (0, 0) _ rfl (tok_put HQ.out _ _ _ _ _) Tryd.underlying26 rfl (by kernel_rfl)) rfl ?_
            exact ⟨rfl, by rw [HU2.out]; exact HR.out.far5 HNE.out.2.1 HNE.out.2.2 _ _ _ _ _, keep_far5 HK.out HBD.out _ _ _ _ _⟩
          · have d1 : (c == 41) = false := by simp [k1]
            have HU2 : Aside0 (badS s = badS t) := ⟨by rw [HE.out, HU.out, if_neg k1]⟩
            clear k1
            go_region_held3 (fun w' => w'.cell? ⟨g, 0, none⟩ = some (.slice (some ad) L.length cc) ∧ w'.cell? ⟨g, 1, none⟩ = some (.int .i64 i) ∧ w'.cell? (ad.add j.toNat) = some (.int .i32 c)) (first | go_keep | exact ⟨q0, q1, qe⟩) (fail)
            go_wp2_with fail
            go_roundg n
            case measure => have h1 := HG.out; rw [List.length_cons] at h1; omega
            case rel => exact ⟨t, HU2, ⟨by have h1 := HG.out; rw [List.length_cons] at h1; omega⟩, ⟨HR.out.drew⟩, ⟨keep_drew HK.out⟩, ⟨HQ.out⟩⟩
def barB (c : Int) : Bool := (decide (0 ≤ Lib.indexByte [34, 39, 40, 127, 11] (c % 256).toNat.toUInt8) && decide (c < 128)) || (decide (0 < c) && decide (c < 32) && c != 9 && c != 10)
set_option maxHeartbeats 8000000 in
set_option maxRecDepth 100000 in
theorem bars_c (c : Int) (w : World) : Calls Tryd.prog 96 #[.int .i32 c] w fun e w' => e = .returned (.bool (barB c)) ∧ Below w.heap.size w w' := by
  unfold barB
  obtain ⟨k, hk⟩ : ∃ k, k = Lib.indexByte [34, 39, 40, 127, 11] (c % 256).toNat.toUInt8 := ⟨_, rfl⟩
  have HS := Aside0.mk hk.symm
  rw [← hk]
  clear hk
  cases d1 : decide (0 ≤ k) <;> cases d2 : decide (c < 128) <;> cases d3 : decide (0 < c) <;> cases d4 : decide (c < 32) <;> cases d5 : (c != 9) <;> cases d6 : (c != 10)
  all_goals go_enter Tryd.func96, Tryd.ntmps96
  all_goals (go_wp2_with (first | (go_at_call 87; (with_reducible refine (Tryd.strings_IndexByte ⟨#[34, 39, 40, 127, 11]⟩ _ _).mono ?_); rintro e W5 ⟨rfl, rfl⟩; rw [show Lib.indexByte (⟨#[34, 39, 40, 127, 11]⟩ : ByteArray).data.toList _ = k from HS.out]) | fail))
  all_goals go_ret
  all_goals exact ⟨rfl, Below.refl _ _⟩
end Go.Proofs.YtpnlbmeeihbjaabDoor.P
end
section
set_option linter.unusedVariables false
set_option linter.unusedSimpArgs false
namespace Go.Proofs.YtpnlbmeeihbjaabDoor.P
open Go.RowKit Go.Proofs.YtpnlbmeeihbjaabDoorW.PrintWords Go.Proofs.YtpnlbmeeihbjaabDoorW.PrintLast Go.Proofs.YtpnlbmeeihbjaabDoorW.PrintMore
open Go.Lib
attribute [local go_sem] max2_int min2_int max_two min_two max_three min_three max_four min_four
set_option linter.unusedVariables false
set_option linter.unusedSimpArgs false
def urlL : Nat → List Int → Bool × List Int × List Int
  | 0, s => (false, [], s)
  | _ + 1, [] => (false, [], [])
  | n + 1, c :: t => if c = 41 then (false, [], t) else
    if blankB c then (if t.dropWhile blankB ≠ [] ∧ pk (t.dropWhile blankB) 0 ≠ 41 then (true, [], badS (t.dropWhile blankB)) else urlL n (t.dropWhile blankB))
    else if escB (c :: t) 0 then ((urlL n (escd (c :: t)).2).1, (escd (c :: t)).1 :: (urlL n (escd (c :: t)).2).2.1, (urlL n (escd (c :: t)).2).2.2)
    else if (c == 92 || barB c) = true then (true, [], badS (c :: t)) else ((urlL n t).1, c :: (urlL n t).2.1, (urlL n t).2.2)
def urlS (s : List Int) : Bool × List Int × List Int := urlL s.length s
theorem dropW_len (P : Int → Bool) (t : List Int) : (t.dropWhile P).length ≤ t.length := (List.dropWhile_suffix P).length_le
theorem urlL_fuel : ∀ (n m : Nat) (s : List Int), s.length ≤ n → s.length ≤ m → urlL n s = urlL m s
  | 0, 0, _, _, _ => rfl
  | 0, m + 1, s, h, _ => by
    obtain rfl := List.eq_nil_of_length_eq_zero (by omega : s.length = 0)
    rfl
  | n + 1, 0, s, _, h => by
    obtain rfl := List.eq_nil_of_length_eq_zero (by omega : s.length = 0)
    rfl
  | n + 1, m + 1, [], _, _ => rfl
  | n + 1, m + 1, c :: t, h1, h2 => by
    simp only [List.length_cons] at h1 h2
    have he := escd_len c t
    have hd := dropW_len blankB t
    unfold urlL
    rw [urlL_fuel n m t (by omega) (by omega), urlL_fuel n m (escd (c :: t)).2 (by omega) (by omega), urlL_fuel n m (t.dropWhile blankB) (by omega) (by omega)]
theorem urlS_nil : urlS [] = (false, [], []) := rfl
theorem urlS_unf (c : Int) (t : List Int) : urlS (c :: t) = if c = 41 then (false, [], t) else
    if blankB c then (if t.dropWhile blankB ≠ [] ∧ pk (t.dropWhile blankB) 0 ≠ 41 then (true, [], badS (t.dropWhile blankB)) else urlS (t.dropWhile blankB))
    else if escB (c :: t) 0 then ((urlS (escd (c :: t)).2).1, (escd (c :: t)).1 :: (urlS (escd (c :: t)).2).2.1, (urlS (escd (c :: t)).2).2.2)
    else if (c == 92 || barB c) = true then (true, [], badS (c :: t)) else ((urlS t).1, c :: (urlS t).2.1, (urlS t).2.2) := by
  have e1 : urlL t.length (escd (c :: t)).2 = urlS (escd (c :: t)).2 := urlL_fuel _ _ _ (escd_len c t) (Nat.le_refl _)
  have e2 : urlL t.length (t.dropWhile blankB) = urlS (t.dropWhile blankB) := urlL_fuel _ _ _ (dropW_len _ _) (Nat.le_refl _)
  rw [← e1, ← e2]
  rfl
def urlT (s : List Int) : Value := if (urlS (s.dropWhile blankB)).1 then tokV 8 ⟨#[]⟩ ⟨#[]⟩ false false else tokV 7 ⟨(strR (urlS (s.dropWhile blankB)).2.1).toArray⟩ ⟨#[]⟩ false false
def urlR (s : List Int) : List Int := (urlS (s.dropWhile blankB)).2.2
set_option maxHeartbeats 16000000 in
set_option maxRecDepth 100000 in
theorem url_c {w0 w : World} {g : Nat} {L : List Int} {s : List Int} (h : Rdr w0 w g L s) :
    Calls Tryd.prog 86 #[.pointer (some ⟨g, 0, none⟩)] w fun e w' => e = .returned (urlT s) ∧ Rdr w0 w' g L (urlR s) ∧ KeepBut w w' g none := by
  have hu63 := Tryd.underlying63
  have hu26 := Tryd.underlying26
  have hu44 := Tryd.underlying44
  go_enter Tryd.func86, Tryd.ntmps86
  go_upto_region 1 with (fail)
  have hq := blk_new w (.cells #[.int .i64 0, .string ⟨#[]⟩, .string ⟨#[]⟩, .bool false, .bool false] 26)
  have HR : Aside0 (Rdr w0 (w.alloc (.cells #[.int .i64 0, .string ⟨#[]⟩, .string ⟨#[]⟩, .bool false, .bool false] 26)) g L s) := ⟨h.below (below_alloc (Below.refl _ _) _)⟩
  have HK : Aside0 (KeepBut w (w.alloc (.cells #[.int .i64 0, .string ⟨#[]⟩, .string ⟨#[]⟩, .bool false, .bool false] 26)) g none) := ⟨keep_alloc (KeepBut.refl w g none) _⟩
  have HNE : Aside0 (w.heap.size ≠ g ∧ g ≠ w.heap.size ∧ w0.heap.size ≤ w.heap.size) := ⟨by have := h.lt.2; omega, by have := h.lt.2; omega, h.bel.size⟩
  have HQ := Aside0.mk hq
  generalize w.alloc (.cells #[.int .i64 0, .string ⟨#[]⟩, .string ⟨#[]⟩, .bool false, .bool false] 26) = W0 at HR HK HQ ⊢
  obtain ⟨b, hb⟩ : ∃ b, b = w.heap.size := ⟨_, rfl⟩
  have HBD : Aside0 (w.heap.size ≤ b) := ⟨by omega⟩
  rw [← hb] at HNE HQ ⊢
  clear hq h hb
  go_upto_region 2 with (first | (go_at_call 64; (with_reducible refine (space_c HR.out).mono ?_); rintro e W ⟨rfl, hr, hk⟩; skip; have HQ := Aside0.mk (keep_blk hk HQ.out HNE.out.1); have HR := Aside0.mk hr; have HK := Aside0.mk (keep_then HK.out hk); clear hr hk) | fail)
  obtain ⟨s0, hs0⟩ : ∃ s0, s0 = s.dropWhile blankB := ⟨_, rfl⟩
  have HS0 := Aside0.mk hs0.symm
  rw [← hs0] at HR
  clear hs0
  go_upto_region 3 with (fail)
  obtain ⟨B, hB⟩ : ∃ B, B = W.heap.size := ⟨_, rfl⟩
  have hbl := Bld.new W B (by omega)
  have hszW : (W.alloc (.cells #[.pointer none, .slice none 0 0] 44)).heap.size = W.heap.size + 1 := World.size_alloc _ _
  have HGB : Aside0 (g < B ∧ b < B ∧ B ≤ (W.alloc (.cells #[.pointer none, .slice none 0 0] 44)).heap.size ∧ w.heap.size ≤ B) := ⟨by have := HR.out.lt; have := blk_lt HQ.out; have := keep_size HK.out; omega⟩
  have HR2 := Aside0.mk (HR.out.below (below_alloc (Below.refl W.heap.size W) (.cells #[.pointer none, .slice none 0 0] 44)))
  have HK2 := Aside0.mk (keep_alloc HK.out (.cells #[.pointer none, .slice none 0 0] 44))
  have HQ2 := Aside0.mk (blk_below HQ.out (below_alloc (Below.refl W.heap.size W) (.cells #[.pointer none, .slice none 0 0] 44)))
  rw [← hB] at hbl ⊢
  have HBL : Aside0 (Bld (W.alloc (.cells #[.pointer none, .slice none 0 0] 44)) B B (Lib.byteCells (strR []))) := ⟨hbl⟩
  clear hbl hB hszW
  generalize W.alloc (.cells #[.pointer none, .slice none 0 0] 44) = W2 at HR2 HK2 HQ2 HBL HGB ⊢
  have HR := HR2
  have HK := HK2
  have HQ := HQ2
  have HLS : Aside0 (s0.length ≤ 1099511627776) := ⟨by have := HR.out.len; omega⟩
  go_loopg [] (s0.length + 1) (fun kq w' => ∃ r out, Aside0 (urlS s0 = ((urlS r).1, out ++ (urlS r).2.1, (urlS r).2.2)) ∧ Aside0 (r.length < kq) ∧ Aside0 (out.length + r.length ≤ s0.length ∧ s0.length ≤ 1099511627776) ∧ Aside0 (Rdr w0 w' g L r) ∧ Aside0 (KeepBut w w' g none) ∧ Aside0 (Bld w' B B (Lib.byteCells (strR out))) ∧ Aside0 (w'.heap[b]? = some (.cells #[.int .i64 0, .string ⟨#[]⟩, .string ⟨#[]⟩, .bool false, .bool false] 26 (0, 0))) ∧ Aside0 (g < B ∧ b < B ∧ B ≤ w'.heap.size ∧ w.heap.size ≤ B))
  case atStart => exact ⟨s0, [], ⟨rfl⟩, ⟨by omega⟩, ⟨by have := HLS.out; simp; omega⟩, HR, HK, HBL, HQ, HGB⟩
  case round =>
    clear HR2 HK2 HQ2
    clear HR HK HQ HBL HGB
    obtain ⟨r, out, HE, HG, HLN, HR, HK, HBL, HQ, HGB⟩ := hrel
    cases gk with
    | zero => exact absurd HG.out (by omega)
    | succ n =>
      cases r with
      | nil =>
        have HE2 : Aside0 (urlS (s.dropWhile blankB) = (false, out, [])) := ⟨by rw [HS0.out, HE.out, urlS_nil]; simp⟩
        have HI : Aside0 (([] : List Int).isEmpty = true) := ⟨rfl⟩
        go_upto_region 18 with (first | (go_at_call 47; (with_reducible refine (over_c HR.out).mono ?_); rintro e W ⟨rfl, hr, hk⟩; rw [HI.out]; have HQ := Aside0.mk (keep_blk hk HQ.out HNE.out.1); have HBL := Aside0.mk (HBL.out.keep hk HGB.out.1); have HR := Aside0.mk hr; have HGB := Aside0.mk (gb_next HGB.out (keep_size hk)); have HK := Aside0.mk (keep_then HK.out hk); clear hr hk) | fail)
        go_wp2_with (first | (go_at_call 29; (with_reducible refine (bstr _ _ (strR out) _ HBL.out HGB.out.2.2.1).mono ?_); rintro e W ⟨rfl, hb⟩; have HQ := Aside0.mk ((hb.block _ HGB.out.2.1).trans HQ.out); have HR := Aside0.mk (HR.out.bld hb HGB.out.1); have HK := Aside0.mk (keep_bld HK.out hb HGB.out.2.2.2); clear hb; have m0 := (blk_cell HQ.out 0).trans (show _ = some _ from rfl); have n0 := blk_frozen HQ.out 0; have m1 := (blk_cell HQ.out 1).trans (show _ = some _ from rfl); have n1 := blk_frozen HQ.out 1; have m2 := (blk_cell HQ.out 2).trans (show _ = some _ from rfl); have n2 := blk_frozen HQ.out 2; have m3 := (blk_cell HQ.out 3).trans (show _ = some _ from rfl); have n3 := blk_frozen HQ.out 3; have m4 := (blk_cell HQ.out 4).trans (show _ = some _ from rfl); have n4 := blk_frozen HQ.out 4) | fail)
        refine bodyPost_ret (results_cell_row rfl _ _ b 26 #[.int .i64 7, .string ⟨(strR out).toArray⟩, .string ⟨#[]⟩, .bool false, .bool false] (0, 0) _ rfl (tok_put HQ.out _ _ _ _ _) Tryd.underlying26 rfl (by kernel_rfl)) rfl ?_
        exact ⟨by unfold urlT; rw [HE2.out]; rfl, by unfold urlR; rw [HE2.out]; exact HR.out.far5 HNE.out.2.1 HNE.out.2.2 _ _ _ _ _, keep_far5 HK.out HBD.out _ _ _ _ _⟩
      | cons c t =>
        have HI : Aside0 ((c :: t).isEmpty = false) := ⟨rfl⟩
        have HP0 : Aside0 (pk (c :: t) 0 = c) := ⟨rfl⟩
        have HC := Aside0.mk (HR.out.chars c List.mem_cons_self)
        have HU := Aside0.mk (urlS_unf c t)
        by_cases k1 : c = 41
        · have d1 : (c == 41) = true := by simp [k1]
          have HE2 : Aside0 (urlS (s.dropWhile blankB) = (false, out, t)) := ⟨by rw [HS0.out, HE.out, HU.out, if_pos k1]; simp⟩
          clear k1
          go_upto_region 8 with (first | (go_at_call 47; (with_reducible refine (over_c HR.out).mono ?_); rintro e W ⟨rfl, hr, hk⟩; rw [HI.out]; have HQ := Aside0.mk (keep_blk hk HQ.out HNE.out.1); have HBL := Aside0.mk (HBL.out.keep hk HGB.out.1); have HR := Aside0.mk hr; have HGB := Aside0.mk (gb_next HGB.out (keep_size hk)); have HK := Aside0.mk (keep_then HK.out hk); clear hr hk) | (go_at_call 62; (with_reducible refine (peek0_c HR.out).mono ?_); rintro e W ⟨rfl, hr, hk⟩; rw [HP0.out]; have HQ := Aside0.mk (keep_blk hk HQ.out HNE.out.1); have HBL := Aside0.mk (HBL.out.keep hk HGB.out.1); have HR := Aside0.mk hr; have HGB := Aside0.mk (gb_next HGB.out (keep_size hk)); have HK := Aside0.mk (keep_then HK.out hk); clear hr hk) | fail)
          clear d1
          obtain ⟨A, cc, i, q0, q1, z1, hi, _⟩ := HR.out.cells
          have HST : Aside0 (wrap64 (i + 1) = (L.length : Int) - t.length) := ⟨by have := HR.out.len; simp only [List.length_cons] at this hi; unfold wrap64; omega⟩
          clear hi q0
          go_upto_region 9 with (fail)
          have HR2 := Aside0.mk (HR.out.set (List.suffix_cons c t) HST.out)
          have HK2 := Aside0.mk (HK.out.set_ 1 (.int .i64 (wrap64 (i + 1))))
          have HQ2 := Aside0.mk (blk_far HQ.out (p := ⟨g, 1, none⟩) HNE.out.1 (.int .i64 (wrap64 (i + 1))))
          have HBL2 := Aside0.mk (HBL.out.keep ((KeepBut.refl W g none).set_ 1 (.int .i64 (wrap64 (i + 1)))) HGB.out.1)
          have hsz : (W.setCell ⟨g, 1, none⟩ (.int .i64 (wrap64 (i + 1)))).heap.size = W.heap.size := by simp [World.setCell]
          have HGB2 := Aside0.mk (gb_next HGB.out (Nat.le_of_eq hsz.symm))
          clear q1 z1 hsz
          generalize W.setCell ⟨g, 1, none⟩ (.int .i64 (wrap64 (i + 1))) = W1 at HR2 HK2 HQ2 HBL2 HGB2 ⊢
          have HR := HR2
          have HK := HK2
          have HQ := HQ2
          have HBL := HBL2
          have HGB := HGB2
          go_wp2_with (first | (go_at_call 29; (with_reducible refine (bstr _ _ (strR out) _ HBL.out HGB.out.2.2.1).mono ?_); rintro e W ⟨rfl, hb⟩; have HQ := Aside0.mk ((hb.block _ HGB.out.2.1).trans HQ.out); have HR := Aside0.mk (HR.out.bld hb HGB.out.1); have HK := Aside0.mk (keep_bld HK.out hb HGB.out.2.2.2); clear hb; have m0 := (blk_cell HQ.out 0).trans (show _ = some _ from rfl); have n0 := blk_frozen HQ.out 0; have m1 := (blk_cell HQ.out 1).trans (show _ = some _ from rfl); have n1 := blk_frozen HQ.out 1; have m2 := (blk_cell HQ.out 2).trans (show _ = some _ from rfl); have n2 := blk_frozen HQ.out 2; have m3 := (blk_cell HQ.out 3).trans (show _ = some _ from rfl); have n3 := blk_frozen HQ.out 3; have m4 := (blk_cell HQ.out 4).trans (show _ = some _ from rfl); have n4 := blk_frozen HQ.out 4) | fail)
          refine bodyPost_ret (results_cell_row rfl _ _ b 26 #[.int .i64 7, .string ⟨(strR out).toArray⟩, .string ⟨#[]⟩, .bool false, .bool false] (0, 0) _ rfl (tok_put HQ.out _ _ _ _ _) Tryd.underlying26 rfl (by kernel_rfl)) rfl ?_
          exact ⟨by unfold urlT; rw [HE2.out]; rfl, by unfold urlR; rw [HE2.out]; exact HR.out.far5 HNE.out.2.1 HNE.out.2.2 _ _ _ _ _, keep_far5 HK.out HBD.out _ _ _ _ _⟩
        · have d1 : (c == 41) = false := by simp [k1]
          rw [if_neg k1] at HU
          clear k1
          obtain ⟨tb, htb⟩ : ∃ x, x = blankB c := ⟨_, rfl⟩
          have HTB := Aside0.mk htb.symm
          rw [← htb] at HU
          clear htb
          cases tb with
          | true =>
            have HU : Aside0 (urlS (c :: t) = if t.dropWhile blankB ≠ [] ∧ pk (t.dropWhile blankB) 0 ≠ 41 then (true, [], badS (t.dropWhile blankB)) else urlS (t.dropWhile blankB)) := ⟨HU.out⟩
            have HDW : Aside0 ((c :: t).dropWhile blankB = t.dropWhile blankB) := ⟨by rw [List.dropWhile_cons, HTB.out]; rfl⟩
            have HDL := Aside0.mk (dropW_len blankB t)
            generalize t.dropWhile blankB = r' at HU HDW HDL
            go_upto_region 12 with (first | (go_at_call 47; (with_reducible refine (over_c HR.out).mono ?_); rintro e W ⟨rfl, hr, hk⟩; rw [HI.out]; have HQ := Aside0.mk (keep_blk hk HQ.out HNE.out.1); have HBL := Aside0.mk (HBL.out.keep hk HGB.out.1); have HR := Aside0.mk hr; have HGB := Aside0.mk (gb_next HGB.out (keep_size hk)); have HK := Aside0.mk (keep_then HK.out hk); clear hr hk) | (go_at_call 62; (with_reducible refine (peek0_c HR.out).mono ?_); rintro e W ⟨rfl, hr, hk⟩; rw [HP0.out]; have HQ := Aside0.mk (keep_blk hk HQ.out HNE.out.1); have HBL := Aside0.mk (HBL.out.keep hk HGB.out.1); have HR := Aside0.mk hr; have HGB := Aside0.mk (gb_next HGB.out (keep_size hk)); have HK := Aside0.mk (keep_then HK.out hk); clear hr hk) | (go_at_call 63; (with_reducible refine (blank_c c _).mono ?_); rintro e' W ⟨rfl, hb⟩; rw [HTB.out]; have HQ := Aside0.mk (blk_below HQ.out hb); have HBL := Aside0.mk (HBL.out.keep (KeepBut.of_below hb g none) HGB.out.1); have HR := Aside0.mk (HR.out.below hb); have HGB := Aside0.mk (gb_next HGB.out hb.size); have HK := Aside0.mk (keep_then HK.out (KeepBut.of_below hb g none)); clear hb) | (go_at_call 64; (with_reducible refine (space_c HR.out).mono ?_); rintro e W ⟨rfl, hr, hk⟩; skip; have HQ := Aside0.mk (keep_blk hk HQ.out HNE.out.1); have HBL := Aside0.mk (HBL.out.keep hk HGB.out.1); have HR := Aside0.mk hr; have HGB := Aside0.mk (gb_next HGB.out (keep_size hk)); have HK := Aside0.mk (keep_then HK.out hk); clear hr hk) | fail)
            rw [HDW.out] at HR
            clear HI HP0
            cases r' with
            | nil =>
              have HI : Aside0 (([] : List Int).isEmpty = true) := ⟨rfl⟩
              go_wp2_with (first | (go_at_call 47; (with_reducible refine (over_c HR.out).mono ?_); rintro e W ⟨rfl, hr, hk⟩; rw [HI.out]; have HQ := Aside0.mk (keep_blk hk HQ.out HNE.out.1); have HBL := Aside0.mk (HBL.out.keep hk HGB.out.1); have HR := Aside0.mk hr; have HGB := Aside0.mk (gb_next HGB.out (keep_size hk)); have HK := Aside0.mk (keep_then HK.out hk); clear hr hk) | fail)
              go_roundg n
              case measure => have h1 := HG.out; rw [List.length_cons] at h1; omega
              case rel => exact ⟨[], out, ⟨by rw [HE.out, HU.out, if_neg (by simp)]⟩, ⟨by have h1 := HG.out; rw [List.length_cons] at h1; rw [List.length_nil]; omega⟩, ⟨by have h1 := HLN.out; rw [List.length_cons] at h1; rw [List.length_nil]; omega⟩, HR, HK, HBL, HQ, HGB⟩
            | cons c' t' =>
              have HI : Aside0 ((c' :: t').isEmpty = false) := ⟨rfl⟩
              have HP0 : Aside0 (pk (c' :: t') 0 = c') := ⟨rfl⟩
              by_cases k2 : c' = 41
              · have d2 : (c' != 41) = false := by simp [k2]
                have HU2 : Aside0 (urlS (c :: t) = urlS (c' :: t')) := ⟨by rw [HU.out, if_neg (fun hh => hh.2 (by rw [HP0.out]; exact k2))]⟩
                clear k2
                go_wp2_with (first | (go_at_call 47; (with_reducible refine (over_c HR.out).mono ?_); rintro e W ⟨rfl, hr, hk⟩; rw [HI.out]; have HQ := Aside0.mk (keep_blk hk HQ.out HNE.out.1); have HBL := Aside0.mk (HBL.out.keep hk HGB.out.1); have HR := Aside0.mk hr; have HGB := Aside0.mk (gb_next HGB.out (keep_size hk)); have HK := Aside0.mk (keep_then HK.out hk); clear hr hk) | (go_at_call 62; (with_reducible refine (peek0_c HR.out).mono ?_); rintro e W ⟨rfl, hr, hk⟩; rw [HP0.out]; have HQ := Aside0.mk (keep_blk hk HQ.out HNE.out.1); have HBL := Aside0.mk (HBL.out.keep hk HGB.out.1); have HR := Aside0.mk hr; have HGB := Aside0.mk (gb_next HGB.out (keep_size hk)); have HK := Aside0.mk (keep_then HK.out hk); clear hr hk) | fail)
                go_roundg n
                case measure => have h1 := HG.out; have h2 := HDL.out; rw [List.length_cons] at h1; omega
                case rel => exact ⟨c' :: t', out, ⟨by rw [HE.out, HU2.out]⟩, ⟨by have h1 := HG.out; have h2 := HDL.out; rw [List.length_cons] at h1; omega⟩, ⟨by have h1 := HLN.out; have h2 := HDL.out; rw [List.length_cons] at h1; omega⟩, HR, HK, HBL, HQ, HGB⟩
              · have d2 : (c' != 41) = true := by simp [k2]
                have HE2 : Aside0 (urlS (s.dropWhile blankB) = (true, out, badS (c' :: t'))) := ⟨by rw [HS0.out, HE.out, HU.out, if_pos ⟨by simp, by rw [HP0.out]; exact k2⟩]; simp⟩
                clear k2
                go_wp2_with (first | (go_at_call 47; (with_reducible refine (over_c HR.out).mono ?_); rintro e W ⟨rfl, hr, hk⟩; rw [HI.out]; have HQ := Aside0.mk (keep_blk hk HQ.out HNE.out.1); have HBL := Aside0.mk (HBL.out.keep hk HGB.out.1); have HR := Aside0.mk hr; have HGB := Aside0.mk (gb_next HGB.out (keep_size hk)); have HK := Aside0.mk (keep_then HK.out hk); clear hr hk) | (go_at_call 62; (with_reducible refine (peek0_c HR.out).mono ?_); rintro e W ⟨rfl, hr, hk⟩; rw [HP0.out]; have HQ := Aside0.mk (keep_blk hk HQ.out HNE.out.1); have HBL := Aside0.mk (HBL.out.keep hk HGB.out.1); have HR := Aside0.mk hr; have HGB := Aside0.mk (gb_next HGB.out (keep_size hk)); have HK := Aside0.mk (keep_then HK.out hk); clear hr hk) | (go_at_call 95; (with_reducible refine (spoilt_c HR.out).mono ?_); rintro e W ⟨rfl, hr, hk⟩; (unfold tokV); have HQ := Aside0.mk (keep_blk hk HQ.out HNE.out.1); have HBL := Aside0.mk (HBL.out.keep hk HGB.out.1); have HR := Aside0.mk hr; have HGB := Aside0.mk (gb_next HGB.out (keep_size hk)); have HK := Aside0.mk (keep_then HK.out hk); clear hr hk; have m0 := (blk_cell HQ.out 0).trans (show _ = some _ from rfl); have n0 := blk_frozen HQ.out 0; have m1 := (blk_cell HQ.out 1).trans (show _ = some _ from rfl); have n1 := blk_frozen HQ.out 1; have m2 := (blk_cell HQ.out 2).trans (show _ = some _ from rfl); have n2 := blk_frozen HQ.out 2; have m3 := (blk_cell HQ.out 3).trans (show _ = some _ from rfl); have n3 := blk_frozen HQ.out 3; have m4 := (blk_cell HQ.out 4).trans (show _ = some _ from rfl); have n4 := blk_frozen HQ.out 4) | fail)
                refine bodyPost_ret (results_cell_row rfl _ _ b 26 #[.int .i64 8, .string ⟨#[]⟩, .string ⟨#[]⟩, .bool false, .bool false] (0, 0) _ rfl (tok_put HQ.out _ _ _ _ _) Tryd.underlying26 rfl (by kernel_rfl)) rfl ?_
                exact ⟨by unfold urlT; rw [HE2.out]; rfl, by unfold urlR; rw [HE2.out]; exact HR.out.far5 HNE.out.2.1 HNE.out.2.2 _ _ _ _ _, keep_far5 HK.out HBD.out _ _ _ _ _⟩
          | false =>
            obtain ⟨t2, ht2⟩ : ∃ b, b = escB (c :: t) 0 := ⟨_, rfl⟩
            have HT := Aside0.mk ht2.symm
            rw [← ht2] at HU
            clear ht2
            cases t2 with
            | true =>
              have HEL := Aside0.mk (escd_len c t)
              have HER := Aside0.mk (escd_range c t (fun x hx => HR.out.chars x (List.mem_cons_of_mem _ hx)))
              obtain ⟨e, he⟩ : ∃ e, e = escd (c :: t) := ⟨_, rfl⟩
              have HQE := Aside0.mk he.symm
              rw [← he] at HEL HER HU
              clear he
              go_wp2_with (first | (go_at_call 47; (with_reducible refine (over_c HR.out).mono ?_); rintro e W ⟨rfl, hr, hk⟩; rw [HI.out]; have HQ := Aside0.mk (keep_blk hk HQ.out HNE.out.1); have HBL := Aside0.mk (HBL.out.keep hk HGB.out.1); have HR := Aside0.mk hr; have HGB := Aside0.mk (gb_next HGB.out (keep_size hk)); have HK := Aside0.mk (keep_then HK.out hk); clear hr hk) | (go_at_call 62; (with_reducible refine (peek0_c HR.out).mono ?_); rintro e W ⟨rfl, hr, hk⟩; rw [HP0.out]; have HQ := Aside0.mk (keep_blk hk HQ.out HNE.out.1); have HBL := Aside0.mk (HBL.out.keep hk HGB.out.1); have HR := Aside0.mk hr; have HGB := Aside0.mk (gb_next HGB.out (keep_size hk)); have HK := Aside0.mk (keep_then HK.out hk); clear hr hk) | (go_at_call 63; (with_reducible refine (blank_c c _).mono ?_); rintro e' W ⟨rfl, hb⟩; rw [HTB.out]; have HQ := Aside0.mk (blk_below HQ.out hb); have HBL := Aside0.mk (HBL.out.keep (KeepBut.of_below hb g none) HGB.out.1); have HR := Aside0.mk (HR.out.below hb); have HGB := Aside0.mk (gb_next HGB.out hb.size); have HK := Aside0.mk (keep_then HK.out (KeepBut.of_below hb g none)); clear hb) | (go_at_call 66; (with_reducible refine (esc0_c HR.out).mono ?_); rintro e W ⟨rfl, hr, hk⟩; rw [HT.out]; have HQ := Aside0.mk (keep_blk hk HQ.out HNE.out.1); have HBL := Aside0.mk (HBL.out.keep hk HGB.out.1); have HR := Aside0.mk hr; have HGB := Aside0.mk (gb_next HGB.out (keep_size hk)); have HK := Aside0.mk (keep_then HK.out hk); clear hr hk) | (go_at_call 83; (with_reducible refine (escd_c c HR.out).mono ?_); rw [HQE.out]; rintro e' W ⟨rfl, hr, hk⟩; have HQ := Aside0.mk (keep_blk hk HQ.out HNE.out.1); have HBL := Aside0.mk (HBL.out.keep hk HGB.out.1); have HR := Aside0.mk hr; have HGB := Aside0.mk (gb_next HGB.out (keep_size hk)); have HK := Aside0.mk (keep_then HK.out hk); clear hr hk) | (go_at_call 52; (with_reducible refine (bwrune _ _ _ e.1 (by have := HER.out; omega) (by have := HER.out; omega) _ HBL.out (by have := HLN.out; have := strR_len out; have := HR.out.len; rw [Lib.byteCells_length]; omega) HGB.out.2.2.1).mono ?_); rintro e W ⟨uu, rfl, hbl, hb⟩; rw [bld_snoc] at hbl; have HBL := Aside0.mk hbl; have HQ := Aside0.mk ((hb.block _ HGB.out.2.1).trans HQ.out); have HGB := Aside0.mk (gb_next HGB.out hb.size); have HR := Aside0.mk (HR.out.bld hb HGB.out.1); have HK := Aside0.mk (keep_bld HK.out hb HGB.out.2.2.2); clear hbl hb) | fail)
              go_roundg n
              case measure => have h1 := HG.out; have h2 := HEL.out; rw [List.length_cons] at h1; omega
              case rel => exact ⟨e.2, out ++ [e.1], ⟨by rw [HE.out, HU.out]; simp⟩, ⟨by have h1 := HG.out; have h2 := HEL.out; rw [List.length_cons] at h1; omega⟩, ⟨by have h1 := HLN.out; have h2 := HEL.out; rw [List.length_cons] at h1; rw [List.length_append, List.length_singleton]; omega⟩, HR, HK, HBL, HQ, HGB⟩
            | false =>
              obtain ⟨tr, htr⟩ : ∃ b, b = barB c := ⟨_, rfl⟩
              have HTR := Aside0.mk htr.symm
              rw [← htr] at HU
              clear htr
              have HU : Aside0 (urlS (c :: t) = if (c == 92 || tr) = true then (true, [], badS (c :: t)) else ((urlS t).1, c :: (urlS t).2.1, (urlS t).2.2)) := ⟨HU.out⟩
              cases d3 : (c == 92) with
              | true =>
                have HE2 : Aside0 (urlS (s.dropWhile blankB) = (true, out, badS (c :: t))) := ⟨by rw [HS0.out, HE.out, HU.out, if_pos (by rw [d3]; rfl)]; simp⟩
                go_wp2_with (first | (go_at_call 47; (with_reducible refine (over_c HR.out).mono ?_); rintro e W ⟨rfl, hr, hk⟩; rw [HI.out]; have HQ := Aside0.mk (keep_blk hk HQ.out HNE.out.1); have HBL := Aside0.mk (HBL.out.keep hk HGB.out.1); have HR := Aside0.mk hr; have HGB := Aside0.mk (gb_next HGB.out (keep_size hk)); have HK := Aside0.mk (keep_then HK.out hk); clear hr hk) | (go_at_call 62; (with_reducible refine (peek0_c HR.out).mono ?_); rintro e W ⟨rfl, hr, hk⟩; rw [HP0.out]; have HQ := Aside0.mk (keep_blk hk HQ.out HNE.out.1); have HBL := Aside0.mk (HBL.out.keep hk HGB.out.1); have HR := Aside0.mk hr; have HGB := Aside0.mk (gb_next HGB.out (keep_size hk)); have HK := Aside0.mk (keep_then HK.out hk); clear hr hk) | (go_at_call 63; (with_reducible refine (blank_c c _).mono ?_); rintro e' W ⟨rfl, hb⟩; rw [HTB.out]; have HQ := Aside0.mk (blk_below HQ.out hb); have HBL := Aside0.mk (HBL.out.keep (KeepBut.of_below hb g none) HGB.out.1); have HR := Aside0.mk (HR.out.below hb); have HGB := Aside0.mk (gb_next HGB.out hb.size); have HK := Aside0.mk (keep_then HK.out (KeepBut.of_below hb g none)); clear hb) | (go_at_call 66; (with_reducible refine (esc0_c HR.out).mono ?_); rintro e W ⟨rfl, hr, hk⟩; rw [HT.out]; have HQ := Aside0.mk (keep_blk hk HQ.out HNE.out.1); have HBL := Aside0.mk (HBL.out.keep hk HGB.out.1); have HR := Aside0.mk hr; have HGB := Aside0.mk (gb_next HGB.out (keep_size hk)); have HK := Aside0.mk (keep_then HK.out hk); clear hr hk) | (go_at_call 95; (with_reducible refine (spoilt_c HR.out).mono ?_); rintro e W ⟨rfl, hr, hk⟩; (unfold tokV); have HQ := Aside0.mk (keep_blk hk HQ.out HNE.out.1); have HBL := Aside0.mk (HBL.out.keep hk HGB.out.1); have HR := Aside0.mk hr; have HGB := Aside0.mk (gb_next HGB.out (keep_size hk)); have HK := Aside0.mk (keep_then HK.out hk); clear hr hk; have m0 := (blk_cell HQ.out 0).trans (show _ = some _ from rfl); have n0 := blk_frozen HQ.out 0; have m1 := (blk_cell HQ.out 1).trans (show _ = some _ from rfl); have n1 := blk_frozen HQ.out 1; have m2 := (blk_cell HQ.out 2).trans (show _ = some _ from rfl); have n2 := blk_frozen HQ.out 2; have m3 := (blk_cell HQ.out 3).trans (show _ = some _ from rfl); have n3 := blk_frozen HQ.out 3; have m4 := (blk_cell HQ.out 4).trans (show _ = some _ from rfl); have n4 := blk_frozen HQ.out 4) | fail)
                refine bodyPost_ret (results_cell_row rfl _ _ b 26 #[.int .i64 8, .string ⟨#[]⟩, .string ⟨#[]⟩, .bool false, .bool false] (0, 0) _ rfl (tok_put HQ.out _ _ _ _ _) Tryd.underlying26 rfl (by kernel_rfl)) rfl ?_
                exact ⟨by unfold urlT; rw [HE2.out]; rfl, by unfold urlR; rw [HE2.out]; exact HR.out.far5 HNE.out.2.1 HNE.out.2.2 _ _ _ _ _, keep_far5 HK.out HBD.out _ _ _ _ _⟩
              | false =>
                cases tr with
                | true =>
                  have HE2 : Aside0 (urlS (s.dropWhile blankB) = (true, out, badS (c :: t))) := ⟨by rw [HS0.out, HE.out, HU.out, if_pos (by simp)]; simp⟩
                  go_wp2_with (first | (go_at_call 47; (with_reducible refine (over_c HR.out).mono ?_); rintro e W ⟨rfl, hr, hk⟩; rw [HI.out]; have HQ := Aside0.mk (keep_blk hk HQ.out HNE.out.1); have HBL := Aside0.mk (HBL.out.keep hk HGB.out.1); have HR := Aside0.mk hr; have HGB := Aside0.mk (gb_next HGB.out (keep_size hk)); have HK := Aside0.mk (keep_then HK.out hk); clear hr hk) | (go_at_call 62; (with_reducible refine (peek0_c HR.out).mono ?_); rintro e W ⟨rfl, hr, hk⟩; rw [HP0.out]; have HQ := Aside0.mk (keep_blk hk HQ.out HNE.out.1); have HBL := Aside0.mk (HBL.out.keep hk HGB.out.1); have HR := Aside0.mk hr; have HGB := Aside0.mk (gb_next HGB.out (keep_size hk)); have HK := Aside0.mk (keep_then HK.out hk); clear hr hk) | (go_at_call 63; (with_reducible refine (blank_c c _).mono ?_); rintro e' W ⟨rfl, hb⟩; rw [HTB.out]; have HQ := Aside0.mk (blk_below HQ.out hb); have HBL := Aside0.mk (HBL.out.keep (KeepBut.of_below hb g none) HGB.out.1); have HR := Aside0.mk (HR.out.below hb); have HGB := Aside0.mk (gb_next HGB.out hb.size); have HK := Aside0.mk (keep_then HK.out (KeepBut.of_below hb g none)); clear hb) | (go_at_call 66; (with_reducible refine (esc0_c HR.out).mono ?_); rintro e W ⟨rfl, hr, hk⟩; rw [HT.out]; have HQ := Aside0.mk (keep_blk hk HQ.out HNE.out.1); have HBL := Aside0.mk (HBL.out.keep hk HGB.out.1); have HR := Aside0.mk hr; have HGB := Aside0.mk (gb_next HGB.out (keep_size hk)); have HK := Aside0.mk (keep_then HK.out hk); clear hr hk) | (go_at_call 96; (with_reducible refine (bars_c c _).mono ?_); rintro e' W ⟨rfl, hb⟩; rw [HTR.out]; have HQ := Aside0.mk (blk_below HQ.out hb); have HBL := Aside0.mk (HBL.out.keep (KeepBut.of_below hb g none) HGB.out.1); have HR := Aside0.mk (HR.out.below hb); have HGB := Aside0.mk (gb_next HGB.out hb.size); have HK := Aside0.mk (keep_then HK.out (KeepBut.of_below hb g none)); clear hb) | (go_at_call 95; (with_reducible refine (spoilt_c HR.out).mono ?_); rintro e W ⟨rfl, hr, hk⟩; (unfold tokV); have HQ := Aside0.mk (keep_blk hk HQ.out HNE.out.1); have HBL := Aside0.mk (HBL.out.keep hk HGB.out.1); have HR := Aside0.mk hr; have HGB := Aside0.mk (gb_next HGB.out (keep_size hk)); have HK := Aside0.mk (keep_then HK.out hk); clear hr hk; have m0 := (blk_cell HQ.out 0).trans (show _ = some _ from rfl); have n0 := blk_frozen HQ.out 0; have m1 := (blk_cell HQ.out 1).trans (show _ = some _ from rfl); have n1 := blk_frozen HQ.out 1; have m2 := (blk_cell HQ.out 2).trans (show _ = some _ from rfl); have n2 := blk_frozen HQ.out 2; have m3 := (blk_cell HQ.out 3).trans (show _ = some _ from rfl); have n3 := blk_frozen HQ.out 3; have m4 := (blk_cell HQ.out 4).trans (show _ = some _ from rfl); have n4 := blk_frozen HQ.out 4) | fail)
                  refine bodyPost_ret (results_cell_row rfl _ _ b 26 #[.int .i64 8, .string ⟨#[]⟩, .string ⟨#[]⟩, .bool false, .bool false] (0, 0) _ rfl (tok_put HQ.out _ _ _ _ _) Tryd.underlying26 rfl (by kernel_rfl)) rfl ?_
                  exact ⟨by unfold urlT; rw [HE2.out]; rfl, by unfold urlR; rw [HE2.out]; exact HR.out.far5 HNE.out.2.1 HNE.out.2.2 _ _ _ _ _, keep_far5 HK.out HBD.out _ _ _ _ _⟩
                | false =>
                  rw [if_neg (by rw [d3]; simp)] at HU
                  go_upto_region 6 with (first | (go_at_call 47; (with_reducible refine (over_c HR.out).mono ?_); rintro e W ⟨rfl, hr, hk⟩; rw [HI.out]; have HQ := Aside0.mk (keep_blk hk HQ.out HNE.out.1); have HBL := Aside0.mk (HBL.out.keep hk HGB.out.1); have HR := Aside0.mk hr; have HGB := Aside0.mk (gb_next HGB.out (keep_size hk)); have HK := Aside0.mk (keep_then HK.out hk); clear hr hk) | (go_at_call 62; (with_reducible refine (peek0_c HR.out).mono ?_); rintro e W ⟨rfl, hr, hk⟩; rw [HP0.out]; have HQ := Aside0.mk (keep_blk hk HQ.out HNE.out.1); have HBL := Aside0.mk (HBL.out.keep hk HGB.out.1); have HR := Aside0.mk hr; have HGB := Aside0.mk (gb_next HGB.out (keep_size hk)); have HK := Aside0.mk (keep_then HK.out hk); clear hr hk) | (go_at_call 63; (with_reducible refine (blank_c c _).mono ?_); rintro e' W ⟨rfl, hb⟩; rw [HTB.out]; have HQ := Aside0.mk (blk_below HQ.out hb); have HBL := Aside0.mk (HBL.out.keep (KeepBut.of_below hb g none) HGB.out.1); have HR := Aside0.mk (HR.out.below hb); have HGB := Aside0.mk (gb_next HGB.out hb.size); have HK := Aside0.mk (keep_then HK.out (KeepBut.of_below hb g none)); clear hb) | (go_at_call 66; (with_reducible refine (esc0_c HR.out).mono ?_); rintro e W ⟨rfl, hr, hk⟩; rw [HT.out]; have HQ := Aside0.mk (keep_blk hk HQ.out HNE.out.1); have HBL := Aside0.mk (HBL.out.keep hk HGB.out.1); have HR := Aside0.mk hr; have HGB := Aside0.mk (gb_next HGB.out (keep_size hk)); have HK := Aside0.mk (keep_then HK.out hk); clear hr hk) | (go_at_call 96; (with_reducible refine (bars_c c _).mono ?_); rintro e' W ⟨rfl, hb⟩; rw [HTR.out]; have HQ := Aside0.mk (blk_below HQ.out hb); have HBL := Aside0.mk (HBL.out.keep (KeepBut.of_below hb g none) HGB.out.1); have HR := Aside0.mk (HR.out.below hb); have HGB := Aside0.mk (gb_next HGB.out hb.size); have HK := Aside0.mk (keep_then HK.out (KeepBut.of_below hb g none)); clear hb) | (go_at_call 52; (with_reducible refine (bwrune _ _ _ c (by have := HC.out; omega) (by have := HC.out; omega) _ HBL.out (by have := HLN.out; have := strR_len out; have := HR.out.len; rw [Lib.byteCells_length]; omega) HGB.out.2.2.1).mono ?_); rintro e W ⟨uu, rfl, hbl, hb⟩; rw [bld_snoc] at hbl; have HBL := Aside0.mk hbl; have HQ := Aside0.mk ((hb.block _ HGB.out.2.1).trans HQ.out); have HGB := Aside0.mk (gb_next HGB.out hb.size); have HR := Aside0.mk (HR.out.bld hb HGB.out.1); have HK := Aside0.mk (keep_bld HK.out hb HGB.out.2.2.2); clear hbl hb) | fail)
                  obtain ⟨A, cc, i, q0, q1, z1, hi, _⟩ := HR.out.cells
                  have HST : Aside0 (wrap64 (i + 1) = (L.length : Int) - t.length) := ⟨by have := HR.out.len; simp only [List.length_cons] at this hi; unfold wrap64; omega⟩
                  clear hi q0
                  go_wp2_with fail
                  go_roundg n
                  case measure => have h1 := HG.out; rw [List.length_cons] at h1; omega
                  case rel => exact ⟨t, out ++ [c], ⟨by rw [HE.out, HU.out]; simp⟩, ⟨by have h1 := HG.out; rw [List.length_cons] at h1; omega⟩, ⟨by have h1 := HLN.out; rw [List.length_cons] at h1; rw [List.length_append, List.length_singleton]; omega⟩, ⟨HR.out.set (List.suffix_cons c t) HST.out⟩, ⟨HK.out.set_ 1 _⟩, ⟨HBL.out.keep ((KeepBut.refl _ g none).set_ 1 _) HGB.out.1⟩, ⟨blk_far HQ.out (p := ⟨g, 1, none⟩) HNE.out.1 _⟩, ⟨gb_next HGB.out (by simp [World.setCell])⟩⟩
end Go.Proofs.YtpnlbmeeihbjaabDoor.P
end
section
set_option linter.unusedVariables false
set_option linter.unusedSimpArgs false
namespace Go.Proofs.YtpnlbmeeihbjaabDoor.P
open Go.RowKit Go.Proofs.YtpnlbmeeihbjaabDoorW.PrintWords Go.Proofs.YtpnlbmeeihbjaabDoorW.PrintLast Go.Proofs.YtpnlbmeeihbjaabDoorW.PrintMore
open Go.Lib
attribute [local go_sem] max2_int min2_int max_two min_two max_three min_three max_four min_four
set_option linter.unusedVariables false
set_option linter.unusedSimpArgs false
theorem nameL_len : ∀ (n : Nat) (s : List Int), (nameL n s).1.length ≤ s.length
  | 0, s => Nat.zero_le _
  | n + 1, [] => Nat.le_refl _
  | n + 1, c :: t => by
    unfold nameL
    split
    · have := nameL_len n t; simp only [List.length_cons]; omega
    · split
      · have := nameL_len n (escd (c :: t)).2; have := escd_len c t; simp only [List.length_cons]; omega
      · simp
theorem nameS_len (s : List Int) : (nameS s).1.length ≤ s.length := nameL_len _ s
def urlB (s : List Int) : Bool := (foldS ⟨(strR (nameS s).1).toArray⟩).toList == [117, 114, 108] && (pk ((nameS s).2.tail.dropWhile blankB) 0 != 34 && pk ((nameS s).2.tail.dropWhile blankB) 0 != 39)
def wordT (s : List Int) : Value := if pk (nameS s).2 0 ≠ 40 then tokV 1 ⟨(strR (nameS s).1).toArray⟩ ⟨#[]⟩ false false else if urlB s then urlT (nameS s).2.tail else tokV 2 ⟨(strR (nameS s).1).toArray⟩ ⟨#[]⟩ false false
def wordR (s : List Int) : List Int := if pk (nameS s).2 0 ≠ 40 then (nameS s).2 else if urlB s then urlR (nameS s).2.tail else (nameS s).2.tail
theorem urlT_agg (s : List Int) : ∃ (k : Int) (x : ByteArray), urlT s = .agg #[.int .i64 k, .string x, .string ⟨#[]⟩, .bool false, .bool false] := by
  unfold urlT tokV
  split
  · exact ⟨_, _, rfl⟩
  · exact ⟨_, _, rfl⟩
section
variable {w0 w w1 : World} {g g' : Nat} {L s : List Int}
theorem Rdr.copy (h : Rdr w0 w g L s) {A : Option Addr} {cc : Nat} {i : Int} (q0 : w.cell? ⟨g, 0, none⟩ = some (.slice A L.length cc)) (q1 : w.cell? ⟨g, 1, none⟩ = some (.int .i64 i)) : Rdr w0 (w.alloc (.cells #[.slice A L.length cc, .int .i64 i] 63)) w.heap.size L s := by
  obtain ⟨p, hp, A', c', hb, hgc, hC⟩ := h.st
  have e := cellS63_0 hb
  have e' := cellS63_1 hb
  rw [q0] at e
  rw [q1] at e'
  injection e with e
  injection e with e1 e2 e3
  injection e' with e'
  injection e' with _ e4
  subst e1 e3 e4
  exact ⟨⟨p, hp, _, _, blk_new w _, ⟨h.bel.size, hgc.2⟩, hC⟩, below_alloc h.bel _, h.ok⟩
theorem Rdr.other (h : Rdr w0 w g L s) (hk : KeepBut w w1 g' none) (hne : g ≠ g') (hb : Below w0.heap.size w0 w1) : Rdr w0 w1 g L s := by
  obtain ⟨p, hp, A', c', hbk, hgc, hC⟩ := h.st
  exact ⟨⟨p, hp, A', c', hk.blk hbk hne (by simp), hgc, hC⟩, hb, h.ok⟩
theorem keep_other {wa : World} (h : KeepBut wa w g none) (hk : KeepBut w w1 g' none) (hg : wa.heap.size ≤ g') : KeepBut wa w1 g none :=
  ⟨Nat.le_trans h.1 hk.1, fun i hi hne hr => (hk.2 i (by have := h.1; omega) (by omega) hr).trans (h.2 i hi hne hr)⟩
end
set_option maxHeartbeats 16000000 in
set_option maxRecDepth 100000 in
theorem word_c {w0 w : World} {g : Nat} {L s : List Int} (h : Rdr w0 w g L s) :
    Calls Tryd.prog 73 #[.pointer (some ⟨g, 0, none⟩)] w fun e w' => e = .returned (wordT s) ∧ Rdr w0 w' g L (wordR s) ∧ KeepBut w w' g none := by
  have hu63 := Tryd.underlying63
  have hu26 := Tryd.underlying26
  have HSL := Aside0.mk h.len
  obtain ⟨nm, hnm⟩ : ∃ x : ByteArray, x = ⟨(strR (nameS s).1).toArray⟩ := ⟨_, rfl⟩
  have HNM : Aside0 ((⟨(strR (nameS s).1).toArray⟩ : ByteArray) = nm) := ⟨hnm.symm⟩
  have HNS : Aside0 (nm.size ≤ 140737488351232) := ⟨by
    rw [hnm]
    have h1 := strR_len (nameS s).1
    have h2 := nameS_len s
    have h3 := h.len
    show (strR (nameS s).1).toArray.size ≤ _
    rw [List.size_toArray]
    omega⟩
  obtain ⟨r, hr⟩ : ∃ x, x = (nameS s).2 := ⟨_, rfl⟩
  have HRS := Aside0.mk hr.symm
  have HWT : Aside0 (wordT s = if pk r 0 ≠ 40 then tokV 1 nm ⟨#[]⟩ false false else if urlB s then urlT r.tail else tokV 2 nm ⟨#[]⟩ false false) := ⟨by unfold wordT; rw [HNM.out, ← hr]⟩
  have HWR : Aside0 (wordR s = if pk r 0 ≠ 40 then r else if urlB s then urlR r.tail else r.tail) := ⟨by unfold wordR; rw [← hr]⟩
  have HUB : Aside0 (urlB s = ((foldS nm).toList == [117, 114, 108] && (pk (r.tail.dropWhile blankB) 0 != 34 && pk (r.tail.dropWhile blankB) 0 != 39))) := ⟨by unfold urlB; rw [HNM.out, ← hr]⟩
  clear hr hnm
  go_enter Tryd.func73, Tryd.ntmps73
  go_upto_region 1 with (fail)
  have hq := blk_new w (.cells #[.int .i64 0, .string ⟨#[]⟩, .string ⟨#[]⟩, .bool false, .bool false] 26)
  have HR : Aside0 (Rdr w0 (w.alloc (.cells #[.int .i64 0, .string ⟨#[]⟩, .string ⟨#[]⟩, .bool false, .bool false] 26)) g L s) := ⟨h.below (below_alloc (Below.refl _ _) _)⟩
  have HK : Aside0 (KeepBut w (w.alloc (.cells #[.int .i64 0, .string ⟨#[]⟩, .string ⟨#[]⟩, .bool false, .bool false] 26)) g none) := ⟨keep_alloc (KeepBut.refl w g none) _⟩
  have HNE : Aside0 (w.heap.size ≠ g ∧ g ≠ w.heap.size ∧ w0.heap.size ≤ w.heap.size) := ⟨by have := h.lt.2; omega, by have := h.lt.2; omega, h.bel.size⟩
  have HQ := Aside0.mk hq
  generalize w.alloc (.cells #[.int .i64 0, .string ⟨#[]⟩, .string ⟨#[]⟩, .bool false, .bool false] 26) = W0 at HR HK HQ ⊢
  obtain ⟨b, hb⟩ : ∃ b, b = w.heap.size := ⟨_, rfl⟩
  have HBD : Aside0 (w.heap.size ≤ b) := ⟨by omega⟩
  rw [← hb] at HNE HQ ⊢
  clear hq h hb
  go_upto_region 2 with (first | (go_at_call 84; (with_reducible refine (name_c HR.out).mono ?_); rw [HNM.out]; rintro e W ⟨rfl, hr, hk⟩; have HQ := Aside0.mk (keep_blk hk HQ.out HNE.out.1); have HR := Aside0.mk hr; have HK := Aside0.mk (keep_then HK.out hk); clear hr hk) | fail)
  rw [HRS.out] at HR
  have hq := blk_new W (.cells #[.int .i64 1, .string nm, .string ⟨#[]⟩, .bool false, .bool false] 26)
  have HNE3 : Aside0 (W.heap.size ≠ g ∧ g ≠ W.heap.size ∧ w0.heap.size ≤ W.heap.size ∧ b ≠ W.heap.size ∧ w.heap.size ≤ W.heap.size) := ⟨by have := HR.out.lt; have := blk_lt HQ.out; have := keep_size HK.out; have := HR.out.bel.size; omega⟩
  have HR2 := Aside0.mk (HR.out.below (below_alloc (Below.refl W.heap.size W) (.cells #[.int .i64 1, .string nm, .string ⟨#[]⟩, .bool false, .bool false] 26)))
  have HK2 := Aside0.mk (keep_alloc HK.out (.cells #[.int .i64 1, .string nm, .string ⟨#[]⟩, .bool false, .bool false] 26))
  have HQ2 := Aside0.mk (blk_below HQ.out (below_alloc (Below.refl W.heap.size W) (.cells #[.int .i64 1, .string nm, .string ⟨#[]⟩, .bool false, .bool false] 26)))
  have HQ3 := Aside0.mk hq
  clear hq
  generalize W.alloc (.cells #[.int .i64 1, .string nm, .string ⟨#[]⟩, .bool false, .bool false] 26) = W2 at HR2 HK2 HQ2 HQ3 ⊢
  generalize W.heap.size = b2 at HNE3 HQ3 ⊢
  have HR := HR2
  have HK := HK2
  have HQ := HQ2
  obtain ⟨p0, hp0⟩ : ∃ x, x = pk r 0 := ⟨_, rfl⟩
  have HP0 := Aside0.mk hp0.symm
  by_cases k1 : p0 = 40
  · have d1 : (p0 != 40) = false := by simp [k1]
    obtain ⟨c, t, hct⟩ : ∃ c t, r = c :: t := by
      cases r with
      | nil => rw [hp0] at k1; simp [pk] at k1
      | cons c t => exact ⟨c, t, rfl⟩
    subst hct
    have HWT : Aside0 (wordT s = if urlB s then urlT t else tokV 2 nm ⟨#[]⟩ false false) := ⟨by rw [HWT.out, if_neg (by rw [← hp0]; omega)]; rfl⟩
    have HWR : Aside0 (wordR s = if urlB s then urlR t else t) := ⟨by rw [HWR.out, if_neg (by rw [← hp0]; omega)]; rfl⟩
    have HUB : Aside0 (urlB s = ((foldS nm).toList == [117, 114, 108] && (pk (t.dropWhile blankB) 0 != 34 && pk (t.dropWhile blankB) 0 != 39))) := ⟨HUB.out⟩
    clear hp0 k1
    go_upto_region 4 with (first | (go_at_call 62; (with_reducible refine (peek0_c HR.out).mono ?_); rintro e W ⟨rfl, hr, hk⟩; rw [HP0.out]; have HQ := Aside0.mk (keep_blk hk HQ.out HNE.out.1); have HQ3 := Aside0.mk (keep_blk hk HQ3.out HNE3.out.1); have HR := Aside0.mk hr; have HK := Aside0.mk (keep_then HK.out hk); clear hr hk) | fail)
    clear d1
    obtain ⟨A, cc, i, q0, q1, z1, hi, _⟩ := HR.out.cells
    have HST : Aside0 (wrap64 (i + 1) = (L.length : Int) - t.length) := ⟨by have := HR.out.len; simp only [List.length_cons] at this hi; unfold wrap64; omega⟩
    clear hi q0
    go_upto_region 5 with (fail)
    have HR2 := Aside0.mk (HR.out.set (List.suffix_cons c t) HST.out)
    have HK2 := Aside0.mk (HK.out.set_ 1 (.int .i64 (wrap64 (i + 1))))
    have HQ2 := Aside0.mk (blk_far HQ.out (p := ⟨g, 1, none⟩) HNE.out.1 (.int .i64 (wrap64 (i + 1))))
    have HQ32 := Aside0.mk (blk_far HQ3.out (p := ⟨g, 1, none⟩) HNE3.out.1 (.int .i64 (wrap64 (i + 1))))
    clear q1 z1
    generalize W.setCell ⟨g, 1, none⟩ (.int .i64 (wrap64 (i + 1))) = W1 at HR2 HK2 HQ2 HQ32 ⊢
    have HR := HR2
    have HK := HK2
    have HQ := HQ2
    have HQ3 := HQ32
    have e0 := (blk_cell HQ3.out 0).trans (show _ = some _ from rfl)
    have n0 := blk_frozen HQ3.out 0
    go_upto_region 6 with (fail)
    have HR2 := Aside0.mk (HR.out.far HNE3.out.2.1 HNE3.out.2.2.1 0 (.int .i64 2))
    have HK2 := Aside0.mk (keep_far HK.out (p := ⟨b2, 0, none⟩) HNE3.out.2.2.2.2 (.int .i64 2))
    have HQ2 := Aside0.mk (blk_far HQ.out (p := ⟨b2, 0, none⟩) HNE3.out.2.2.2.1 (.int .i64 2))
    have HQ32 := Aside0.mk (blk_put HQ3.out 0 (.int .i64 2) (cs' := #[.int .i64 2, .string nm, .string ⟨#[]⟩, .bool false, .bool false]) rfl)
    clear e0 n0
    generalize W1.setCell ⟨b2, 0, none⟩ (.int .i64 2) = W3 at HR2 HK2 HQ2 HQ32 ⊢
    have HR := HR2
    have HK := HK2
    have HQ := HQ2
    have HQ3 := HQ32
    obtain ⟨A, cc, i, q0, q1, z1, hi, hcap⟩ := HR.out.cells
    clear hi hcap
    go_upto_region 7 with (fail)
    have HLK := Aside0.mk (HR.out.copy q0 q1)
    have HNL : Aside0 (g ≠ W3.heap.size ∧ b ≠ W3.heap.size ∧ b2 ≠ W3.heap.size ∧ w.heap.size ≤ W3.heap.size) := ⟨by have := HR.out.lt; have := blk_lt HQ.out; have := blk_lt HQ3.out; have := keep_size HK.out; omega⟩
    have HR2 := Aside0.mk (HR.out.below (below_alloc (Below.refl W3.heap.size W3) (.cells #[.slice A L.length cc, .int .i64 i] 63)))
    have HK2 := Aside0.mk (keep_alloc HK.out (.cells #[.slice A L.length cc, .int .i64 i] 63))
    have HQ2 := Aside0.mk (blk_below HQ.out (below_alloc (Below.refl W3.heap.size W3) (.cells #[.slice A L.length cc, .int .i64 i] 63)))
    have HQ32 := Aside0.mk (blk_below HQ3.out (below_alloc (Below.refl W3.heap.size W3) (.cells #[.slice A L.length cc, .int .i64 i] 63)))
    clear q0 q1 z1
    generalize W3.alloc (.cells #[.slice A L.length cc, .int .i64 i] 63) = W4 at HLK HR2 HK2 HQ2 HQ32 ⊢
    generalize W3.heap.size = gl at HLK HNL ⊢
    have HR := HR2
    have HK := HK2
    have HQ := HQ2
    have HQ3 := HQ32
    obtain ⟨c', hc'⟩ : ∃ x, x = pk (t.dropWhile blankB) 0 := ⟨_, rfl⟩
    have HPL := Aside0.mk hc'.symm
    rw [← hc'] at HUB
    clear hc'
    go_upto_region 9 with (first | (go_at_call 64; (with_reducible refine (space_c HLK.out).mono ?_); rintro e W ⟨rfl, hr, hk⟩; skip; have HQ := Aside0.mk (keep_blk hk HQ.out HNL.out.2.1); have HQ3 := Aside0.mk (keep_blk hk HQ3.out HNL.out.2.2.1); have HR := Aside0.mk (HR.out.other hk HNL.out.1 hr.bel); have HK := Aside0.mk (keep_other HK.out hk HNL.out.2.2.2); have HLK := Aside0.mk hr; clear hr hk) | (go_at_call 62; (with_reducible refine (peek0_c HLK.out).mono ?_); rintro e W ⟨rfl, hr, hk⟩; rw [HPL.out]; have HQ := Aside0.mk (keep_blk hk HQ.out HNL.out.2.1); have HQ3 := Aside0.mk (keep_blk hk HQ3.out HNL.out.2.2.1); have HR := Aside0.mk (HR.out.other hk HNL.out.1 hr.bel); have HK := Aside0.mk (keep_other HK.out hk HNL.out.2.2.2); have HLK := Aside0.mk hr; clear hr hk) | fail)
    have e1 := (blk_cell HQ3.out 1).trans (show _ = some _ from rfl)
    have HFD := Aside0.mk (fold_calls nm HNS.out W)
    obtain ⟨fd, hfd⟩ : ∃ x, x = foldS nm := ⟨_, rfl⟩
    rw [← hfd] at HFD HUB
    clear hfd
    have HUB2 := HUB.out
    cases k1 : (fd.toList == [117, 114, 108]) with
    | false =>
      have HWT2 : Aside0 (wordT s = tokV 2 nm ⟨#[]⟩ false false) := ⟨by rw [HWT.out, if_neg (by rw [HUB2, k1]; simp)]⟩
      have HWR2 : Aside0 (wordR s = t) := ⟨by rw [HWR.out, if_neg (by rw [HUB2, k1]; simp)]⟩
      clear HUB2
      go_upto_region 11 with (first | (go_at_call 15; (with_reducible refine HFD.out.mono ?_); rintro e W6 ⟨rfl, hb⟩; have HQ := Aside0.mk (blk_below HQ.out hb); have HQ3 := Aside0.mk (blk_below HQ3.out hb); have HR := Aside0.mk (HR.out.below hb); have HK := Aside0.mk (keep_then HK.out (KeepBut.of_below hb g none)); clear hb) | fail)
      clear e1
      have e0 := (blk_cell HQ3.out 0).trans (show _ = some _ from rfl)
      have e1 := (blk_cell HQ3.out 1).trans (show _ = some _ from rfl)
      have e2 := (blk_cell HQ3.out 2).trans (show _ = some _ from rfl)
      have e3 := (blk_cell HQ3.out 3).trans (show _ = some _ from rfl)
      have e4 := (blk_cell HQ3.out 4).trans (show _ = some _ from rfl)
      have m0 := (blk_cell HQ.out 0).trans (show _ = some _ from rfl)
      have n0 := blk_frozen HQ.out 0
      have m1 := (blk_cell HQ.out 1).trans (show _ = some _ from rfl)
      have n1 := blk_frozen HQ.out 1
      have m2 := (blk_cell HQ.out 2).trans (show _ = some _ from rfl)
      have n2 := blk_frozen HQ.out 2
      have m3 := (blk_cell HQ.out 3).trans (show _ = some _ from rfl)
      have n3 := blk_frozen HQ.out 3
      have m4 := (blk_cell HQ.out 4).trans (show _ = some _ from rfl)
      have n4 := blk_frozen HQ.out 4
      go_wp2_with fail
      refine bodyPost_ret (results_cell_row rfl _ _ b 26 #[.int .i64 2, .string nm, .string ⟨#[]⟩, .bool false, .bool false] (0, 0) _ rfl (tok_put HQ.out _ _ _ _ _) Tryd.underlying26 rfl (by kernel_rfl)) rfl ?_
      exact ⟨by rw [HWT2.out]; rfl, by rw [HWR2.out]; exact HR.out.far5 HNE.out.2.1 HNE.out.2.2 _ _ _ _ _, keep_far5 HK.out HBD.out _ _ _ _ _⟩
    | true =>
      cases k2 : (c' != 34) with
      | false =>
        have HWT2 : Aside0 (wordT s = tokV 2 nm ⟨#[]⟩ false false) := ⟨by rw [HWT.out, if_neg (by rw [HUB2, k1, k2]; simp)]⟩
        have HWR2 : Aside0 (wordR s = t) := ⟨by rw [HWR.out, if_neg (by rw [HUB2, k1, k2]; simp)]⟩
        clear HUB2
        go_upto_region 11 with (first | (go_at_call 15; (with_reducible refine HFD.out.mono ?_); rintro e W6 ⟨rfl, hb⟩; have HQ := Aside0.mk (blk_below HQ.out hb); have HQ3 := Aside0.mk (blk_below HQ3.out hb); have HR := Aside0.mk (HR.out.below hb); have HK := Aside0.mk (keep_then HK.out (KeepBut.of_below hb g none)); clear hb) | fail)
        clear e1
        have e0 := (blk_cell HQ3.out 0).trans (show _ = some _ from rfl)
        have e1 := (blk_cell HQ3.out 1).trans (show _ = some _ from rfl)
        have e2 := (blk_cell HQ3.out 2).trans (show _ = some _ from rfl)
        have e3 := (blk_cell HQ3.out 3).trans (show _ = some _ from rfl)
        have e4 := (blk_cell HQ3.out 4).trans (show _ = some _ from rfl)
        have m0 := (blk_cell HQ.out 0).trans (show _ = some _ from rfl)
        have n0 := blk_frozen HQ.out 0
        have m1 := (blk_cell HQ.out 1).trans (show _ = some _ from rfl)
        have n1 := blk_frozen HQ.out 1
        have m2 := (blk_cell HQ.out 2).trans (show _ = some _ from rfl)
        have n2 := blk_frozen HQ.out 2
        have m3 := (blk_cell HQ.out 3).trans (show _ = some _ from rfl)
        have n3 := blk_frozen HQ.out 3
        have m4 := (blk_cell HQ.out 4).trans (show _ = some _ from rfl)
        have n4 := blk_frozen HQ.out 4
        go_wp2_with fail
        refine bodyPost_ret (results_cell_row rfl _ _ b 26 #[.int .i64 2, .string nm, .string ⟨#[]⟩, .bool false, .bool false] (0, 0) _ rfl (tok_put HQ.out _ _ _ _ _) Tryd.underlying26 rfl (by kernel_rfl)) rfl ?_
        exact ⟨by rw [HWT2.out]; rfl, by rw [HWR2.out]; exact HR.out.far5 HNE.out.2.1 HNE.out.2.2 _ _ _ _ _, keep_far5 HK.out HBD.out _ _ _ _ _⟩
      | true =>
        cases k3 : (c' != 39) with
        | false =>
          have HWT2 : Aside0 (wordT s = tokV 2 nm ⟨#[]⟩ false false) := ⟨by rw [HWT.out, if_neg (by rw [HUB2, k1, k2, k3]; simp)]⟩
          have HWR2 : Aside0 (wordR s = t) := ⟨by rw [HWR.out, if_neg (by rw [HUB2, k1, k2, k3]; simp)]⟩
          clear HUB2
          go_upto_region 11 with (first | (go_at_call 15; (with_reducible refine HFD.out.mono ?_); rintro e W6 ⟨rfl, hb⟩; have HQ := Aside0.mk (blk_below HQ.out hb); have HQ3 := Aside0.mk (blk_below HQ3.out hb); have HR := Aside0.mk (HR.out.below hb); have HK := Aside0.mk (keep_then HK.out (KeepBut.of_below hb g none)); clear hb) | fail)
          clear e1
          have e0 := (blk_cell HQ3.out 0).trans (show _ = some _ from rfl)
          have e1 := (blk_cell HQ3.out 1).trans (show _ = some _ from rfl)
          have e2 := (blk_cell HQ3.out 2).trans (show _ = some _ from rfl)
          have e3 := (blk_cell HQ3.out 3).trans (show _ = some _ from rfl)
          have e4 := (blk_cell HQ3.out 4).trans (show _ = some _ from rfl)
          have m0 := (blk_cell HQ.out 0).trans (show _ = some _ from rfl)
          have n0 := blk_frozen HQ.out 0
          have m1 := (blk_cell HQ.out 1).trans (show _ = some _ from rfl)
          have n1 := blk_frozen HQ.out 1
          have m2 := (blk_cell HQ.out 2).trans (show _ = some _ from rfl)
          have n2 := blk_frozen HQ.out 2
          have m3 := (blk_cell HQ.out 3).trans (show _ = some _ from rfl)
          have n3 := blk_frozen HQ.out 3
          have m4 := (blk_cell HQ.out 4).trans (show _ = some _ from rfl)
          have n4 := blk_frozen HQ.out 4
          go_wp2_with fail
          refine bodyPost_ret (results_cell_row rfl _ _ b 26 #[.int .i64 2, .string nm, .string ⟨#[]⟩, .bool false, .bool false] (0, 0) _ rfl (tok_put HQ.out _ _ _ _ _) Tryd.underlying26 rfl (by kernel_rfl)) rfl ?_
          exact ⟨by rw [HWT2.out]; rfl, by rw [HWR2.out]; exact HR.out.far5 HNE.out.2.1 HNE.out.2.2 _ _ _ _ _, keep_far5 HK.out HBD.out _ _ _ _ _⟩
        | true =>
          have HWT2 : Aside0 (wordT s = urlT t) := ⟨by rw [HWT.out, if_pos (by rw [HUB2, k1, k2, k3]; rfl)]⟩
          have HWR2 : Aside0 (wordR s = urlR t) := ⟨by rw [HWR.out, if_pos (by rw [HUB2, k1, k2, k3]; rfl)]⟩
          clear HUB2
          obtain ⟨k0, x0, hua⟩ := urlT_agg t
          have HUA := Aside0.mk hua
          clear hua
          go_upto_region 10 with (first | (go_at_call 15; (with_reducible refine HFD.out.mono ?_); rintro e W6 ⟨rfl, hb⟩; have HQ := Aside0.mk (blk_below HQ.out hb); have HQ3 := Aside0.mk (blk_below HQ3.out hb); have HR := Aside0.mk (HR.out.below hb); have HK := Aside0.mk (keep_then HK.out (KeepBut.of_below hb g none)); clear hb) | fail)
          clear e1
          go_wp2_with (first | (go_at_call 86; (with_reducible refine (url_c HR.out).mono ?_); rw [HUA.out]; rintro e W7 ⟨rfl, hr, hk⟩; have HQ := Aside0.mk (keep_blk hk HQ.out HNE.out.1); have HR := Aside0.mk hr; have HK := Aside0.mk (keep_then HK.out hk); clear hr hk; have m0 := (blk_cell HQ.out 0).trans (show _ = some _ from rfl); have n0 := blk_frozen HQ.out 0; have m1 := (blk_cell HQ.out 1).trans (show _ = some _ from rfl); have n1 := blk_frozen HQ.out 1; have m2 := (blk_cell HQ.out 2).trans (show _ = some _ from rfl); have n2 := blk_frozen HQ.out 2; have m3 := (blk_cell HQ.out 3).trans (show _ = some _ from rfl); have n3 := blk_frozen HQ.out 3; have m4 := (blk_cell HQ.out 4).trans (show _ = some _ from rfl); have n4 := blk_frozen HQ.out 4) | fail)
          refine bodyPost_ret (results_cell_row rfl _ _ b 26 #[.int .i64 k0, .string x0, .string ⟨#[]⟩, .bool false, .bool false] (0, 0) _ rfl (tok_put HQ.out _ _ _ _ _) Tryd.underlying26 rfl (by kernel_rfl)) rfl ?_
          exact ⟨by rw [HWT2.out, HUA.out], by rw [HWR2.out]; exact HR.out.far5 HNE.out.2.1 HNE.out.2.2 _ _ _ _ _, keep_far5 HK.out HBD.out _ _ _ _ _⟩
  · have d1 : (p0 != 40) = true := by simp [k1]
    have HWT : Aside0 (wordT s = tokV 1 nm ⟨#[]⟩ false false) := ⟨by rw [HWT.out, if_pos (by rw [← hp0]; exact k1)]⟩
    have HWR : Aside0 (wordR s = r) := ⟨by rw [HWR.out, if_pos (by rw [← hp0]; exact k1)]⟩
    clear hp0 k1
    go_upto_region 3 with (first | (go_at_call 62; (with_reducible refine (peek0_c HR.out).mono ?_); rintro e W ⟨rfl, hr, hk⟩; rw [HP0.out]; have HQ := Aside0.mk (keep_blk hk HQ.out HNE.out.1); have HQ3 := Aside0.mk (keep_blk hk HQ3.out HNE3.out.1); have HR := Aside0.mk hr; have HK := Aside0.mk (keep_then HK.out hk); clear hr hk) | fail)
    have e0 := (blk_cell HQ3.out 0).trans (show _ = some _ from rfl)
    have e1 := (blk_cell HQ3.out 1).trans (show _ = some _ from rfl)
    have e2 := (blk_cell HQ3.out 2).trans (show _ = some _ from rfl)
    have e3 := (blk_cell HQ3.out 3).trans (show _ = some _ from rfl)
    have e4 := (blk_cell HQ3.out 4).trans (show _ = some _ from rfl)
    have m0 := (blk_cell HQ.out 0).trans (show _ = some _ from rfl)
    have n0 := blk_frozen HQ.out 0
    have m1 := (blk_cell HQ.out 1).trans (show _ = some _ from rfl)
    have n1 := blk_frozen HQ.out 1
    have m2 := (blk_cell HQ.out 2).trans (show _ = some _ from rfl)
    have n2 := blk_frozen HQ.out 2
    have m3 := (blk_cell HQ.out 3).trans (show _ = some _ from rfl)
    have n3 := blk_frozen HQ.out 3
    have m4 := (blk_cell HQ.out 4).trans (show _ = some _ from rfl)
    have n4 := blk_frozen HQ.out 4
    go_wp2_with fail
    refine bodyPost_ret (results_cell_row rfl _ _ b 26 #[.int .i64 1, .string nm, .string ⟨#[]⟩, .bool false, .bool false] (0, 0) _ rfl (tok_put HQ.out _ _ _ _ _) Tryd.underlying26 rfl (by kernel_rfl)) rfl ?_
    exact ⟨by rw [HWT.out]; rfl, by rw [HWR.out]; exact HR.out.far5 HNE.out.2.1 HNE.out.2.2 _ _ _ _ _, keep_far5 HK.out HBD.out _ _ _ _ _⟩
end Go.Proofs.YtpnlbmeeihbjaabDoor.P
end
section
set_option linter.unusedVariables false
set_option linter.unusedSimpArgs false
namespace Go.Proofs.YtpnlbmeeihbjaabDoor.P
open Go.RowKit Go.Proofs.YtpnlbmeeihbjaabDoorW.PrintWords Go.Proofs.YtpnlbmeeihbjaabDoorW.PrintLast Go.Proofs.YtpnlbmeeihbjaabDoorW.PrintMore
open Go.Lib
attribute [local go_sem] max2_int min2_int max_two min_two max_three min_three max_four min_four
set_option linter.unusedVariables false
set_option linter.unusedSimpArgs false
def numA (s : List Int) : List Int := if (!digB (pk s 0) && pk s 0 != 46) = true then s.tail else s
def numB (s : List Int) : List Int := (numA s).dropWhile digB
def numP (s : List Int) : Bool := pk (numB s) 0 == 46 && digB (pk (numB s) 1)
def numC (s : List Int) : List Int := if numP s then (numB s).tail.dropWhile digB else numB s
def numN (s : List Int) : Nat := if (pk (numC s) 1 == 43 || pk (numC s) 1 == 45) = true then 2 else 1
def numE (s : List Int) : Bool := Go.bits .or .i32 (pk (numC s) 0) 32 == 101 && digB (pk (numC s) (numN s))
def numD (s : List Int) : List Int := if numE s then ((numC s).drop (numN s)).dropWhile digB else numC s
def numW (s : List Int) : Bool := if numE s then false else !numP s
def numX (s : List Int) : List Int := s.take (s.length - (numD s).length)
def numT (s : List Int) : Value := if begB (numD s) 0 = true then tokV 12 (runesBytes (numX s)) ⟨(strR (nameS (numD s)).1).toArray⟩ (numW s) false else if pk (numD s) 0 = 37 then tokV 11 (runesBytes (numX s)) ⟨#[]⟩ (numW s) false else tokV 10 (runesBytes (numX s)) ⟨#[]⟩ (numW s) false
def numR (s : List Int) : List Int := if begB (numD s) 0 = true then (nameS (numD s)).2 else if pk (numD s) 0 = 37 then (numD s).tail else numD s
theorem cut_eq {L s d : List Int} (h : s <:+ L) (hd : d.length ≤ s.length) : (L.take (L.length - d.length)).drop (L.length - s.length) = s.take (s.length - d.length) := by
  obtain ⟨p, rfl⟩ := h
  rw [List.length_append, show p.length + s.length - s.length = p.length by omega, show p.length + s.length - d.length = p.length + (s.length - d.length) by omega, List.take_append, List.take_of_length_le (by omega), List.drop_append, List.drop_of_length_le (Nat.le_refl _), Nat.sub_self, List.drop_zero, List.nil_append]
  congr 1
  omega
theorem Rdr.row {w0 w : World} {g : Nat} {L s : List Int} (h : Rdr w0 w g L s) {A : Option Addr} {cc : Nat} (q0 : w.cell? ⟨g, 0, none⟩ = some (.slice A L.length cc)) : Kd.C (Kd.int .i32) w0 A L.length L := by
  obtain ⟨p, hp, A', c', hb, _, hC⟩ := h.st
  have e := cellS63_0 hb
  rw [q0] at e
  injection e with e
  injection e with e1 e2 e3
  subst e1
  exact hC
theorem Rdr.cellsF {w0 w : World} {g : Nat} {L s : List Int} (h : Rdr w0 w g L s) {A : Option Addr} {cc : Nat} {i : Int} (q0 : w.cell? ⟨g, 0, none⟩ = some (.slice A L.length cc)) (q1 : w.cell? ⟨g, 1, none⟩ = some (.int .i64 i)) {b : Nat} (hne : g ≠ b) (j : Nat) (v : Value) : (w.setCell ⟨b, j, none⟩ v).cell? ⟨g, 0, none⟩ = some (.slice A L.length cc) ∧ (w.setCell ⟨b, j, none⟩ v).cell? ⟨g, 1, none⟩ = some (.int .i64 i) := by
  obtain ⟨p, hp, A', c', hb, _, hC⟩ := h.st
  have h2 := blk_far hb (p := ⟨b, j, none⟩) hne v
  have e0 := cellS63_0 hb
  have e1 := cellS63_1 hb
  rw [q0] at e0
  rw [q1] at e1
  rw [e0, e1]
  exact ⟨cellS63_0 h2, cellS63_1 h2⟩
theorem numA_suf (s : List Int) : numA s <:+ s := by
  unfold numA
  split
  · exact List.tail_suffix s
  · exact List.suffix_refl s
theorem numB_suf (s : List Int) : numB s <:+ s := (List.dropWhile_suffix _).trans (numA_suf s)
theorem numC_suf (s : List Int) : numC s <:+ s := by
  unfold numC
  split
  · exact ((List.dropWhile_suffix _).trans (List.tail_suffix _)).trans (numB_suf s)
  · exact numB_suf s
theorem numD_suf (s : List Int) : numD s <:+ s := by
  unfold numD
  split
  · exact ((List.dropWhile_suffix _).trans (List.drop_suffix _ _)).trans (numC_suf s)
  · exact numC_suf s
set_option maxHeartbeats 16000000 in
set_option maxRecDepth 100000 in
theorem number_c {w0 w : World} {g : Nat} {L s : List Int} (h : Rdr w0 w g L s) (hs : s ≠ []) :
    Calls Tryd.prog 69 #[.pointer (some ⟨g, 0, none⟩)] w fun e w' => e = .returned (numT s) ∧ Rdr w0 w' g L (numR s) ∧ KeepBut w w' g none := by
  have hu63 := Tryd.underlying63
  have hu26 := Tryd.underlying26
  have hu38 := Tryd.underlying38
  have HSLN := Aside0.mk h.len
  have HSS := Aside0.mk h.suf
  go_enter Tryd.func69, Tryd.ntmps69
  go_upto_region 1 with (fail)
  have hq := blk_new w (.cells #[.int .i64 0, .string ⟨#[]⟩, .string ⟨#[]⟩, .bool false, .bool false] 26)
  have HR : Aside0 (Rdr w0 (w.alloc (.cells #[.int .i64 0, .string ⟨#[]⟩, .string ⟨#[]⟩, .bool false, .bool false] 26)) g L s) := ⟨h.below (below_alloc (Below.refl _ _) _)⟩
  have HK : Aside0 (KeepBut w (w.alloc (.cells #[.int .i64 0, .string ⟨#[]⟩, .string ⟨#[]⟩, .bool false, .bool false] 26)) g none) := ⟨keep_alloc (KeepBut.refl w g none) _⟩
  have HNE : Aside0 (w.heap.size ≠ g ∧ g ≠ w.heap.size ∧ w0.heap.size ≤ w.heap.size) := ⟨by have := h.lt.2; omega, by have := h.lt.2; omega, h.bel.size⟩
  have HQ := Aside0.mk hq
  generalize w.alloc (.cells #[.int .i64 0, .string ⟨#[]⟩, .string ⟨#[]⟩, .bool false, .bool false] 26) = W0 at HR HK HQ ⊢
  obtain ⟨b, hb⟩ : ∃ b, b = w.heap.size := ⟨_, rfl⟩
  have HBD : Aside0 (w.heap.size ≤ b) := ⟨by omega⟩
  rw [← hb] at HNE HQ ⊢
  clear hq h hb
  go_upto_region 2 with (fail)
  have hq := blk_new W0 (.cells #[.int .i64 10, .string ⟨#[]⟩, .string ⟨#[]⟩, .bool true, .bool false] 26)
  have HNE3 : Aside0 (W0.heap.size ≠ g ∧ g ≠ W0.heap.size ∧ w0.heap.size ≤ W0.heap.size ∧ b ≠ W0.heap.size ∧ w.heap.size ≤ W0.heap.size) := ⟨by have := HR.out.lt; have := blk_lt HQ.out; have := keep_size HK.out; have := HR.out.bel.size; omega⟩
  have HR2 := Aside0.mk (HR.out.below (below_alloc (Below.refl W0.heap.size W0) (.cells #[.int .i64 10, .string ⟨#[]⟩, .string ⟨#[]⟩, .bool true, .bool false] 26)))
  have HK2 := Aside0.mk (keep_alloc HK.out (.cells #[.int .i64 10, .string ⟨#[]⟩, .string ⟨#[]⟩, .bool true, .bool false] 26))
  have HQ2 := Aside0.mk (blk_below HQ.out (below_alloc (Below.refl W0.heap.size W0) (.cells #[.int .i64 10, .string ⟨#[]⟩, .string ⟨#[]⟩, .bool true, .bool false] 26)))
  have HQ3 := Aside0.mk hq
  clear hq
  generalize W0.alloc (.cells #[.int .i64 10, .string ⟨#[]⟩, .string ⟨#[]⟩, .bool true, .bool false] 26) = W2 at HR2 HK2 HQ2 HQ3 ⊢
  generalize W0.heap.size = b2 at HNE3 HQ3 ⊢
  have HR := HR2
  have HK := HK2
  have HQ := HQ2
  obtain ⟨A0, cc0, i0, q0, q1, z1, hi0, _⟩ := HR.out.cells
  have HI0 := Aside0.mk hi0
  clear q0 z1 hi0
  go_upto_region 3 with (fail)
  clear q1
  obtain ⟨p, hp⟩ : ∃ x, x = pk s 0 := ⟨_, rfl⟩
  obtain ⟨t1, ht1⟩ : ∃ x, x = digB p := ⟨_, rfl⟩
  obtain ⟨B1, hB1⟩ : ∃ x, x = (!t1 && p != 46) := ⟨_, rfl⟩
  have HP1 := Aside0.mk (And.intro hp.symm ht1.symm)
  have HB1 := Aside0.mk hB1
  have HA : Aside0 (numA s = if B1 = true then s.tail else s) := ⟨by unfold numA; rw [hB1, ht1, hp]⟩
  clear hp ht1 hB1
  go_cut [20] (fun s20 wx => s20 = .bool B1 ∧ Aside0 (Rdr w0 wx g L s) ∧ Aside0 (KeepBut w wx g none) ∧ Aside0 (wx.heap[b]? = some (.cells #[.int .i64 0, .string ⟨#[]⟩, .string ⟨#[]⟩, .bool false, .bool false] 26 (0, 0))) ∧ Aside0 (wx.heap[b2]? = some (.cells #[.int .i64 10, .string ⟨#[]⟩, .string ⟨#[]⟩, .bool true, .bool false] 26 (0, 0))))
  case first =>
    cases t1 with
    | true =>
      go_wp2_with (first | (go_at_call 62; (with_reducible refine (peek0_c HR.out).mono ?_); rintro e W ⟨rfl, hr, hk⟩; rw [HP1.out.1]; have HQ := Aside0.mk (keep_blk hk HQ.out HNE.out.1); have HQ3 := Aside0.mk (keep_blk hk HQ3.out HNE3.out.1); have HR := Aside0.mk hr; have HK := Aside0.mk (keep_then HK.out hk); clear hr hk) | (go_at_call 85; (with_reducible refine (dig_c p _).mono ?_); rintro e W ⟨rfl, hb⟩; rw [HP1.out.2]; have HQ := Aside0.mk (blk_below HQ.out hb); have HQ3 := Aside0.mk (blk_below HQ3.out hb); have HR := Aside0.mk (HR.out.below hb); have HK := Aside0.mk (keep_then HK.out (KeepBut.of_below hb g none)); clear hb) | fail)
      go_meet
      case rel => exact ⟨by rw [HB1.out]; rfl, HR, HK, HQ, HQ3⟩
    | false =>
      cases d1 : (p != 46) with
      | true =>
        go_wp2_with (first | (go_at_call 62; (with_reducible refine (peek0_c HR.out).mono ?_); rintro e W ⟨rfl, hr, hk⟩; rw [HP1.out.1]; have HQ := Aside0.mk (keep_blk hk HQ.out HNE.out.1); have HQ3 := Aside0.mk (keep_blk hk HQ3.out HNE3.out.1); have HR := Aside0.mk hr; have HK := Aside0.mk (keep_then HK.out hk); clear hr hk) | (go_at_call 85; (with_reducible refine (dig_c p _).mono ?_); rintro e W ⟨rfl, hb⟩; rw [HP1.out.2]; have HQ := Aside0.mk (blk_below HQ.out hb); have HQ3 := Aside0.mk (blk_below HQ3.out hb); have HR := Aside0.mk (HR.out.below hb); have HK := Aside0.mk (keep_then HK.out (KeepBut.of_below hb g none)); clear hb) | fail)
        go_meet
        case rel => exact ⟨by rw [HB1.out, d1]; rfl, HR, HK, HQ, HQ3⟩
      | false =>
        go_wp2_with (first | (go_at_call 62; (with_reducible refine (peek0_c HR.out).mono ?_); rintro e W ⟨rfl, hr, hk⟩; rw [HP1.out.1]; have HQ := Aside0.mk (keep_blk hk HQ.out HNE.out.1); have HQ3 := Aside0.mk (keep_blk hk HQ3.out HNE3.out.1); have HR := Aside0.mk hr; have HK := Aside0.mk (keep_then HK.out hk); clear hr hk) | (go_at_call 85; (with_reducible refine (dig_c p _).mono ?_); rintro e W ⟨rfl, hb⟩; rw [HP1.out.2]; have HQ := Aside0.mk (blk_below HQ.out hb); have HQ3 := Aside0.mk (blk_below HQ3.out hb); have HR := Aside0.mk (HR.out.below hb); have HK := Aside0.mk (keep_then HK.out (KeepBut.of_below hb g none)); clear hb) | fail)
        go_meet
        case rel => exact ⟨by rw [HB1.out, d1]; rfl, HR, HK, HQ, HQ3⟩
  case rest =>
    clear HR HK HQ HQ3 HR2 HK2 HQ2 HB1 HP1
    obtain ⟨rfl, HR, HK, HQ, HQ3⟩ := hcut
    go_upto_if 20 with (fail)
    go_cut [] (fun  wx =>  Aside0 (Rdr w0 wx g L (numA s)) ∧ Aside0 (KeepBut w wx g none) ∧ Aside0 (wx.heap[b]? = some (.cells #[.int .i64 0, .string ⟨#[]⟩, .string ⟨#[]⟩, .bool false, .bool false] 26 (0, 0))) ∧ Aside0 (wx.heap[b2]? = some (.cells #[.int .i64 10, .string ⟨#[]⟩, .string ⟨#[]⟩, .bool true, .bool false] 26 (0, 0))))
    case first =>
      cases B1 with
      | true =>
        obtain ⟨c, t, rfl⟩ : ∃ c t, s = c :: t := by
          cases s with
          | nil => exact absurd rfl hs
          | cons c t => exact ⟨c, t, rfl⟩
        obtain ⟨A, cc, i, q0, q1, z1, hi, _⟩ := HR.out.cells
        have HST : Aside0 (wrap64 (i + 1) = (L.length : Int) - t.length) := ⟨by have := HR.out.len; simp only [List.length_cons] at this hi; unfold wrap64; omega⟩
        clear hi q0
        go_wp2_with fail
        go_meet
        case rel => exact ⟨⟨by rw [HA.out]; (first | rw [if_pos trivial] | rw [if_pos rfl]); exact HR.out.set (List.suffix_cons c t) HST.out⟩, ⟨HK.out.set_ 1 _⟩, ⟨blk_far HQ.out (p := ⟨g, 1, none⟩) HNE.out.1 _⟩, ⟨blk_far HQ3.out (p := ⟨g, 1, none⟩) HNE3.out.1 _⟩⟩
      | false =>
        go_wp2_with fail
        go_meet
        case rel => exact ⟨⟨by rw [HA.out, if_neg (by simp)]; exact HR.out⟩, HK, HQ, HQ3⟩
    case rest =>
      clear HR HK HQ HQ3
      obtain ⟨HR, HK, HQ, HQ3⟩ := hcut
      go_upto_region 6 with (first | (go_at_call 82; (with_reducible refine (while_digit HR.out).mono ?_); rintro e W ⟨uw, rfl, hr, hk⟩; have HQ := Aside0.mk (keep_blk hk HQ.out HNE.out.1); have HQ3 := Aside0.mk (keep_blk hk HQ3.out HNE3.out.1); have HR := Aside0.mk hr; have HK := Aside0.mk (keep_then HK.out hk); clear hr hk) | fail)
      have HR : Aside0 (Rdr w0 W g L (numB s)) := HR
      clear HA
      obtain ⟨r, hr⟩ : ∃ x, x = numB s := ⟨_, rfl⟩
      rw [← hr] at HR
      obtain ⟨p0, hp0⟩ : ∃ x, x = pk r 0 := ⟨_, rfl⟩
      obtain ⟨p1, hp1⟩ : ∃ x, x = pk r 1 := ⟨_, rfl⟩
      obtain ⟨t1, ht1⟩ : ∃ x, x = digB p1 := ⟨_, rfl⟩
      obtain ⟨B1, hB1⟩ : ∃ x, x = (p0 == 46 && t1) := ⟨_, rfl⟩
      have HP1 := Aside0.mk (And.intro hp0.symm (And.intro hp1.symm ht1.symm))
      have HB1 := Aside0.mk hB1
      have HPP : Aside0 (numP s = B1) := ⟨by unfold numP; rw [← hr, hB1, ht1, hp1, hp0]⟩
      have HC : Aside0 (numC s = if B1 then r.tail.dropWhile digB else r) := ⟨by unfold numC; rw [HPP.out, ← hr]⟩
      clear hr hp0 hp1 ht1 hB1
      go_cut [37] (fun s37 wx => s37 = .bool B1 ∧ Aside0 (Rdr w0 wx g L r) ∧ Aside0 (KeepBut w wx g none) ∧ Aside0 (wx.heap[b]? = some (.cells #[.int .i64 0, .string ⟨#[]⟩, .string ⟨#[]⟩, .bool false, .bool false] 26 (0, 0))) ∧ Aside0 (wx.heap[b2]? = some (.cells #[.int .i64 10, .string ⟨#[]⟩, .string ⟨#[]⟩, .bool true, .bool false] 26 (0, 0))))
      case first =>
        cases d1 : (p0 == 46) with
        | true =>
          go_wp2_with (first | (go_at_call 62; (with_reducible refine (peek0_c HR.out).mono ?_); rintro e W ⟨rfl, hr, hk⟩; rw [HP1.out.1]; have HQ := Aside0.mk (keep_blk hk HQ.out HNE.out.1); have HQ3 := Aside0.mk (keep_blk hk HQ3.out HNE3.out.1); have HR := Aside0.mk hr; have HK := Aside0.mk (keep_then HK.out hk); clear hr hk) | (go_at_call 62; (with_reducible refine (peek1_c HR.out).mono ?_); rintro e W ⟨rfl, hr, hk⟩; rw [HP1.out.2.1]; have HQ := Aside0.mk (keep_blk hk HQ.out HNE.out.1); have HQ3 := Aside0.mk (keep_blk hk HQ3.out HNE3.out.1); have HR := Aside0.mk hr; have HK := Aside0.mk (keep_then HK.out hk); clear hr hk) | (go_at_call 85; (with_reducible refine (dig_c p1 _).mono ?_); rintro e W ⟨rfl, hb⟩; rw [HP1.out.2.2]; have HQ := Aside0.mk (blk_below HQ.out hb); have HQ3 := Aside0.mk (blk_below HQ3.out hb); have HR := Aside0.mk (HR.out.below hb); have HK := Aside0.mk (keep_then HK.out (KeepBut.of_below hb g none)); clear hb) | fail)
          go_meet
          case rel => exact ⟨by rw [HB1.out, d1]; cases t1 <;> rfl, HR, HK, HQ, HQ3⟩
        | false =>
          go_wp2_with (first | (go_at_call 62; (with_reducible refine (peek0_c HR.out).mono ?_); rintro e W ⟨rfl, hr, hk⟩; rw [HP1.out.1]; have HQ := Aside0.mk (keep_blk hk HQ.out HNE.out.1); have HQ3 := Aside0.mk (keep_blk hk HQ3.out HNE3.out.1); have HR := Aside0.mk hr; have HK := Aside0.mk (keep_then HK.out hk); clear hr hk) | fail)
          go_meet
          case rel => exact ⟨by rw [HB1.out, d1]; rfl, HR, HK, HQ, HQ3⟩
      case rest =>
        clear HR HK HQ HQ3
        obtain ⟨rfl, HR, HK, HQ, HQ3⟩ := hcut
        go_upto_if 37 with (fail)
        go_cut [] (fun  wx =>  Aside0 (Rdr w0 wx g L (numC s)) ∧ Aside0 (KeepBut w wx g none) ∧ Aside0 (wx.heap[b]? = some (.cells #[.int .i64 0, .string ⟨#[]⟩, .string ⟨#[]⟩, .bool false, .bool false] 26 (0, 0))) ∧ Aside0 (wx.heap[b2]? = some (.cells #[.int .i64 10, .string ⟨#[]⟩, .string ⟨#[]⟩, .bool (!B1), .bool false] 26 (0, 0))))
        case first =>
          cases B1 with
          | true =>
            obtain ⟨c, t, rfl⟩ : ∃ c t, r = c :: t := by
              cases r with
              | nil =>
                have h1 := HB1.out
                have h2 := HP1.out.1
                rw [← h2] at h1
                simp [pk] at h1
              | cons c t => exact ⟨c, t, rfl⟩
            have m3 := (blk_cell HQ3.out 3).trans (show _ = some _ from rfl)
            have n3 := blk_frozen HQ3.out 3
            go_upto_region 8 with (fail)
            have HR3 := Aside0.mk (HR.out.far HNE3.out.2.1 HNE3.out.2.2.1 3 (.bool false))
            have HK3 := Aside0.mk (keep_far HK.out (p := ⟨b2, 3, none⟩) HNE3.out.2.2.2.2 (.bool false))
            have HQ30 := Aside0.mk (blk_far HQ.out (p := ⟨b2, 3, none⟩) HNE3.out.2.2.2.1 (.bool false))
            have HQ33 := Aside0.mk (blk_put HQ3.out 3 (.bool false) (cs' := #[.int .i64 10, .string ⟨#[]⟩, .string ⟨#[]⟩, .bool false, .bool false]) rfl)
            clear m3 n3 HR HK HQ HQ3
            generalize wc.setCell ⟨b2, 3, none⟩ (.bool false) = W5 at HR3 HK3 HQ30 HQ33 ⊢
            obtain ⟨A, cc, i, q0, q1, z1, hi, _⟩ := HR3.out.cells
            have HST : Aside0 (wrap64 (i + 1) = (L.length : Int) - t.length) := ⟨by have := HR3.out.len; simp only [List.length_cons] at this hi; unfold wrap64; omega⟩
            clear hi q0
            go_upto_region 9 with (fail)
            have HR := Aside0.mk (HR3.out.set (List.suffix_cons c t) HST.out)
            have HK := Aside0.mk (HK3.out.set_ 1 (.int .i64 (wrap64 (i + 1))))
            have HQ := Aside0.mk (blk_far HQ30.out (p := ⟨g, 1, none⟩) HNE.out.1 (.int .i64 (wrap64 (i + 1))))
            have HQ3 := Aside0.mk (blk_far HQ33.out (p := ⟨g, 1, none⟩) HNE3.out.1 (.int .i64 (wrap64 (i + 1))))
            clear q1 z1
            generalize W5.setCell ⟨g, 1, none⟩ (.int .i64 (wrap64 (i + 1))) = W6 at HR HK HQ HQ3 ⊢
            go_wp2_with (first | (go_at_call 82; (with_reducible refine (while_digit HR.out).mono ?_); rintro e W ⟨uw, rfl, hr, hk⟩; have HQ := Aside0.mk (keep_blk hk HQ.out HNE.out.1); have HQ3 := Aside0.mk (keep_blk hk HQ3.out HNE3.out.1); have HR := Aside0.mk hr; have HK := Aside0.mk (keep_then HK.out hk); clear hr hk) | fail)
            go_meet
            case rel => exact ⟨⟨by rw [HC.out]; (first | rw [if_pos trivial] | rw [if_pos rfl]); exact HR.out⟩, HK, HQ, ⟨HQ3.out⟩⟩
          | false =>
            go_wp2_with fail
            go_meet
            case rel => exact ⟨⟨by rw [HC.out, if_neg (by simp)]; exact HR.out⟩, HK, HQ, ⟨HQ3.out⟩⟩
        case rest =>
          clear HR HK HQ HQ3
          obtain ⟨HR, HK, HQ, HQ3⟩ := hcut
          clear HP1 HB1 HC
          obtain ⟨r', hr'⟩ : ∃ x, x = numC s := ⟨_, rfl⟩
          rw [← hr'] at HR
          obtain ⟨y1, hy1⟩ : ∃ x, x = pk r' 1 := ⟨_, rfl⟩
          have HY := Aside0.mk hy1.symm
          obtain ⟨B3, hB3⟩ : ∃ x, x = (y1 == 43 || y1 == 45) := ⟨_, rfl⟩
          have HB3 := Aside0.mk hB3
          have HNN : Aside0 (numN s = if B3 then 2 else 1) := ⟨by unfold numN; rw [← hr', ← hy1, ← hB3]⟩
          have HRC := Aside0.mk hr'.symm
          clear hr' hy1 hB3
          go_upto_region 12 with (first | (go_at_call 62; (with_reducible refine (peek1_c HR.out).mono ?_); rintro e W ⟨rfl, hr, hk⟩; rw [HY.out]; have HQ := Aside0.mk (keep_blk hk HQ.out HNE.out.1); have HQ3 := Aside0.mk (keep_blk hk HQ3.out HNE3.out.1); have HR := Aside0.mk hr; have HK := Aside0.mk (keep_then HK.out hk); clear hr hk) | fail)
          go_cut [55] (fun s55 wx => s55 = .bool B3 ∧ Aside0 (Rdr w0 wx g L r') ∧ Aside0 (KeepBut w wx g none) ∧ Aside0 (wx.heap[b]? = some (.cells #[.int .i64 0, .string ⟨#[]⟩, .string ⟨#[]⟩, .bool false, .bool false] 26 (0, 0))) ∧ Aside0 (wx.heap[b2]? = some (.cells #[.int .i64 10, .string ⟨#[]⟩, .string ⟨#[]⟩, .bool (!B1), .bool false] 26 (0, 0))))
          case first =>
            cases d1 : (y1 == 43) with
            | true =>
              go_wp2_with fail
              go_meet
              case rel => exact ⟨by rw [HB3.out, d1]; rfl, HR, HK, HQ, HQ3⟩
            | false =>
              cases d2 : (y1 == 45) with
              | true =>
                go_wp2_with fail
                go_meet
                case rel => exact ⟨by rw [HB3.out, d1, d2]; rfl, HR, HK, HQ, HQ3⟩
              | false =>
                go_wp2_with fail
                go_meet
                case rel => exact ⟨by rw [HB3.out, d1, d2]; rfl, HR, HK, HQ, HQ3⟩
          case rest =>
            clear HR HK HQ HQ3
            obtain ⟨rfl, HR, HK, HQ, HQ3⟩ := hcut
            go_upto_if 55 with (fail)
            go_cut [5] (fun s5 wx => s5 = .int .i64 ((numN s : Nat) : Int) ∧ Aside0 (Rdr w0 wx g L r') ∧ Aside0 (KeepBut w wx g none) ∧ Aside0 (wx.heap[b]? = some (.cells #[.int .i64 0, .string ⟨#[]⟩, .string ⟨#[]⟩, .bool false, .bool false] 26 (0, 0))) ∧ Aside0 (wx.heap[b2]? = some (.cells #[.int .i64 10, .string ⟨#[]⟩, .string ⟨#[]⟩, .bool (!B1), .bool false] 26 (0, 0))))
            case first =>
              cases B3 with
              | true =>
                go_wp2_with fail
                go_meet
                case rel => exact ⟨by rw [HNN.out]; rfl, HR, HK, HQ, HQ3⟩
              | false =>
                go_wp2_with fail
                go_meet
                case rel => exact ⟨by rw [HNN.out]; rfl, HR, HK, HQ, HQ3⟩
            case rest =>
              clear HR HK HQ HQ3
              obtain ⟨rfl, HR, HK, HQ, HQ3⟩ := hcut
              have hn12 : 1 ≤ numN s ∧ numN s ≤ 2 := by rw [HNN.out]; cases B3 <;> simp
              obtain ⟨n, hn⟩ : ∃ x, x = numN s := ⟨_, rfl⟩
              rw [← hn] at hn12 ⊢
              have HN12 := Aside0.mk hn12
              obtain ⟨p0, hp0⟩ : ∃ x, x = pk r' 0 := ⟨_, rfl⟩
              obtain ⟨p1, hp1⟩ : ∃ x, x = pk r' n := ⟨_, rfl⟩
              obtain ⟨t1, ht1⟩ : ∃ x, x = digB p1 := ⟨_, rfl⟩
              obtain ⟨B4, hB4⟩ : ∃ x, x = (Go.bits .or .i32 p0 32 == 101 && t1) := ⟨_, rfl⟩
              have HP1 := Aside0.mk (And.intro hp0.symm (And.intro hp1.symm ht1.symm))
              have HB4 := Aside0.mk hB4
              have HEE : Aside0 (numE s = B4) := ⟨by unfold numE; rw [HRC.out, ← hn, hB4, ht1, hp1, hp0]⟩
              have HDD : Aside0 (numD s = if B4 then (r'.drop n).dropWhile digB else r') := ⟨by unfold numD; rw [HEE.out, HRC.out, ← hn]⟩
              have HWW : Aside0 (numW s = if B4 then false else !numP s) := ⟨by unfold numW; rw [HEE.out]⟩
              clear hp0 hp1 ht1 hB4 hn hn12
              go_upto_region 14 with (fail)
              go_cut [65] (fun s65 wx => s65 = .bool B4 ∧ Aside0 (Rdr w0 wx g L r') ∧ Aside0 (KeepBut w wx g none) ∧ Aside0 (wx.heap[b]? = some (.cells #[.int .i64 0, .string ⟨#[]⟩, .string ⟨#[]⟩, .bool false, .bool false] 26 (0, 0))) ∧ Aside0 (wx.heap[b2]? = some (.cells #[.int .i64 10, .string ⟨#[]⟩, .string ⟨#[]⟩, .bool (!B1), .bool false] 26 (0, 0))))
              case first =>
                cases d1 : (Go.bits .or .i32 p0 32 == 101) with
                | true =>
                  go_wp2_with (first | (go_at_call 62; (with_reducible refine (peek0_c HR.out).mono ?_); rintro e W ⟨rfl, hr, hk⟩; rw [HP1.out.1]; have HQ := Aside0.mk (keep_blk hk HQ.out HNE.out.1); have HQ3 := Aside0.mk (keep_blk hk HQ3.out HNE3.out.1); have HR := Aside0.mk hr; have HK := Aside0.mk (keep_then HK.out hk); clear hr hk) | (go_at_call 62; (with_reducible refine (peek_c n (by have := HN12.out; omega) HR.out).mono ?_); rintro e W ⟨rfl, hr, hk⟩; rw [HP1.out.2.1]; have HQ := Aside0.mk (keep_blk hk HQ.out HNE.out.1); have HQ3 := Aside0.mk (keep_blk hk HQ3.out HNE3.out.1); have HR := Aside0.mk hr; have HK := Aside0.mk (keep_then HK.out hk); clear hr hk) | (go_at_call 85; (with_reducible refine (dig_c p1 _).mono ?_); rintro e W ⟨rfl, hb⟩; rw [HP1.out.2.2]; have HQ := Aside0.mk (blk_below HQ.out hb); have HQ3 := Aside0.mk (blk_below HQ3.out hb); have HR := Aside0.mk (HR.out.below hb); have HK := Aside0.mk (keep_then HK.out (KeepBut.of_below hb g none)); clear hb) | fail)
                  go_meet
                  case rel => exact ⟨by rw [HB4.out, d1]; cases t1 <;> rfl, HR, HK, HQ, HQ3⟩
                | false =>
                  go_wp2_with (first | (go_at_call 62; (with_reducible refine (peek0_c HR.out).mono ?_); rintro e W ⟨rfl, hr, hk⟩; rw [HP1.out.1]; have HQ := Aside0.mk (keep_blk hk HQ.out HNE.out.1); have HQ3 := Aside0.mk (keep_blk hk HQ3.out HNE3.out.1); have HR := Aside0.mk hr; have HK := Aside0.mk (keep_then HK.out hk); clear hr hk) | fail)
                  go_meet
                  case rel => exact ⟨by rw [HB4.out, d1]; rfl, HR, HK, HQ, HQ3⟩
              case rest =>
                clear HR HK HQ HQ3
                obtain ⟨rfl, HR, HK, HQ, HQ3⟩ := hcut
                go_upto_if 65 with (fail)
                go_cut [] (fun  wx =>  Aside0 (Rdr w0 wx g L (numD s)) ∧ Aside0 (KeepBut w wx g none) ∧ Aside0 (wx.heap[b]? = some (.cells #[.int .i64 0, .string ⟨#[]⟩, .string ⟨#[]⟩, .bool false, .bool false] 26 (0, 0))) ∧ Aside0 (wx.heap[b2]? = some (.cells #[.int .i64 10, .string ⟨#[]⟩, .string ⟨#[]⟩, .bool (numW s), .bool false] 26 (0, 0))))
                case first =>
                  cases B4 with
                  | true =>
                    have hlen : n < r'.length := by
                      have h1 := HB4.out
                      have h2 := HP1.out
                      cases t1 with
                      | false => simp at h1
                      | true =>
                        rcases Nat.lt_or_ge n r'.length with h | h
                        · exact h
                        · have h3 := h2.2.1
                          rw [pk, List.getD_eq_getElem?_getD, List.getElem?_eq_none h] at h3
                          have h4 := h2.2.2
                          rw [← h3] at h4
                          rw [show (none : Option Int).getD (-1) = -1 from rfl, digB_end] at h4
                          cases h4
                    have HDR := Aside0.mk (List.drop_suffix n r')
                    have HDL : Aside0 ((r'.drop n).length = r'.length - n ∧ n < r'.length) := ⟨List.length_drop, hlen⟩
                    clear hlen
                    have m3 := (blk_cell HQ3.out 3).trans (show _ = some _ from rfl)
                    have n3 := blk_frozen HQ3.out 3
                    go_upto_region 16 with (fail)
                    have HR3 := Aside0.mk (HR.out.far HNE3.out.2.1 HNE3.out.2.2.1 3 (.bool false))
                    have HK3 := Aside0.mk (keep_far HK.out (p := ⟨b2, 3, none⟩) HNE3.out.2.2.2.2 (.bool false))
                    have HQ30 := Aside0.mk (blk_far HQ.out (p := ⟨b2, 3, none⟩) HNE3.out.2.2.2.1 (.bool false))
                    have HQ33 := Aside0.mk (blk_put HQ3.out 3 (.bool false) (cs' := #[.int .i64 10, .string ⟨#[]⟩, .string ⟨#[]⟩, .bool false, .bool false]) rfl)
                    clear m3 n3 HR HK HQ HQ3
                    generalize wc.setCell ⟨b2, 3, none⟩ (.bool false) = W5 at HR3 HK3 HQ30 HQ33 ⊢
                    obtain ⟨A, cc, i, q0, q1, z1, hi, _⟩ := HR3.out.cells
                    have HST : Aside0 (wrap64 (i + (n : Int)) = (L.length : Int) - (r'.drop n).length) := ⟨by have := HR3.out.len; have := HDL.out; have := HN12.out; unfold wrap64; omega⟩
                    clear hi q0
                    go_upto_region 17 with (fail)
                    have HR := Aside0.mk (HR3.out.set HDR.out HST.out)
                    have HK := Aside0.mk (HK3.out.set_ 1 (.int .i64 (wrap64 (i + (n : Int)))))
                    have HQ := Aside0.mk (blk_far HQ30.out (p := ⟨g, 1, none⟩) HNE.out.1 (.int .i64 (wrap64 (i + (n : Int)))))
                    have HQ3 := Aside0.mk (blk_far HQ33.out (p := ⟨g, 1, none⟩) HNE3.out.1 (.int .i64 (wrap64 (i + (n : Int)))))
                    clear q1 z1
                    generalize W5.setCell ⟨g, 1, none⟩ (.int .i64 (wrap64 (i + (n : Int)))) = W6 at HR HK HQ HQ3 ⊢
                    go_wp2_with (first | (go_at_call 82; (with_reducible refine (while_digit HR.out).mono ?_); rintro e W ⟨uw, rfl, hr, hk⟩; have HQ := Aside0.mk (keep_blk hk HQ.out HNE.out.1); have HQ3 := Aside0.mk (keep_blk hk HQ3.out HNE3.out.1); have HR := Aside0.mk hr; have HK := Aside0.mk (keep_then HK.out hk); clear hr hk) | fail)
                    go_meet
                    case rel => exact ⟨⟨by rw [HDD.out]; (first | rw [if_pos trivial] | rw [if_pos rfl]); exact HR.out⟩, HK, HQ, ⟨by rw [HWW.out]; exact HQ3.out⟩⟩
                  | false =>
                    go_wp2_with fail
                    go_meet
                    case rel => exact ⟨⟨by rw [HDD.out, if_neg (by simp)]; exact HR.out⟩, HK, HQ, ⟨by rw [HWW.out, HPP.out]; exact HQ3.out⟩⟩
                case rest =>
                  clear HR HK HQ HQ3
                  obtain ⟨HR, HK, HQ, HQ3⟩ := hcut
                  clear HWW HDD HEE HB4 HP1 HRC HNN HB3 HY HPP
                  go_upto_region 18 with (fail)
                  obtain ⟨A, cc, i, q0, q1, z1, hi, hcap⟩ := HR.out.cells
                  have HSUF := Aside0.mk (numD_suf s)
                  obtain ⟨xs, hxs⟩ : ∃ x, x = (L.take (L.length - (numD s).length)).drop (L.length - s.length) := ⟨_, rfl⟩
                  have hsl := HSLN.out
                  have hdl := (numD_suf s).length_le
                  have hxl : xs.length = s.length - (numD s).length := by rw [hxs, List.length_drop, List.length_take]; omega
                  obtain ⟨A2, c2, hcut, hCx⟩ : ∃ A2 c2, (∀ W : World, (Instr.slice 38 (.slice A L.length cc) (some (.int .i64 i0)) (some (.int .i64 i)) none).run Tryd.prog W = .ok (.slice A2 xs.length c2) W) ∧ Kd.C (Kd.int .i32) w0 A2 xs.length xs := by
                    obtain ⟨i32, hi32, _, hsz, _⟩ := info_parts info21
                    have h1 := cut_mid (P := Tryd.prog) 38 21 .i64 .i64 Tryd.underlying38 hi32 1 hsz A L.length cc i0 i (by have := HI0.out; omega) (by have := HI0.out; omega) (by omega) hcap
                    have hC := HR.out.row q0
                    have h2 := Kd.C_mid (lo := L.length - s.length) (hi := L.length - (numD s).length) hC (by omega) (by omega) hcap
                    have e1 : i0.toNat = L.length - s.length := by have := HI0.out; omega
                    have e2 : i.toNat - i0.toNat = xs.length := by rw [hxl]; have := HI0.out; omega
                    rw [e2, e1] at h1
                    refine ⟨_, _, h1, ?_⟩
                    rw [hxs]
                    exact h2
                  have HXL := Aside0.mk hxl
                  have HXS := Aside0.mk hxs
                  have HCX := Aside0.mk hCx
                  have m1 := (blk_cell HQ3.out 1).trans (show _ = some _ from rfl)
                  have n1 := blk_frozen HQ3.out 1
                  clear hi hcap hsl hdl hxl hxs hCx z1
                  refine wp_region_noPanic ?_
                  refine wp_region_held_drew (S := (fun w' : World => w'.cell? ⟨g, 0, none⟩ = some (.slice A L.length cc) ∧ w'.cell? ⟨g, 1, none⟩ = some (.int .i64 i) ∧ Below w0.heap.size w0 w')) (by kernel_rfl) ⟨q0, q1, HR.out.drew.bel⟩ (fun hHeld => ?_)
                  refine wpAnyH_take (i := 0) (v := ?_) rfl (by kernel_rfl) (by kernel_rfl) (by kernel_rfl) (fun _ _ _ h => h) (Or.inl ⟨by rfl, ?_⟩) (by assumption) ?_
                  rotate_left
                  focus (intro w hSw; (try dsimp only at hSw); go_simp; try with_reducible rfl)
                  try simp only [Act.put, List.setIfInBounds_toArray, List.set_cons_zero, List.set_cons_succ, List.getElem_toArray, List.getElem_cons_succ, List.getElem_cons_zero]
                  refine wpAnyH_take (i := 1) (v := ?_) rfl (by kernel_rfl) (by kernel_rfl) (by kernel_rfl) (fun _ _ _ h => h) (Or.inl ⟨by rfl, ?_⟩) (by assumption) ?_
                  rotate_left
                  focus (intro w hSw; (try dsimp only at hSw); go_simp; try with_reducible rfl)
                  try simp only [Act.put, List.setIfInBounds_toArray, List.set_cons_zero, List.set_cons_succ, List.getElem_toArray, List.getElem_cons_succ, List.getElem_cons_zero]
                  refine wpAnyH_take (i := 2) (v := ?_) rfl (by kernel_rfl) (by kernel_rfl) (by kernel_rfl) (fun _ _ _ h => h) (Or.inl ⟨by rfl, ?_⟩) (by assumption) ?_
                  rotate_left
                  focus (intro w hSw; (try dsimp only at hSw); go_simp; try with_reducible rfl)
                  try simp only [Act.put, List.setIfInBounds_toArray, List.set_cons_zero, List.set_cons_succ, List.getElem_toArray, List.getElem_cons_succ, List.getElem_cons_zero]
                  refine wpAnyH_take (i := 3) (v := ?_) rfl (by kernel_rfl) (by kernel_rfl) (by kernel_rfl) (fun _ _ _ h => h) (Or.inl ⟨by rfl, ?_⟩) (by assumption) ?_
                  rotate_left
                  focus (intro w hSw; (try dsimp only at hSw); go_simp; try with_reducible rfl)
                  try simp only [Act.put, List.setIfInBounds_toArray, List.set_cons_zero, List.set_cons_succ, List.getElem_toArray, List.getElem_cons_succ, List.getElem_cons_zero]
                  refine wpAnyH_take (i := 4) (v := ?_) rfl (by kernel_rfl) (by kernel_rfl) (by kernel_rfl) (fun _ _ _ h => h) (Or.inl ⟨by rfl, ?_⟩) (by assumption) ?_
                  rotate_left
                  focus (intro w hSw; (try dsimp only at hSw); go_simp; try with_reducible rfl)
                  try simp only [Act.put, List.setIfInBounds_toArray, List.set_cons_zero, List.set_cons_succ, List.getElem_toArray, List.getElem_cons_succ, List.getElem_cons_zero]
                  refine wpAnyH_take (i := 5) (v := ?_) rfl (by kernel_rfl) (by kernel_rfl) (by kernel_rfl) (fun _ _ _ h => h) (Or.inl ⟨by rfl, ?_⟩) (by assumption) ?_
                  rotate_left
                  focus (intro w hSw; (try dsimp only at hSw); go_simp; try with_reducible rfl)
                  try simp only [Act.put, List.setIfInBounds_toArray, List.set_cons_zero, List.set_cons_succ, List.getElem_toArray, List.getElem_cons_succ, List.getElem_cons_zero]
                  refine wpAnyH_take (i := 6) (v := ?_) rfl (by kernel_rfl) (by kernel_rfl) (by kernel_rfl) (fun _ _ _ h => h) (Or.inl ⟨by rfl, ?_⟩) (by assumption) ?_
                  rotate_left
                  focus (intro w hSw; (try dsimp only at hSw); go_simp; try with_reducible rfl)
                  try simp only [Act.put, List.setIfInBounds_toArray, List.set_cons_zero, List.set_cons_succ, List.getElem_toArray, List.getElem_cons_succ, List.getElem_cons_zero]
                  refine wpAnyH_take (i := 7) (v := ?_) rfl (by kernel_rfl) (by kernel_rfl) (by kernel_rfl) (fun _ _ _ h => h) (Or.inl ⟨by rfl, ?_⟩) (by assumption) ?_
                  rotate_left
                  focus (intro w hSw; (try dsimp only at hSw); go_simp; try with_reducible rfl)
                  try simp only [Act.put, List.setIfInBounds_toArray, List.set_cons_zero, List.set_cons_succ, List.getElem_toArray, List.getElem_cons_succ, List.getElem_cons_zero]
                  refine wpAnyH_take (i := 8) (v := ?_) rfl (by kernel_rfl) (by kernel_rfl) (by kernel_rfl) (fun _ _ _ h => h) (Or.inl ⟨by rfl, ?_⟩) (by assumption) ?_
                  rotate_left
                  focus (intro w hSw; (try dsimp only at hSw); go_simp; try with_reducible rfl)
                  try simp only [Act.put, List.setIfInBounds_toArray, List.set_cons_zero, List.set_cons_succ, List.getElem_toArray, List.getElem_cons_succ, List.getElem_cons_zero]
                  refine wpAnyH_take (i := 9) (v := ?_) rfl (by kernel_rfl) (by kernel_rfl) (by kernel_rfl) (fun _ _ _ h => h) (Or.inl ⟨by rfl, ?_⟩) (by assumption) ?_
                  rotate_left
                  focus (intro w hSw; (try dsimp only at hSw); go_simp; try with_reducible rfl)
                  try simp only [Act.put, List.setIfInBounds_toArray, List.set_cons_zero, List.set_cons_succ, List.getElem_toArray, List.getElem_cons_succ, List.getElem_cons_zero]
                  refine wpAnyH_take (i := 10) (v := .string (runesBytes xs)) rfl (by kernel_rfl) (by kernel_rfl) (by kernel_rfl) (fun _ _ _ h => h) (Or.inl ⟨by rfl, ?_⟩) (by assumption) ?_
                  focus (intro w hSw; (try dsimp only at hSw); have hcv := Kd.C_runes (src := 38) (dst := 9) (c := c2) Tryd.underlying38 Tryd.underlying21 Tryd.underlying9 (Kd.C_below HCX.out hSw.2.2); go_simp; try with_reducible rfl)
                  try simp only [Act.put, List.setIfInBounds_toArray, List.set_cons_zero, List.set_cons_succ, List.getElem_toArray, List.getElem_cons_succ, List.getElem_cons_zero]
                  refine wpAnyH_take (i := 11) (v := ?_) rfl (by kernel_rfl) (by kernel_rfl) (by kernel_rfl) (fun _ _ _ h => h) (Or.inl ⟨by rfl, ?_⟩) (by assumption) ?_
                  rotate_left
                  focus (intro w hSw; (try dsimp only at hSw); go_simp; try with_reducible rfl)
                  try simp only [Act.put, List.setIfInBounds_toArray, List.set_cons_zero, List.set_cons_succ, List.getElem_toArray, List.getElem_cons_succ, List.getElem_cons_zero]
                  refine wpAnyH_ready (rs := [12]) (by kernel_rfl) (by simp) ?_
                  refine AllReadyH.cons rfl (fun K hK => ?_) AllReadyH.nil
                  go_simp
                  refine hK.out _ _ ?_ (fun hHeld2 => ?_)
                  · exact ⟨(HR.out.cellsF q0 q1 HNE3.out.2.1 1 _).1, (HR.out.cellsF q0 q1 HNE3.out.2.1 1 _).2, below_set HR.out.drew.bel HNE3.out.2.2.1⟩
                  refine wpAnyH_done (by kernel_rfl) ?_ _
                  refine NoPanic.normal ?_
                  obtain ⟨tx, htx⟩ : ∃ x, x = runesBytes xs := ⟨_, rfl⟩
                  rw [← htx]
                  have HTX := Aside0.mk htx
                  have HTN : Aside0 (tx = runesBytes (numX s)) := ⟨by rw [HTX.out, HXS.out]; unfold numX; rw [cut_eq HSS.out HSUF.out.length_le]⟩
                  have HR2 := Aside0.mk ((HR.out.far HNE3.out.2.1 HNE3.out.2.2.1 1 (.string tx)).drew)
                  have HK2 := Aside0.mk (keep_drew (keep_far HK.out (p := ⟨b2, 1, none⟩) HNE3.out.2.2.2.2 (.string tx)))
                  have HQ2 : Aside0 ((wc.setCell ⟨b2, 1, none⟩ (.string tx)).drew.heap[b]? = some (.cells #[.int .i64 0, .string ⟨#[]⟩, .string ⟨#[]⟩, .bool false, .bool false] 26 (0, 0))) := ⟨blk_far HQ.out (p := ⟨b2, 1, none⟩) HNE3.out.2.2.2.1 (.string tx)⟩
                  have HQ32 : Aside0 ((wc.setCell ⟨b2, 1, none⟩ (.string tx)).drew.heap[b2]? = some (.cells #[.int .i64 10, .string tx, .string ⟨#[]⟩, .bool (numW s), .bool false] 26 (0, 0))) := ⟨blk_put HQ3.out 1 (.string tx) (cs' := #[.int .i64 10, .string tx, .string ⟨#[]⟩, .bool (numW s), .bool false]) rfl⟩
                  clear hHeld hHeld2 hK K htx m1 n1 q0 q1 hcut HR HK HQ HQ3
                  generalize (wc.setCell ⟨b2, 1, none⟩ (.string tx)).drew = W8 at HR2 HK2 HQ2 HQ32 ⊢
                  have HR := HR2
                  have HK := HK2
                  have HQ := HQ2
                  have HQ3 := HQ32
                  clear HR2 HK2 HQ2 HQ32
                  have HNT : Aside0 (numT s = if begB (numD s) 0 = true then tokV 12 tx ⟨(strR (nameS (numD s)).1).toArray⟩ (numW s) false else if pk (numD s) 0 = 37 then tokV 11 tx ⟨#[]⟩ (numW s) false else tokV 10 tx ⟨#[]⟩ (numW s) false) := ⟨by rw [HTN.out]; rfl⟩
                  have HNR : Aside0 (numR s = if begB (numD s) 0 = true then (nameS (numD s)).2 else if pk (numD s) 0 = 37 then (numD s).tail else numD s) := ⟨rfl⟩
                  generalize numW s = wh at HQ3 HNT
                  generalize numD s = d at HR HNT HNR
                  obtain ⟨tb, htb⟩ : ∃ x, x = begB d 0 := ⟨_, rfl⟩
                  have HTB := Aside0.mk htb.symm
                  rw [← htb] at HNT HNR
                  clear htb
                  cases tb with
                  | true =>
                    have HNT2 : Aside0 (numT s = tokV 12 tx ⟨(strR (nameS d).1).toArray⟩ wh false) := ⟨by rw [HNT.out]; rfl⟩
                    have HNR2 : Aside0 (numR s = (nameS d).2) := ⟨by rw [HNR.out]; rfl⟩
                    obtain ⟨un, hun⟩ : ∃ x : ByteArray, x = ⟨(strR (nameS d).1).toArray⟩ := ⟨_, rfl⟩
                    have HUN : Aside0 ((⟨(strR (nameS d).1).toArray⟩ : ByteArray) = un) := ⟨hun.symm⟩
                    rw [← hun] at HNT2
                    clear hun
                    go_upto_region 20 with (first | (go_at_call 72; (with_reducible refine (beg0_c HR.out).mono ?_); rintro e W ⟨rfl, hr, hk⟩; rw [HTB.out]; have HQ := Aside0.mk (keep_blk hk HQ.out HNE.out.1); have HQ3 := Aside0.mk (keep_blk hk HQ3.out HNE3.out.1); have HR := Aside0.mk hr; have HK := Aside0.mk (keep_then HK.out hk); clear hr hk) | fail)
                    go_upto_region 24 with (first | (go_at_call 84; (with_reducible refine (name_c HR.out).mono ?_); rw [HUN.out]; rintro e W ⟨rfl, hr, hk⟩; have HQ := Aside0.mk (keep_blk hk HQ.out HNE.out.1); have HQ3 := Aside0.mk (keep_blk hk HQ3.out HNE3.out.1); have HR := Aside0.mk hr; have HK := Aside0.mk (keep_then HK.out hk); have m0 := (blk_cell HQ3.out 0).trans (show _ = some _ from rfl); have n0 := blk_frozen HQ3.out 0; have m2 := (blk_cell HQ3.out 2).trans (show _ = some _ from rfl); have n2 := blk_frozen HQ3.out 2; clear hr hk) | fail)
                    have HR3 := Aside0.mk ((HR.out.far HNE3.out.2.1 HNE3.out.2.2.1 0 (.int .i64 12)).far HNE3.out.2.1 HNE3.out.2.2.1 2 (.string un))
                    have HK3 := Aside0.mk (keep_far (keep_far HK.out (p := ⟨b2, 0, none⟩) HNE3.out.2.2.2.2 (.int .i64 12)) (p := ⟨b2, 2, none⟩) HNE3.out.2.2.2.2 (.string un))
                    have HQ30 := Aside0.mk (blk_far (blk_far HQ.out (p := ⟨b2, 0, none⟩) HNE3.out.2.2.2.1 (.int .i64 12)) (p := ⟨b2, 2, none⟩) HNE3.out.2.2.2.1 (.string un))
                    have HQ33 := Aside0.mk (blk_put (blk_put HQ3.out 0 (.int .i64 12) (cs' := #[.int .i64 12, .string tx, .string ⟨#[]⟩, .bool wh, .bool false]) rfl) 2 (.string un) (cs' := #[.int .i64 12, .string tx, .string un, .bool wh, .bool false]) rfl)
                    clear m0 n0 m2 n2 HR HK HQ HQ3
                    generalize (W.setCell ⟨b2, 0, none⟩ (.int .i64 12)).setCell ⟨b2, 2, none⟩ (.string un) = W9 at HR3 HK3 HQ30 HQ33 ⊢
                    have HR := HR3
                    have HK := HK3
                    have HQ := HQ30
                    have HQ3 := HQ33
                    have e0 := (blk_cell HQ3.out 0).trans (show _ = some _ from rfl)
                    have e1 := (blk_cell HQ3.out 1).trans (show _ = some _ from rfl)
                    have e2 := (blk_cell HQ3.out 2).trans (show _ = some _ from rfl)
                    have e3 := (blk_cell HQ3.out 3).trans (show _ = some _ from rfl)
                    have e4 := (blk_cell HQ3.out 4).trans (show _ = some _ from rfl)
                    have m0 := (blk_cell HQ.out 0).trans (show _ = some _ from rfl)
                    have n0 := blk_frozen HQ.out 0
                    have m1 := (blk_cell HQ.out 1).trans (show _ = some _ from rfl)
                    have n1 := blk_frozen HQ.out 1
                    have m2 := (blk_cell HQ.out 2).trans (show _ = some _ from rfl)
                    have n2 := blk_frozen HQ.out 2
                    have m3 := (blk_cell HQ.out 3).trans (show _ = some _ from rfl)
                    have n3 := blk_frozen HQ.out 3
                    have m4 := (blk_cell HQ.out 4).trans (show _ = some _ from rfl)
                    have n4 := blk_frozen HQ.out 4
                    go_wp2_with fail
                    refine bodyPost_ret (results_cell_row rfl _ _ b 26 #[.int .i64 12, .string tx, .string un, .bool wh, .bool false] (0, 0) _ rfl (tok_put HQ.out _ _ _ _ _) Tryd.underlying26 rfl (by kernel_rfl)) rfl ?_
                    exact ⟨by rw [HNT2.out]; rfl, by rw [HNR2.out]; exact HR.out.far5 HNE.out.2.1 HNE.out.2.2 _ _ _ _ _, keep_far5 HK.out HBD.out _ _ _ _ _⟩
                  | false =>
                    have HNT2 : Aside0 (numT s = if pk d 0 = 37 then tokV 11 tx ⟨#[]⟩ wh false else tokV 10 tx ⟨#[]⟩ wh false) := ⟨by rw [HNT.out]; rfl⟩
                    have HNR2 : Aside0 (numR s = if pk d 0 = 37 then d.tail else d) := ⟨by rw [HNR.out]; rfl⟩
                    obtain ⟨p5, hp5⟩ : ∃ x, x = pk d 0 := ⟨_, rfl⟩
                    have HP5 := Aside0.mk hp5.symm
                    rw [← hp5] at HNT2 HNR2
                    by_cases k5 : p5 = 37
                    · have d5 : (p5 == 37) = true := by simp [k5]
                      obtain ⟨c, t, hct⟩ : ∃ c t, d = c :: t := by
                        cases d with
                        | nil => rw [hp5] at k5; simp [pk] at k5
                        | cons c t => exact ⟨c, t, rfl⟩
                      subst hct
                      have HNT3 : Aside0 (numT s = tokV 11 tx ⟨#[]⟩ wh false) := ⟨by rw [HNT2.out, if_pos k5]⟩
                      have HNR3 : Aside0 (numR s = t) := ⟨by rw [HNR2.out, if_pos k5]; rfl⟩
                      clear k5 hp5
                      have m0 := (blk_cell HQ3.out 0).trans (show _ = some _ from rfl)
                      have n0 := blk_frozen HQ3.out 0
                      go_upto_region 22 with (first | (go_at_call 72; (with_reducible refine (beg0_c HR.out).mono ?_); rintro e W ⟨rfl, hr, hk⟩; rw [HTB.out]; have HQ := Aside0.mk (keep_blk hk HQ.out HNE.out.1); have HQ3 := Aside0.mk (keep_blk hk HQ3.out HNE3.out.1); have HR := Aside0.mk hr; have HK := Aside0.mk (keep_then HK.out hk); clear hr hk) | (go_at_call 62; (with_reducible refine (peek0_c HR.out).mono ?_); rintro e W ⟨rfl, hr, hk⟩; rw [HP5.out]; have HQ := Aside0.mk (keep_blk hk HQ.out HNE.out.1); have HQ3 := Aside0.mk (keep_blk hk HQ3.out HNE3.out.1); have HR := Aside0.mk hr; have HK := Aside0.mk (keep_then HK.out hk); clear hr hk) | fail)
                      have m0 := (blk_cell HQ3.out 0).trans (show _ = some _ from rfl)
                      have n0 := blk_frozen HQ3.out 0
                      go_upto_region 23 with (fail)
                      have HR3 := Aside0.mk (HR.out.far HNE3.out.2.1 HNE3.out.2.2.1 0 (.int .i64 11))
                      have HK3 := Aside0.mk (keep_far HK.out (p := ⟨b2, 0, none⟩) HNE3.out.2.2.2.2 (.int .i64 11))
                      have HQ30 := Aside0.mk (blk_far HQ.out (p := ⟨b2, 0, none⟩) HNE3.out.2.2.2.1 (.int .i64 11))
                      have HQ33 := Aside0.mk (blk_put HQ3.out 0 (.int .i64 11) (cs' := #[.int .i64 11, .string tx, .string ⟨#[]⟩, .bool wh, .bool false]) rfl)
                      clear m0 n0 HR HK HQ HQ3
                      generalize W.setCell ⟨b2, 0, none⟩ (.int .i64 11) = W5 at HR3 HK3 HQ30 HQ33 ⊢
                      obtain ⟨A, cc, i, q0, q1, z1, hi, _⟩ := HR3.out.cells
                      have HST : Aside0 (wrap64 (i + 1) = (L.length : Int) - t.length) := ⟨by have := HR3.out.len; simp only [List.length_cons] at this hi; unfold wrap64; omega⟩
                      clear hi q0
                      go_upto_region 24 with (fail)
                      have HR := Aside0.mk (HR3.out.set (List.suffix_cons c t) HST.out)
                      have HK := Aside0.mk (HK3.out.set_ 1 (.int .i64 (wrap64 (i + 1))))
                      have HQ := Aside0.mk (blk_far HQ30.out (p := ⟨g, 1, none⟩) HNE.out.1 (.int .i64 (wrap64 (i + 1))))
                      have HQ3 := Aside0.mk (blk_far HQ33.out (p := ⟨g, 1, none⟩) HNE3.out.1 (.int .i64 (wrap64 (i + 1))))
                      clear q1 z1
                      generalize W5.setCell ⟨g, 1, none⟩ (.int .i64 (wrap64 (i + 1))) = W6 at HR HK HQ HQ3 ⊢
                      have e0 := (blk_cell HQ3.out 0).trans (show _ = some _ from rfl)
                      have e1 := (blk_cell HQ3.out 1).trans (show _ = some _ from rfl)
                      have e2 := (blk_cell HQ3.out 2).trans (show _ = some _ from rfl)
                      have e3 := (blk_cell HQ3.out 3).trans (show _ = some _ from rfl)
                      have e4 := (blk_cell HQ3.out 4).trans (show _ = some _ from rfl)
                      have m0 := (blk_cell HQ.out 0).trans (show _ = some _ from rfl)
                      have n0 := blk_frozen HQ.out 0
                      have m1 := (blk_cell HQ.out 1).trans (show _ = some _ from rfl)
                      have n1 := blk_frozen HQ.out 1
                      have m2 := (blk_cell HQ.out 2).trans (show _ = some _ from rfl)
                      have n2 := blk_frozen HQ.out 2
                      have m3 := (blk_cell HQ.out 3).trans (show _ = some _ from rfl)
                      have n3 := blk_frozen HQ.out 3
                      have m4 := (blk_cell HQ.out 4).trans (show _ = some _ from rfl)
                      have n4 := blk_frozen HQ.out 4
                      go_wp2_with fail
                      refine bodyPost_ret (results_cell_row rfl _ _ b 26 #[.int .i64 11, .string tx, .string ⟨#[]⟩, .bool wh, .bool false] (0, 0) _ rfl (tok_put HQ.out _ _ _ _ _) Tryd.underlying26 rfl (by kernel_rfl)) rfl ?_
                      exact ⟨by rw [HNT3.out]; rfl, by rw [HNR3.out]; exact HR.out.far5 HNE.out.2.1 HNE.out.2.2 _ _ _ _ _, keep_far5 HK.out HBD.out _ _ _ _ _⟩
                    · have d5 : (p5 == 37) = false := by simp [k5]
                      have HNT3 : Aside0 (numT s = tokV 10 tx ⟨#[]⟩ wh false) := ⟨by rw [HNT2.out, if_neg k5]⟩
                      have HNR3 : Aside0 (numR s = d) := ⟨by rw [HNR2.out, if_neg k5]⟩
                      clear k5 hp5
                      go_upto_region 24 with (first | (go_at_call 72; (with_reducible refine (beg0_c HR.out).mono ?_); rintro e W ⟨rfl, hr, hk⟩; rw [HTB.out]; have HQ := Aside0.mk (keep_blk hk HQ.out HNE.out.1); have HQ3 := Aside0.mk (keep_blk hk HQ3.out HNE3.out.1); have HR := Aside0.mk hr; have HK := Aside0.mk (keep_then HK.out hk); clear hr hk) | (go_at_call 62; (with_reducible refine (peek0_c HR.out).mono ?_); rintro e W ⟨rfl, hr, hk⟩; rw [HP5.out]; have HQ := Aside0.mk (keep_blk hk HQ.out HNE.out.1); have HQ3 := Aside0.mk (keep_blk hk HQ3.out HNE3.out.1); have HR := Aside0.mk hr; have HK := Aside0.mk (keep_then HK.out hk); clear hr hk) | fail)
                      have e0 := (blk_cell HQ3.out 0).trans (show _ = some _ from rfl)
                      have e1 := (blk_cell HQ3.out 1).trans (show _ = some _ from rfl)
                      have e2 := (blk_cell HQ3.out 2).trans (show _ = some _ from rfl)
                      have e3 := (blk_cell HQ3.out 3).trans (show _ = some _ from rfl)
                      have e4 := (blk_cell HQ3.out 4).trans (show _ = some _ from rfl)
                      have m0 := (blk_cell HQ.out 0).trans (show _ = some _ from rfl)
                      have n0 := blk_frozen HQ.out 0
                      have m1 := (blk_cell HQ.out 1).trans (show _ = some _ from rfl)
                      have n1 := blk_frozen HQ.out 1
                      have m2 := (blk_cell HQ.out 2).trans (show _ = some _ from rfl)
                      have n2 := blk_frozen HQ.out 2
                      have m3 := (blk_cell HQ.out 3).trans (show _ = some _ from rfl)
                      have n3 := blk_frozen HQ.out 3
                      have m4 := (blk_cell HQ.out 4).trans (show _ = some _ from rfl)
                      have n4 := blk_frozen HQ.out 4
                      go_wp2_with fail
                      refine bodyPost_ret (results_cell_row rfl _ _ b 26 #[.int .i64 10, .string tx, .string ⟨#[]⟩, .bool wh, .bool false] (0, 0) _ rfl (tok_put HQ.out _ _ _ _ _) Tryd.underlying26 rfl (by kernel_rfl)) rfl ?_
                      exact ⟨by rw [HNT3.out]; rfl, by rw [HNR3.out]; exact HR.out.far5 HNE.out.2.1 HNE.out.2.2 _ _ _ _ _, keep_far5 HK.out HBD.out _ _ _ _ _⟩
end Go.Proofs.YtpnlbmeeihbjaabDoor.P
end
