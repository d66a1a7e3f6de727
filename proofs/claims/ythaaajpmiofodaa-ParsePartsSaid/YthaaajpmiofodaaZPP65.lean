/- ParseParts: for every input the law returns true, and each argument reads behind the call as it read before. -/
import Derived.Test.YthaaajpmiofodaaZPP61
import Derived.Test.YthaaajpmiofodaaZPP62
import Derived.Test.YthaaajpmiofodaaZPP64
import Derived.Laws.Cover4
import Derived.Laws.Slices
import Derived.Laws.IdiomStrings
import Derived.Lib.ConvBytes
import Derived.Laws.BytesArg
section
set_option linter.unusedVariables false
set_option linter.unusedSimpArgs false
namespace Go.Proofs.YthaaajpmiofodaaW.PrintWords
open Go.RowKit
theorem Kd.C_runes {P : Program} {w : World} {src dst e : TypeId} {A : Option Addr} {n c : Nat} {xs : List Int} (hs : P.underlying src = some (.slice e)) (he : P.underlying e = some (.int .i32)) (hd : P.underlying dst = some .string)
    (h : (Kd.int .i32).C w A n xs) : (convert src dst (.slice A n c)).run P w = .ok (.string (runesBytes xs)) w := by
  have hr : ReadsInt w .i32 A n xs := Kd.reads_of_C (enc := Value.int .i32) (d := (0 : Int)) (h1 := fun _ => rfl) h
  obtain ⟨hl, hm, hc⟩ := hr
  rcases Nat.eq_zero_or_pos n with h0 | h0
  · obtain rfl : xs = [] := List.eq_nil_of_length_eq_zero (by omega)
    subst h0
    rcases A with _ | ad
    · exact run_convert_runes_nil w src dst e 0 c hs he hd
    · have := run_convert_runes (P := P) w src dst e ad 0 c [] (Nat.le_refl _) hs he hd (fun j hj => absurd hj (by simp))
      simpa using this
  · obtain ⟨ad, rfl, hcc⟩ := hc h0
    have := run_convert_runes (P := P) w src dst e ad n c xs (by omega) hs he hd (fun j hj => hcc j (by omega))
    rwa [List.take_of_length_le (by omega)] at this
theorem own_runes {P : Program} {w : World} {base n : Nat} {e' src dst e : TypeId} {v : Value} {xs : List Int} (hs : P.underlying src = some (.slice e)) (he : P.underlying e = some (.int .i32)) (hd : P.underlying dst = some .string)
    (h : w.ownsRow base e' 1 v n (nums .i32 xs)) : (convert src dst v).run P w = .ok (.string (runesBytes xs)) w := by
  obtain ⟨A, c, rfl, hr⟩ := own_reads h
  exact Kd.C_runes hs he hd (Kd.C_of_reads (d := (0 : Int)) (h1 := fun _ => rfl) hr)
theorem cut_to3 {P : Program} (t e : TypeId) (kh : IntKind) {i : TypeInfo} (ht : P.underlying t = some (.slice e)) (hi : P.info? e = some i) (A : Option Addr) (n c : Nat) (j : Int) (h0 : 0 ≤ j) (hm : j ≤ n) (hc : n ≤ c) :
    ∀ W : World, (Instr.slice t (.slice A n c) none (some (.int kh j)) (some (.int kh j))).run P W = .ok (.slice A j.toNat j.toNat) W := by
  intro W
  have hel : P.elem t = e := by simp [Program.elem, ht]
  have hu : P.underlying t = some (.slice (P.elem t)) := by rw [hel]; exact ht
  have ha : (A.map fun x => x.add 0) = A := by cases A <;> simp [Addr.add]
  have h1 : j ≤ (j.toNat : Int) := by omega
  have h2 : j ≤ (c : Int) := by omega
  have hb := run_sliceBound (P := P) (w := W) kh j j.toNat BoundsCode.slice3B h0 h1
  simp [Instr.slice, run_underlying hu, Instr.sliceBounds, run_sliceBound, h0, h2, hel, sizeOf, typeInfo, hi, Result.andThen, ha]
  rw [hb]
theorem Kd.F_rest {P : Program} {α : Type} {d : Kd α} {W0 : World} {ok : Nat → Prop} {A : Option Addr} {xs : List α} {c : Nat} (t e : TypeId) (kh : IntKind) {z : Value} {bytes : Nat} (ht : P.underlying t = some (.slice e)) (hinfo : (P.info? e).map (fun i => (i.zero, i.size, i.bytes)) = some (some z, d.sz, bytes))
    (h : Kd.F d W0 ok A xs.length xs) (hc : xs.length ≤ c) (j : Nat) (hj : j ≤ xs.length) :
    ∃ A2 c2, (∀ W : World, (Instr.slice t (.slice A xs.length c) (some (.int kh j)) none none).run P W = .ok (.slice A2 (xs.drop j).length c2) W) ∧ Kd.F d W0 ok A2 (xs.drop j).length (xs.drop j) ∧ (xs.drop j).length ≤ c2 := by
  obtain ⟨i0, hi, _, hsz, _⟩ := info_parts hinfo
  have hcut := cut_from (P := P) t e kh ht hi d.sz hsz A xs.length c j (by omega) (by omega)
  have hF := Kd.F_cut (m := j) (c := c) h hj hc
  refine ⟨_, c - j, fun W => ?_, hF, ?_⟩
  · have := hcut W
    rw [Int.toNat_natCast] at this
    rw [this, List.length_drop]
  · rw [List.length_drop]; omega
theorem Kd.F_tail {P : Program} {α : Type} {d : Kd α} {W0 : World} {ok : Nat → Prop} {A : Option Addr} {xs : List α} {c : Nat} (t e : TypeId) (kh : IntKind) {z : Value} {bytes : Nat} (ht : P.underlying t = some (.slice e)) (hinfo : (P.info? e).map (fun i => (i.zero, i.size, i.bytes)) = some (some z, d.sz, bytes))
    (h : Kd.F d W0 ok A xs.length xs) (hc : xs.length ≤ c) (hj : 0 < xs.length) :
    ∃ A2 c2, (∀ W : World, (Instr.slice t (.slice A xs.length c) (some (.int kh 1)) none none).run P W = .ok (.slice A2 (xs.drop 1).length c2) W) ∧ Kd.F d W0 ok A2 (xs.drop 1).length (xs.drop 1) ∧ (xs.drop 1).length ≤ c2 :=
  Kd.F_rest t e kh ht hinfo h hc 1 hj
theorem Kd.F_upto {P : Program} {α : Type} {d : Kd α} {W0 : World} {ok : Nat → Prop} {A : Option Addr} {xs : List α} {c : Nat} (t e : TypeId) (kh : IntKind) {z : Value} {bytes : Nat} (ht : P.underlying t = some (.slice e)) (hinfo : (P.info? e).map (fun i => (i.zero, i.size, i.bytes)) = some (some z, d.sz, bytes))
    (h : Kd.F d W0 ok A xs.length xs) (hc : xs.length ≤ c) (j : Nat) (hj : j ≤ xs.length) :
    (∀ W : World, (Instr.slice t (.slice A xs.length c) none (some (.int kh j)) none).run P W = .ok (.slice A j c) W) ∧ Kd.F d W0 ok A (xs.take j).length (xs.take j) ∧ (xs.take j).length ≤ c := by
  obtain ⟨i0, hi, _, hsz, _⟩ := info_parts hinfo
  have hcut := cut_to (P := P) t e kh ht hi A xs.length c j (by omega) (by omega) hc
  refine ⟨fun W => ?_, Kd.F_take h hj, by rw [List.length_take]; omega⟩
  have := hcut W
  rwa [Int.toNat_natCast] at this
theorem Kd.F_upto3 {P : Program} {α : Type} {d : Kd α} {W0 : World} {ok : Nat → Prop} {A : Option Addr} {xs : List α} {c : Nat} (t e : TypeId) (kh : IntKind) {z : Value} {bytes : Nat} (ht : P.underlying t = some (.slice e)) (hinfo : (P.info? e).map (fun i => (i.zero, i.size, i.bytes)) = some (some z, d.sz, bytes))
    (h : Kd.F d W0 ok A xs.length xs) (hc : xs.length ≤ c) (j : Nat) (hj : j ≤ xs.length) :
    (∀ W : World, (Instr.slice t (.slice A xs.length c) none (some (.int kh j)) (some (.int kh j))).run P W = .ok (.slice A j j) W) ∧ Kd.F d W0 ok A (xs.take j).length (xs.take j) ∧ (xs.take j).length ≤ j := by
  obtain ⟨i0, hi, _, hsz, _⟩ := info_parts hinfo
  have hcut := cut_to3 (P := P) t e kh ht hi A xs.length c j (by omega) (by omega) hc
  refine ⟨fun W => ?_, Kd.F_take h hj, by rw [List.length_take]; omega⟩
  have := hcut W
  rwa [Int.toNat_natCast] at this
def BRow (w : World) (g : Nat) (e : TypeId) (ys : List Int) : Prop :=
  ∃ (cs : Array Value) (m : Nat), w.heap[g]? = some (.cells cs e (m, m + 1)) ∧ ys.length ≤ m ∧ m ≤ cs.size ∧ ∀ j, j < ys.length → cs[j]? = some (.int .u8 (ys.getD j 0))
def bytesOfS (s : ByteArray) : List Int := s.data.toList.map fun b => (b.toNat : Int)
theorem bytesOfS_len (s : ByteArray) : (bytesOfS s).length = s.size := by unfold bytesOfS; rw [List.length_map, Array.length_toList]; rfl
theorem BRow.made (w : World) (e : TypeId) (s : ByteArray) : BRow (Lib.bytesWorld w e s) w.heap.size e (bytesOfS s) := by
  have hcell : ∀ j, j < (bytesOfS s).length → (Lib.bytesCells w e s)[j]? = some (.int .u8 ((bytesOfS s).getD j 0)) := by
    intro j hj
    have hj' : j < s.size := by rwa [bytesOfS_len] at hj
    have := Lib.bytesWorld_cell w e s j hj'
    simp only [World.cell?, Lib.bytesWorld_at_new, Option.isSome_none, Bool.false_eq_true, if_false] at this
    rw [this]
    have hj2 : j < s.data.size := hj'
    simp [bytesOfS, List.getD_eq_getElem?_getD, Array.getElem?_eq_getElem hj2]
  refine ⟨_, _, Lib.bytesWorld_at_new w e s, ?_, Nat.le_refl _, hcell⟩
  rcases Nat.lt_or_ge (Lib.bytesCells w e s).size (bytesOfS s).length with h | h
  · have := hcell _ h
    rw [Array.getElem?_eq_none (Nat.le_refl _)] at this
    cases this
  · exact h
theorem BRow.cell {w : World} {g : Nat} {e : TypeId} {ys : List Int} (h : BRow w g e ys) (j : Nat) (hj : j < ys.length) : w.cell? ⟨g, j, none⟩ = some (.int .u8 (ys.getD j 0)) := by
  obtain ⟨cs, m, hb, _, _, hc⟩ := h
  simp only [World.cell?, hb]
  exact hc j hj
theorem BRow.free {w : World} {g : Nat} {e : TypeId} {ys : List Int} (h : BRow w g e ys) (j : Nat) (hj : j < ys.length) : w.frozen? ⟨g, j, none⟩ = false := by
  obtain ⟨cs, m, hb, hm, _, hc⟩ := h
  simp only [World.frozen?, hb]
  simp
  omega
theorem BRow.set {w : World} {g : Nat} {e : TypeId} {ys : List Int} (h : BRow w g e ys) (j : Nat) (x : Int) : BRow (w.setCell ⟨g, j, none⟩ (.int .u8 x)) g e (ys.set j x) := by
  obtain ⟨cs, m, hb, hm, hm2, hc⟩ := h
  have hlt := (Array.getElem?_eq_some_iff.1 hb).1
  refine ⟨cs.setIfInBounds j (.int .u8 x), m, ?_, by simpa using hm, by simpa using hm2, fun i hi => ?_⟩
  · unfold World.setCell
    simp [hb, Array.getElem?_modify]
  · have hi' : i < ys.length := by simpa using hi
    by_cases e : i = j
    · subst e
      rw [Array.getElem?_setIfInBounds_self_of_lt (by omega)]
      simp [List.getD_eq_getElem?_getD, hi']
    · rw [Array.getElem?_setIfInBounds_ne (Ne.symm e), hc i hi']
      simp [List.getD_eq_getElem?_getD, Ne.symm e]
theorem BRow.str {P : Program} {w : World} {g : Nat} {e : TypeId} {ys : List Int} (h : BRow w g e ys) (src dst : TypeId) (c : Nat) (hs : P.underlying src = some (.slice e)) (he : P.underlying e = some (.int .u8)) (hd : P.underlying dst = some .string) (n : Nat) (hn : ys.length = n) :
    (convert src dst (.slice (some ⟨g, 0, none⟩) n c)).run P w = .ok (.string (strOfNums ys)) w := by
  subst hn
  refine run_convert_bytes_arg w src e hs he g 0 ys.length c ys rfl (fun i hi => ?_) dst hd
  rw [Nat.zero_add]
  exact h.cell i hi
theorem BRow.below {w : World} {g : Nat} {e : TypeId} {ys : List Int} (h : BRow w g e ys) {w1 : World} (hb : Below w.heap.size w w1) : BRow w1 g e ys := by
  obtain ⟨cs, m, hh, r⟩ := h
  exact ⟨cs, m, (hb.block g (Array.getElem?_eq_some_iff.1 hh).1).trans hh, r⟩
theorem bytesWorld_below (w : World) (e : TypeId) (s : ByteArray) : Below w.heap.size w (Lib.bytesWorld w e s) := by
  refine ⟨rfl, rfl, rfl, by rw [Lib.bytesWorld_size]; omega, fun k hk => Lib.bytesWorld_at_old w e s k hk⟩
def runesFromL (s : ByteArray) : (bound i : Nat) → List Int
  | 0, _ => []
  | bound + 1, i => if i < s.size then Int.ofNat (Utf8.decode s i).1 :: runesFromL s bound (i + (Utf8.decode s i).2) else []
def runesL (s : ByteArray) : List Int := runesFromL s s.size 0
theorem runesFrom_list (s : ByteArray) : ∀ (b i : Nat) (acc : Array Value), Conv.runesFrom s b i acc = acc ++ ((runesFromL s b i).map (Value.int .i32)).toArray
  | 0, _, acc => by simp [Conv.runesFrom, runesFromL]
  | b + 1, i, acc => by
    unfold Conv.runesFrom runesFromL
    split
    · show Conv.runesFrom s b (i + (Utf8.decode s i).2) (acc.push (Value.int IntKind.i32 (Int.ofNat (Utf8.decode s i).1))) = _
      rw [runesFrom_list s b]
      apply Array.ext'
      simp
    · simp
theorem runesFrom_eq (s : ByteArray) : Conv.runesFrom s s.size 0 #[] = ((runesL s).map (Value.int .i32)).toArray := by rw [runesFrom_list]; simp [runesL]
theorem runesFromL_len (s : ByteArray) : ∀ b i, (runesFromL s b i).length ≤ b
  | 0, _ => by simp [runesFromL]
  | b + 1, i => by
    unfold runesFromL
    split
    · have := runesFromL_len s b (i + (Utf8.decode s i).2); simp; omega
    · simp
theorem runes_made {P : Program} (w : World) (src dst e : TypeId) (s : ByteArray) (hs : P.underlying src = some .string) (hd : P.underlying dst = some (.slice e)) (he : P.underlying e = some (.int .i32)) (hl : s.size ≤ 70368744177664) :
    ∃ c w1, (convert src dst (.string s)).run P w = .ok (.slice (some ⟨w.heap.size, 0, none⟩) (runesL s).length c) w1 ∧ (runesL s).length ≤ c ∧ Below w.heap.size w w1 ∧ Kd.C (Kd.int .i32) w1 (some ⟨w.heap.size, 0, none⟩) (runesL s).length (runesL s) := by
  have hlen : (runesL s).length ≤ s.size := runesFromL_len s _ _
  have hsz : (Conv.runesFrom s s.size 0 #[]).size = (runesL s).length := by rw [runesFrom_eq]; simp
  have h := run_runes_of_string (P := P) w src dst e s hs hd he (by omega)
  have hge := grownCap_ge w (Conv.runesFrom s s.size 0 #[]).size 0 e
  refine ⟨_, _, by rw [hsz] at h; exact h, by rw [← hsz]; exact hge, below_alloc (below_drew (Below.refl _ _)) _, ?_⟩
  refine Kd.C_of_reads (d := (0 : Int)) (h1 := fun _ => rfl) ⟨rfl, by omega, fun _ => ⟨_, rfl, fun j hj => ?_⟩⟩
  have hcell := blk_cell (heap_alloc_new w.drew (.cells (Conv.runesFrom s s.size 0 #[] ++ Array.replicate (grownCap w (runesL s).length 0 e - (runesL s).length) (.int .i32 0)) e)) j
  rw [add_plain]
  rw [show (⟨w.heap.size, j, none⟩ : Addr) = ⟨w.drew.heap.size, j, none⟩ from rfl]
  refine hcell.trans ?_
  rw [Array.getElem?_append_left (by omega), runesFrom_eq]
  simp [List.getD_eq_getElem?_getD, hj]
end Go.Proofs.YthaaajpmiofodaaW.PrintWords
end
