/- The law TokenWrites (layer 2): the row and its tied card: for every input the law returns true, and the arguments read behind the call as they read before. No condition of ours. -/
import Derived.Test.YtpnlbmeeihbjaabDoorZWT1
import Derived.Test.YtpnlbmeeihbjaabDoorZWT3
import Derived.Test.YtpnlbmeeihbjaabDoorZWT5
import Derived.Laws.Cover4
import Derived.Laws.Slices
import Derived.Laws.IdiomStrings
import Derived.Lib.ConvBytes
import Derived.Laws.BytesArg
section
set_option linter.unusedVariables false
set_option linter.unusedSimpArgs false
namespace Go.Proofs.YtpnlbmeeihbjaabDoorW.PrintWords
open Go.RowKit
theorem Kd.C_runes {P : Program} {w : World} {src dst e : TypeId} {A : Option Addr} {n c : Nat} {xs : List Int} (hs : P.underlying src = some (.slice e)) (he : P.underlying e = some (.int .i32)) (hd : P.underlying dst = some .string)
    (h : (Kd.int .i32).C w A n xs) : (convert src dst (.slice A n c)).run P w = .ok (.string (runesBytes xs)) w := by
  have hr : ReadsInt w .i32 A n xs := Kd.reads_of_C (enc := Value.int .i32) (d := (0 : Int)) (h1 := fun _ => rfl) h
  obtain ⟨hl, hm, hc⟩ := hr
  rcases Nat.eq_zero_or_pos n with h0 | h0
  · obtain rfl : xs = [] := List.eq_nil_of_length_eq_zero (by omega)
    subst h0
    rcases A with _ | ad
    · exact run_convert_runes_nil w src dst e 0 c hs he hd
    · have := run_convert_runes (P := P) w src dst e ad 0 c [] (Nat.le_refl _) hs he hd (fun j hj => absurd hj (by simp))
      simpa using this
  · obtain ⟨ad, rfl, hcc⟩ := hc h0
    have := run_convert_runes (P := P) w src dst e ad n c xs (by omega) hs he hd (fun j hj => hcc j (by omega))
    rwa [List.take_of_length_le (by omega)] at this
theorem own_runes {P : Program} {w : World} {base n : Nat} {e' src dst e : TypeId} {v : Value} {xs : List Int} (hs : P.underlying src = some (.slice e)) (he : P.underlying e = some (.int .i32)) (hd : P.underlying dst = some .string)
    (h : w.ownsRow base e' 1 v n (nums .i32 xs)) : (convert src dst v).run P w = .ok (.string (runesBytes xs)) w := by
  obtain ⟨A, c, rfl, hr⟩ := own_reads h
  exact Kd.C_runes hs he hd (Kd.C_of_reads (d := (0 : Int)) (h1 := fun _ => rfl) hr)
def BRow (w : World) (g : Nat) (e : TypeId) (ys : List Int) : Prop :=
  ∃ (cs : Array Value) (m : Nat), w.heap[g]? = some (.cells cs e (m, m + 1)) ∧ ys.length ≤ m ∧ m ≤ cs.size ∧ ∀ j, j < ys.length → cs[j]? = some (.int .u8 (ys.getD j 0))
def bytesOfS (s : ByteArray) : List Int := s.data.toList.map fun b => (b.toNat : Int)
theorem bytesOfS_len (s : ByteArray) : (bytesOfS s).length = s.size := by unfold bytesOfS; rw [List.length_map, Array.length_toList]; rfl
theorem BRow.made (w : World) (e : TypeId) (s : ByteArray) : BRow (Lib.bytesWorld w e s) w.heap.size e (bytesOfS s) := by
  have hcell : ∀ j, j < (bytesOfS s).length → (Lib.bytesCells w e s)[j]? = some (.int .u8 ((bytesOfS s).getD j 0)) := by
    intro j hj
    have hj' : j < s.size := by rwa [bytesOfS_len] at hj
    have := Lib.bytesWorld_cell w e s j hj'
    simp only [World.cell?, Lib.bytesWorld_at_new, Option.isSome_none, Bool.false_eq_true, if_false] at this
    rw [this]
    have hj2 : j < s.data.size := hj'
    simp [bytesOfS, List.getD_eq_getElem?_getD, Array.getElem?_eq_getElem hj2]
  refine ⟨_, _, Lib.bytesWorld_at_new w e s, ?_, Nat.le_refl _, hcell⟩
  rcases Nat.lt_or_ge (Lib.bytesCells w e s).size (bytesOfS s).length with h | h
  · have := hcell _ h
    rw [Array.getElem?_eq_none (Nat.le_refl _)] at this
    cases this
  · exact h
theorem BRow.cell {w : World} {g : Nat} {e : TypeId} {ys : List Int} (h : BRow w g e ys) (j : Nat) (hj : j < ys.length) : w.cell? ⟨g, j, none⟩ = some (.int .u8 (ys.getD j 0)) := by
  obtain ⟨cs, m, hb, _, _, hc⟩ := h
  simp only [World.cell?, hb]
  exact hc j hj
theorem BRow.free {w : World} {g : Nat} {e : TypeId} {ys : List Int} (h : BRow w g e ys) (j : Nat) (hj : j < ys.length) : w.frozen? ⟨g, j, none⟩ = false := by
  obtain ⟨cs, m, hb, hm, _, hc⟩ := h
  simp only [World.frozen?, hb]
  simp
  omega
theorem BRow.set {w : World} {g : Nat} {e : TypeId} {ys : List Int} (h : BRow w g e ys) (j : Nat) (x : Int) : BRow (w.setCell ⟨g, j, none⟩ (.int .u8 x)) g e (ys.set j x) := by
  obtain ⟨cs, m, hb, hm, hm2, hc⟩ := h
  have hlt := (Array.getElem?_eq_some_iff.1 hb).1
  refine ⟨cs.setIfInBounds j (.int .u8 x), m, ?_, by simpa using hm, by simpa using hm2, fun i hi => ?_⟩
  · unfold World.setCell
    simp [hb, Array.getElem?_modify]
  · have hi' : i < ys.length := by simpa using hi
    by_cases e : i = j
    · subst e
      rw [Array.getElem?_setIfInBounds_self_of_lt (by omega)]
      simp [List.getD_eq_getElem?_getD, hi']
    · rw [Array.getElem?_setIfInBounds_ne (Ne.symm e), hc i hi']
      simp [List.getD_eq_getElem?_getD, Ne.symm e]
theorem BRow.str {P : Program} {w : World} {g : Nat} {e : TypeId} {ys : List Int} (h : BRow w g e ys) (src dst : TypeId) (c : Nat) (hs : P.underlying src = some (.slice e)) (he : P.underlying e = some (.int .u8)) (hd : P.underlying dst = some .string) (n : Nat) (hn : ys.length = n) :
    (convert src dst (.slice (some ⟨g, 0, none⟩) n c)).run P w = .ok (.string (strOfNums ys)) w := by
  subst hn
  refine run_convert_bytes_arg w src e hs he g 0 ys.length c ys rfl (fun i hi => ?_) dst hd
  rw [Nat.zero_add]
  exact h.cell i hi
theorem BRow.below {w : World} {g : Nat} {e : TypeId} {ys : List Int} (h : BRow w g e ys) {w1 : World} (hb : Below w.heap.size w w1) : BRow w1 g e ys := by
  obtain ⟨cs, m, hh, r⟩ := h
  exact ⟨cs, m, (hb.block g (Array.getElem?_eq_some_iff.1 hh).1).trans hh, r⟩
theorem bytesWorld_below (w : World) (e : TypeId) (s : ByteArray) : Below w.heap.size w (Lib.bytesWorld w e s) := by
  refine ⟨rfl, rfl, rfl, by rw [Lib.bytesWorld_size]; omega, fun k hk => Lib.bytesWorld_at_old w e s k hk⟩
end Go.Proofs.YtpnlbmeeihbjaabDoorW.PrintWords
end
