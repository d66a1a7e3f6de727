/- WalkOnce: for every input the law returns true, and each argument reads behind the call as it read before. -/
import Derived.Test.YtpnlbmeeihbjaaaZWC2
import Derived.Test.YtpnlbmeeihbjaaaZWC4
import Derived.Test.YtpnlbmeeihbjaaaZWC5
import Derived.Laws.Cover4
import Derived.Laws.Slices
import Derived.Laws.IdiomStrings
import Derived.Lib.ConvBytes
import Derived.Laws.BytesArg
section
set_option linter.unusedVariables false
set_option linter.unusedSimpArgs false
namespace Go.Proofs.YtpnlbmeeihbjaaaW.PrintWords
open Go.RowKit
def BRow (w : World) (g : Nat) (e : TypeId) (ys : List Int) : Prop :=
  ∃ (cs : Array Value) (m : Nat), w.heap[g]? = some (.cells cs e (m, m + 1)) ∧ ys.length ≤ m ∧ m ≤ cs.size ∧ ∀ j, j < ys.length → cs[j]? = some (.int .u8 (ys.getD j 0))
theorem BRow.cell {w : World} {g : Nat} {e : TypeId} {ys : List Int} (h : BRow w g e ys) (j : Nat) (hj : j < ys.length) : w.cell? ⟨g, j, none⟩ = some (.int .u8 (ys.getD j 0)) := by
  obtain ⟨cs, m, hb, _, _, hc⟩ := h
  simp only [World.cell?, hb]
  exact hc j hj
theorem BRow.set {w : World} {g : Nat} {e : TypeId} {ys : List Int} (h : BRow w g e ys) (j : Nat) (x : Int) : BRow (w.setCell ⟨g, j, none⟩ (.int .u8 x)) g e (ys.set j x) := by
  obtain ⟨cs, m, hb, hm, hm2, hc⟩ := h
  have hlt := (Array.getElem?_eq_some_iff.1 hb).1
  refine ⟨cs.setIfInBounds j (.int .u8 x), m, ?_, by simpa using hm, by simpa using hm2, fun i hi => ?_⟩
  · unfold World.setCell
    simp [hb, Array.getElem?_modify]
  · have hi' : i < ys.length := by simpa using hi
    by_cases e : i = j
    · subst e
      rw [Array.getElem?_setIfInBounds_self_of_lt (by omega)]
      simp [List.getD_eq_getElem?_getD, hi']
    · rw [Array.getElem?_setIfInBounds_ne (Ne.symm e), hc i hi']
      simp [List.getD_eq_getElem?_getD, Ne.symm e]
theorem BRow.below {w : World} {g : Nat} {e : TypeId} {ys : List Int} (h : BRow w g e ys) {w1 : World} (hb : Below w.heap.size w w1) : BRow w1 g e ys := by
  obtain ⟨cs, m, hh, r⟩ := h
  exact ⟨cs, m, (hb.block g (Array.getElem?_eq_some_iff.1 hh).1).trans hh, r⟩
end Go.Proofs.YtpnlbmeeihbjaaaW.PrintWords
end
