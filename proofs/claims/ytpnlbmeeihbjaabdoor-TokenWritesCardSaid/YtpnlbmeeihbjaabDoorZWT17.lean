/- The law TokenWrites (layer 2): the row and its tied card: for every input the law returns true, and the arguments read behind the call as they read before. No condition of ours. -/
import Derived.Test.YtpnlbmeeihbjaabDoorZWT16
import Derived.Test.YtpnlbmeeihbjaabDoorRows
import Derived.Deep.Slices
import Derived.Deep.Fields
import Derived.ChangeSame
import Derived.SizedLaws
section
set_option linter.unusedVariables false
set_option linter.unusedSimpArgs false
namespace Go.Proofs.YtpnlbmeeihbjaabDoor.P
open Go.RowKit Go.Proofs.YtpnlbmeeihbjaabDoorW.PrintWords Go.Proofs.YtpnlbmeeihbjaabDoorW.PrintLast Go.Proofs.YtpnlbmeeihbjaabDoorW.PrintMore
open Go.Lib
attribute [local go_sem] max2_int min2_int max_two min_two max_three min_three max_four min_four
set_option linter.unusedVariables false
set_option linter.unusedSimpArgs false
open Go.ChangeShapes Go.WideShapes Go.Deep
set_option maxRecDepth 100000 in
theorem tok_read {H : Type} {enc : TypeId × Value → H} {w : World} {base : Nat} {spare : Nat → Bool} {held : Bool} {n : Nat} {cs : List Value} {y : DataW H × List MemPlace} (h : DataW.trod enc Tryd.prog w base spare held n 26 cs = some y) :
    ∃ (a0 : Int) (a1 a2 : ByteArray) (a3 a4 : Bool), cs = [.int .i64 a0, .string a1, .string a2, .bool a3, .bool a4] ∧ (Lit.int .i64 a0).wf = true ∧ a1.size ∈ y.1.weights Tryd.prog 26 ∧ a2.size ∈ y.1.weights Tryd.prog 26 := by
  obtain ⟨xs, n', _, hy, hlen, hxl, hf⟩ := DataW.trod_struct Tryd.underlying26 h
  have hcl : cs.length = 5 := hlen.trans (by kernel_rfl)
  match cs, hcl with
  | [c0, c1, c2, c3, c4], _ =>
    have e0 : Tryd.prog.cellsOf 3 = 1 := by kernel_rfl
    have e1 : Tryd.prog.cellsOf 9 = 1 := by kernel_rfl
    have e2 : Tryd.prog.cellsOf 4 = 1 := by kernel_rfl
    have hxl5 : xs.length = 5 := hxl
    match xs, hxl5 with
    | [y0, y1, y2, y3, y4], _ =>
      have g0 : DataW.trod enc Tryd.prog w base spare held n' 3 (([c0, c1, c2, c3, c4].drop 0).take (Tryd.prog.cellsOf 3)) = some y0 := hf 0 _ rfl
      rw [e0] at g0
      have g1 : DataW.trod enc Tryd.prog w base spare held n' 9 (([c0, c1, c2, c3, c4].drop 1).take (Tryd.prog.cellsOf 9)) = some y1 := hf 1 _ rfl
      rw [e1] at g1
      have g2 : DataW.trod enc Tryd.prog w base spare held n' 9 (([c0, c1, c2, c3, c4].drop 2).take (Tryd.prog.cellsOf 9)) = some y2 := hf 2 _ rfl
      rw [e1] at g2
      have g3 : DataW.trod enc Tryd.prog w base spare held n' 4 (([c0, c1, c2, c3, c4].drop 3).take (Tryd.prog.cellsOf 4)) = some y3 := hf 3 _ rfl
      rw [e2] at g3
      have g4 : DataW.trod enc Tryd.prog w base spare held n' 4 (([c0, c1, c2, c3, c4].drop 4).take (Tryd.prog.cellsOf 4)) = some y4 := hf 4 _ rfl
      rw [e2] at g4
      obtain ⟨a0, ha0, hb0, hw0⟩ := DataW.trod_int Tryd.underlying3 g0
      obtain ⟨a1, ha1, hb1, _⟩ := DataW.trod_string Tryd.underlying9 g1
      obtain ⟨a2, ha2, hb2, _⟩ := DataW.trod_string Tryd.underlying9 g2
      obtain ⟨a3, ha3, hb3⟩ := DataW.trod_bool Tryd.underlying4 g3
      obtain ⟨a4, ha4, hb4⟩ := DataW.trod_bool Tryd.underlying4 g4
      simp at ha0 ha1 ha2 ha3 ha4
      subst ha0 ha1 ha2 ha3 ha4
      refine ⟨a0, a1, a2, a3, a4, rfl, hw0, ?_, ?_⟩
      · subst hb0 hb1 hb2 hb3 hb4
        subst hy
        simp [DataW.weights, Tryd.underlying26, DataW.weightsEach]
      · subst hb0 hb1 hb2 hb3 hb4
        subst hy
        simp [DataW.weights, Tryd.underlying26, DataW.weightsEach]
end Go.Proofs.YtpnlbmeeihbjaabDoor.P
end
