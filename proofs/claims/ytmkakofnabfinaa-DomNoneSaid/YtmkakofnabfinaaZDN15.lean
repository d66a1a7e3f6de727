/- DomNone: for every input the law returns true, and each argument reads behind the call as it read before. -/
import Derived.Test.YtmkakofnabfinaaZDN6
import Derived.WalkKit
import Derived.ProofKit
import Derived.OpenShut
import Derived.ShutString
import Derived.ChangeOld
import Derived.Below
section
set_option linter.unusedVariables false
set_option linter.unusedSimpArgs false
namespace Go.Proofs.Ytmkakofnabfinaa.P
open Go.RowKit Go.Proofs.YtmkakofnabfinaaW.PrintWords Go.Proofs.YtmkakofnabfinaaW.PrintLast Go.Proofs.YtmkakofnabfinaaW.PrintMore
open Go.ChangeShapes Go.WideShapes Go.ChangeAt
set_option linter.unusedVariables false
theorem six : ∀ (cs : List Value), cs.length = 6 → ∃ c0 c1 c2 c3 c4 c5, cs = [c0, c1, c2, c3, c4, c5]
  | [c0, c1, c2, c3, c4, c5], _ => ⟨c0, c1, c2, c3, c4, c5, rfl⟩
theorem act_of {H : Type} {enc : TypeId × Value → H} {W : World} {B : Nat} {sp : TypeId → Bool} {held : Bool} {fuel : Nat} {cs : List Value} {x : DataW H × List MemPlace} (hf : DataW.trod enc Try.prog W B sp held fuel 44 cs = some x) :
    ∃ k a b c s t, cs = [.int .i64 k, .int .i64 a, .int .i64 b, .int .i64 c, .string s, .string t] := by
  obtain ⟨xs, n, _, rfl, hl, hlen, hff⟩ := DataW.trod_struct Try.underlying44 hf
  rw [show Try.prog.cellsOf 44 = 6 by kernel_rfl] at hl
  obtain ⟨c0, c1, c2, c3, c4, c5, rfl⟩ := six cs hl
  have g : ∀ j, j < 6 → ∃ y, xs[j]? = some y := fun j hj => ⟨_, List.getElem?_eq_getElem (by rw [hlen]; exact hj)⟩
  obtain ⟨y0, e0⟩ := g 0 (by decide)
  obtain ⟨y1, e1⟩ := g 1 (by decide)
  obtain ⟨y2, e2⟩ := g 2 (by decide)
  obtain ⟨y3, e3⟩ := g 3 (by decide)
  obtain ⟨y4, e4⟩ := g 4 (by decide)
  obtain ⟨y5, e5⟩ := g 5 (by decide)
  have h0 : DataW.trod enc Try.prog W B sp held n 3 (([c0, c1, c2, c3, c4, c5].drop 0).take (Try.prog.cellsOf 3)) = some y0 := (hff 0 _ rfl).trans e0
  have h1 : DataW.trod enc Try.prog W B sp held n 3 (([c0, c1, c2, c3, c4, c5].drop 1).take (Try.prog.cellsOf 3)) = some y1 := (hff 1 _ rfl).trans e1
  have h2 : DataW.trod enc Try.prog W B sp held n 3 (([c0, c1, c2, c3, c4, c5].drop 2).take (Try.prog.cellsOf 3)) = some y2 := (hff 2 _ rfl).trans e2
  have h3 : DataW.trod enc Try.prog W B sp held n 3 (([c0, c1, c2, c3, c4, c5].drop 3).take (Try.prog.cellsOf 3)) = some y3 := (hff 3 _ rfl).trans e3
  have h4 : DataW.trod enc Try.prog W B sp held n 9 (([c0, c1, c2, c3, c4, c5].drop 4).take (Try.prog.cellsOf 9)) = some y4 := (hff 4 _ rfl).trans e4
  have h5 : DataW.trod enc Try.prog W B sp held n 9 (([c0, c1, c2, c3, c4, c5].drop 5).take (Try.prog.cellsOf 9)) = some y5 := (hff 5 _ rfl).trans e5
  have e3' : Try.prog.cellsOf 3 = 1 := by kernel_rfl
  have e9' : Try.prog.cellsOf 9 = 1 := by kernel_rfl
  rw [e3'] at h0
  rw [e3'] at h1
  rw [e3'] at h2
  rw [e3'] at h3
  rw [e9'] at h4
  rw [e9'] at h5
  obtain ⟨x0, z0, _⟩ := DataW.trod_int Try.underlying3 (cs := [c0]) h0
  obtain ⟨x1, z1, _⟩ := DataW.trod_int Try.underlying3 (cs := [c1]) h1
  obtain ⟨x2, z2, _⟩ := DataW.trod_int Try.underlying3 (cs := [c2]) h2
  obtain ⟨x3, z3, _⟩ := DataW.trod_int Try.underlying3 (cs := [c3]) h3
  obtain ⟨x4, z4, _⟩ := DataW.trod_string Try.underlying9 (cs := [c4]) h4
  obtain ⟨x5, z5, _⟩ := DataW.trod_string Try.underlying9 (cs := [c5]) h5
  simp at z0 z1 z2 z3 z4 z5
  subst z0 z1 z2 z3 z4 z5
  exact ⟨x0, x1, x2, x3, x4, x5, rfl⟩
end Go.Proofs.Ytmkakofnabfinaa.P
end
