/- BloomSets: for every input the law returns true, and each argument reads behind the call as it read before. -/
import Derived.Test.YtmkakofnabfinaaZBS1
import Derived.Test.YtmkakofnabfinaaZBS2
import Derived.Test.YtmkakofnabfinaaZBS3
import Derived.Laws.Cover4
import Derived.Laws.Slices
import Derived.Laws.IdiomStrings
import Derived.Lib.ConvBytes
import Derived.Laws.BytesArg
section
set_option linter.unusedVariables false
set_option linter.unusedSimpArgs false
namespace Go.Proofs.YtmkakofnabfinaaW.PrintWords
open Go.RowKit
def BRow (w : World) (g : Nat) (e : TypeId) (ys : List Int) : Prop :=
  ∃ (cs : Array Value) (m : Nat), w.heap[g]? = some (.cells cs e (m, m + 1)) ∧ ys.length ≤ m ∧ m ≤ cs.size ∧ ∀ j, j < ys.length → cs[j]? = some (.int .u8 (ys.getD j 0))
theorem BRow.cell {w : World} {g : Nat} {e : TypeId} {ys : List Int} (h : BRow w g e ys) (j : Nat) (hj : j < ys.length) : w.cell? ⟨g, j, none⟩ = some (.int .u8 (ys.getD j 0)) := by
  obtain ⟨cs, m, hb, _, _, hc⟩ := h
  simp only [World.cell?, hb]
  exact hc j hj
theorem BRow.free {w : World} {g : Nat} {e : TypeId} {ys : List Int} (h : BRow w g e ys) (j : Nat) (hj : j < ys.length) : w.frozen? ⟨g, j, none⟩ = false := by
  obtain ⟨cs, m, hb, hm, _, hc⟩ := h
  simp only [World.frozen?, hb]
  simp
  omega
theorem BRow.set {w : World} {g : Nat} {e : TypeId} {ys : List Int} (h : BRow w g e ys) (j : Nat) (x : Int) : BRow (w.setCell ⟨g, j, none⟩ (.int .u8 x)) g e (ys.set j x) := by
  obtain ⟨cs, m, hb, hm, hm2, hc⟩ := h
  have hlt := (Array.getElem?_eq_some_iff.1 hb).1
  refine ⟨cs.setIfInBounds j (.int .u8 x), m, ?_, by simpa using hm, by simpa using hm2, fun i hi => ?_⟩
  · unfold World.setCell
    simp [hb, Array.getElem?_modify]
  · have hi' : i < ys.length := by simpa using hi
    by_cases e : i = j
    · subst e
      rw [Array.getElem?_setIfInBounds_self_of_lt (by omega)]
      simp [List.getD_eq_getElem?_getD, hi']
    · rw [Array.getElem?_setIfInBounds_ne (Ne.symm e), hc i hi']
      simp [List.getD_eq_getElem?_getD, Ne.symm e]
theorem BRow.below {w : World} {g : Nat} {e : TypeId} {ys : List Int} (h : BRow w g e ys) {w1 : World} (hb : Below w.heap.size w w1) : BRow w1 g e ys := by
  obtain ⟨cs, m, hh, r⟩ := h
  exact ⟨cs, m, (hb.block g (Array.getElem?_eq_some_iff.1 hh).1).trans hh, r⟩
structure SV where
  a : Option Addr
  n : Nat
  c : Nat
def Kd.anyS : Kd SV := Kd.scalar (fun x => Value.slice x.a x.n x.c) (fun _ => rfl)
theorem arr4_eq {P : Program} {d : Nat} (w : World) (t e : TypeId) (ht : P.underlying t = some (.array 4 e)) (he : P.underlying e = some (.int .u64)) (hs : (P.info? e).map (fun i => i.size) = some 1) (x0 x1 x2 x3 y0 y1 y2 y3 : Int) :
    (Op.equalIn (d + 2) t (.agg #[.int .u64 x0, .int .u64 x1, .int .u64 x2, .int .u64 x3]) (.agg #[.int .u64 y0, .int .u64 y1, .int .u64 y2, .int .u64 y3])).run P w = .ok (x0 == y0 && (x1 == y1 && (x2 == y2 && (x3 == y3)))) w := by
  obtain ⟨i, hi, h1⟩ : ∃ i, P.info? e = some i ∧ i.size = 1 := by
    cases h : P.info? e with
    | none => rw [h] at hs; cases hs
    | some i => rw [h] at hs; exact ⟨i, rfl, by simpa using hs⟩
  have hp : ∀ (cs : Array Value) (j : Nat) (v : Value), cs[j]? = some v → (part e cs j).run P w = .ok v w := by
    intro cs j v hv
    simp [part, he, hi, h1, isAgg, run_underlying he, hv]
  have hs1 : (sizeOf e).run P w = .ok 1 w := by simp [sizeOf, typeInfo, hi, h1, Result.andThen]
  have he2 : ∀ x y : Int, (Op.equalIn (d + 1) e (.int .u64 x) (.int .u64 y)).run P w = .ok (x == y) w := fun x y => run_equalIn_int w d e .u64 .u64 x y he
  rw [Op.equalIn]
  simp only [Sem.run_bind, run_underlying ht, Result.andThen_ok, hs1]
  simp only [Std.Legacy.Range.forIn_eq_forIn_range', Std.Legacy.Range.size, Nat.sub_zero, Nat.add_sub_cancel, Nat.div_one, List.range'_succ, List.range'_zero, List.forIn_cons, List.forIn_nil, Sem.run_bind, Nat.mul_one, Nat.zero_add, Nat.reduceAdd]
  simp only [hp #[Value.int .u64 x0, .int .u64 x1, .int .u64 x2, .int .u64 x3] 0 _ rfl, hp #[Value.int .u64 y0, .int .u64 y1, .int .u64 y2, .int .u64 y3] 0 _ rfl, hp #[Value.int .u64 x0, .int .u64 x1, .int .u64 x2, .int .u64 x3] 1 _ rfl, hp #[Value.int .u64 y0, .int .u64 y1, .int .u64 y2, .int .u64 y3] 1 _ rfl, hp #[Value.int .u64 x0, .int .u64 x1, .int .u64 x2, .int .u64 x3] 2 _ rfl, hp #[Value.int .u64 y0, .int .u64 y1, .int .u64 y2, .int .u64 y3] 2 _ rfl, hp #[Value.int .u64 x0, .int .u64 x1, .int .u64 x2, .int .u64 x3] 3 _ rfl, hp #[Value.int .u64 y0, .int .u64 y1, .int .u64 y2, .int .u64 y3] 3 _ rfl, he2, Result.andThen_ok]
  by_cases c0 : x0 = y0 <;> by_cases c1 : x1 = y1 <;> by_cases c2 : x2 = y2 <;> by_cases c3 : x3 = y3 <;> simp [c0, c1, c2, c3, hp, he2, Result.andThen]
end Go.Proofs.YtmkakofnabfinaaW.PrintWords
end
