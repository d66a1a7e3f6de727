/- ParseDecls: for every input of bulk at most 1048576 the law returns true, and each argument reads behind the call as it read before. -/
import Derived.Test.YthaaajpmiofodaaZPDE6
import Derived.Test.YthaaajpmiofodaaZPDE7
import Derived.Test.YthaaajpmiofodaaZPDE8
section
set_option linter.unusedVariables false
set_option linter.unusedSimpArgs false
namespace Go.Proofs.Ythaaajpmiofodaa.P
open Go.RowKit Go.Proofs.YthaaajpmiofodaaW.PrintWords Go.Proofs.YthaaajpmiofodaaW.PrintLast Go.Proofs.YthaaajpmiofodaaW.PrintMore
set_option linter.unusedVariables false
set_option linter.unusedSimpArgs false
def deepS : List S45 → Int → Bool
  | [], _ => false
  | x :: l, most => (decide (0 < x.f1.length) && (decide (most < 1) || deepS x.f1 (most - 1))) || deepS l most
termination_by l => SizeOf.sizeOf l
decreasing_by
  · cases x; simp; omega
  · simp; omega
theorem ev_Deep_l0 (l : List S45) (most : Int) (hm : -4611686018427387904 ≤ most) (hm2 : most ≤ 4611686018427387904) (hl : l.length ≤ 4611686018427387904)
    (hk : ∀ j, j < l.length → ¬ most < 1 → Ev (fun k => gouacheref03_Deep.f k (rd_T45 l (j : Nat)).f1 (most - 1)) (deepS (rd_T45 l (j : Nat)).f1 (most - 1))) :
    ∀ (d i : Nat), i + d = l.length → Ev (fun k => gouacheref03_Deep.l0 k most l (l.length : Int) (i : Nat)) (deepS (l.drop i) most) := by
  intro d
  induction d with
  | zero =>
    intro i hi
    refine Ev.step (fun k => by unfold gouacheref03_Deep.l0; exact rfl) ?_
    refine Ev.ifn (by omega) ?_
    rw [List.drop_eq_nil_of_le (by omega), deepS]
    exact Ev.now false
  | succ d ih =>
    intro i hi
    refine Ev.step (fun k => by unfold gouacheref03_Deep.l0; exact rfl) ?_
    refine Ev.ifp (by omega) (Ev.ifp (by omega) (Ev.ifp (by omega) ?_))
    rw [rd45_drop l i (by omega), deepS]
    have hw : wrap64 ((i : Int) + 1) = ((i + 1 : Nat) : Int) := by rw [w64 (by omega) (by omega)]; omega
    by_cases hp : 0 < (rd_T45 l (i : Nat)).f1.length
    · refine Ev.ifp (by omega) ?_
      by_cases h1 : most < 1
      · refine Ev.ifp h1 ?_
        simp only [hp, h1, decide_true, Bool.true_and, Bool.true_or]
        exact Ev.now true
      · refine Ev.ifn h1 ?_
        rw [w64 (x := most - 1) (by omega) (by omega)]
        refine Ev.bind (hk i (by omega) h1) ?_
        simp only [hp, h1, decide_true, decide_false, Bool.true_and, Bool.false_or]
        cases hd : deepS (rd_T45 l (i : Nat)).f1 (most - 1) with
        | true => simpa using Ev.now true
        | false =>
          refine Ev.ifn (by simp) ?_
          rw [hw, Bool.false_or]
          exact ih (i + 1) (by omega)
    · refine Ev.ifn (by omega) ?_
      rw [hw]
      simp only [hp, decide_false, Bool.false_and, Bool.false_or]
      exact ih (i + 1) (by omega)
theorem ev_Deep : ∀ (N : Nat) (l : List S45) (most : Int), SizeOf.sizeOf l < N → okLens l → -4611686018427387904 ≤ most → most ≤ 4611686018427387904 → Ev (fun k => gouacheref03_Deep.f k l most) (deepS l most) := by
  intro N
  induction N with
  | zero => intro l _ h; omega
  | succ N ih =>
    intro l most hN hok hm hm2
    refine Ev.step (fun k => by unfold gouacheref03_Deep.f; exact rfl) ?_
    exact ev_Deep_l0 l most hm hm2 (okLens_len l hok) (fun j hj h1 => ih _ _ (by have := z45_size l j hj; omega) (okLens_kid l j hj hok) (by omega) (by omega)) l.length 0 (by omega)
end Go.Proofs.Ythaaajpmiofodaa.P
end
