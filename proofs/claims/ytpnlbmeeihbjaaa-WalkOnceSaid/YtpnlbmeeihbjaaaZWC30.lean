/- WalkOnce: for every input the law returns true, and each argument reads behind the call as it read before. -/
import Derived.Test.YtpnlbmeeihbjaaaZWC25
import Derived.Test.YtpnlbmeeihbjaaaZWC27
import Derived.Test.YtpnlbmeeihbjaaaZWC28
section
set_option linter.unusedVariables false
set_option linter.unusedSimpArgs false
namespace Go.Proofs.Ytpnlbmeeihbjaaa.P
open Go.RowKit Go.Proofs.YtpnlbmeeihbjaaaW.PrintWords Go.Proofs.YtpnlbmeeihbjaaaW.PrintLast Go.Proofs.YtpnlbmeeihbjaaaW.PrintMore
set_option linter.unusedVariables false
set_option linter.unusedSimpArgs false
def cost1 (f : Nat → Option S40) (k : Int) : Nat := max 1 (pre f k).length
def cost (f : Nat → Option S40) (l : List Int) : Nat := (l.map (cost1 f)).sum
section
variable {f : Nat → Option S40} {next : Int}
theorem cost_app (a b : List Int) : cost f (a ++ b) = cost f a + cost f b := by simp [cost]
theorem cost_len (l : List Int) : l.length ≤ cost f l := by
  induction l with
  | nil => exact Nat.le_refl _
  | cons a r ih =>
    have : cost f (a :: r) = cost1 f a + cost f r := by simp [cost]
    rw [this, List.length_cons]
    have : 1 ≤ cost1 f a := Nat.le_max_left _ _
    omega
theorem cost_flat (l : List Int) (h : ∀ c ∈ l, ∃ x, look f c = some x) (hg : Good f next) : cost f l = (l.flatMap (pre f)).length := by
  induction l with
  | nil => rfl
  | cons a r ih =>
    have e : cost f (a :: r) = cost1 f a + cost f r := by simp [cost]
    rw [e, List.flatMap_cons, List.length_append, ih (fun c hc => h c (List.mem_cons_of_mem _ hc))]
    obtain ⟨x, hx⟩ := h a List.mem_cons_self
    have : 1 ≤ (pre f a).length := by rw [pre_step hg hx]; simp
    unfold cost1
    omega
theorem cost_rev (l : List Int) : cost f l.reverse = cost f l := by
  unfold cost; rw [List.map_reverse, List.sum_reverse]
theorem cost_kids (hg : Good f next) {t : List Int} {k : Int} {x : S40} (hk : look f k = some x) : cost f (t ++ x.f3.reverse) + 1 = cost f (t ++ [k]) := by
  rw [cost_app, cost_app, cost_rev, cost_flat x.f3 (fun c hc => by obtain ⟨_, y, hy, _⟩ := hg.kid k x c hk hc; exact ⟨y, hy⟩) hg]
  have e : cost f [k] = (pre f k).length := by
    have : cost f [k] = cost1 f k := by simp [cost]
    rw [this]
    have : 1 ≤ (pre f k).length := by rw [pre_step hg hk]; simp
    unfold cost1
    omega
  rw [e, pre_step hg hk, List.length_cons]
  omega
theorem cost_none {t : List Int} {k : Int} (hk : look f k = none) : cost f t + 1 = cost f (t ++ [k]) := by
  rw [cost_app]
  have : cost f [k] = 1 := by simp [cost, cost1, pre_none hk]
  omega
theorem cost_one (hg : Good f next) (k : Int) : cost f [k] ≤ 1048577 := by
  have : cost f [k] = cost1 f k := by simp [cost]
  have := pre_len hg k
  unfold cost1 at *
  omega
end
theorem R_pop {w : World} {base : Nat} {ok : Nat → Prop} {A : Option Addr} {n m c : Nat} {t : List Int} {k : Int} (h : Kd.R (Kd.int .i64) 3 w base ok (.slice A n c) (t ++ [k])) (hm : m = t.length) :
    n = m + 1 ∧ ∃ g, A = some ⟨g, 0, none⟩ ∧ base ≤ g ∧ g < w.heap.size ∧ m ≤ c ∧ c ≤ 9223372036854775807 ∧ w.cell? ⟨g, m, none⟩ = some (.int .i64 k) ∧ Kd.R (Kd.int .i64) 3 w base ok (.slice (some ⟨g, 0, none⟩) m c) t := by
  have hok := h.1
  obtain ⟨g, c', e, hbg, hlt, hc⟩ := R_cell h t.length (by simp)
  injection e with e1 e2 e3
  subst e1
  subst e3
  obtain ⟨hlen, h2⟩ := Kd.own_of_R h
  rcases h2 with ⟨h2, _⟩ | ⟨g', cap, cur, e, hg, hb, hnc, hcm, hcs, htake⟩
  · cases h2
  · injection e with e1 e4 e3
    injection e1 with e1
    injection e1 with e1
    subst e1
    subst e3
    have hl : (t ++ [k]).length = t.length + 1 := by simp
    refine ⟨by omega, g, rfl, hbg, hlt, by omega, by have : c ≤ maxLen := hcm; unfold maxLen at this; omega, by rw [hm]; simpa using hc, ?_⟩
    refine Kd.R_of_own (enc := Value.int .i64) (h1 := fun _ => rfl) ⟨by simp [encs], .inr ⟨g, c, cur, by rw [hm], hg, hb, by omega, hcm, hcs, ?_⟩⟩ hok
    have : (cur.toList.take ((t ++ [k]).length * 1)).take t.length = (encs (Value.int .i64) (t ++ [k])).take t.length := by rw [htake]
    rw [List.take_take] at this
    rw [Nat.mul_one, show t.length = min t.length ((t ++ [k]).length * 1) by simp, this]
    simp [encs]
end Go.Proofs.Ytpnlbmeeihbjaaa.P
end
