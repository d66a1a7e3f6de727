/- WalkOnce: for every input the law returns true, and each argument reads behind the call as it read before. -/
import Derived.Test.YtpnlbmeeihbjaaaZWC7
import Derived.Test.YtpnlbmeeihbjaaaRows
import Derived.Deep.Slices
import Derived.Deep.Fields
import Derived.ChangeSame
import Derived.SizedLaws
section
set_option linter.unusedVariables false
set_option linter.unusedSimpArgs false
namespace Go.Proofs.Ytpnlbmeeihbjaaa.P
open Go.RowKit Go.Proofs.YtpnlbmeeihbjaaaW.PrintWords Go.Proofs.YtpnlbmeeihbjaaaW.PrintLast Go.Proofs.YtpnlbmeeihbjaaaW.PrintMore
attribute [local go_sem] max2_int min2_int max_two min_two max_three min_three max_four min_four
set_option linter.unusedVariables false
set_option linter.unusedSimpArgs false
open Go.ChangeShapes Go.WideShapes Go.Deep
section
variable {H : Type} {enc : TypeId × Value → H} {w : World} {base : Nat} {spare : Nat → Bool} {held : Bool}
theorem rows_of {α : Type} [Inhabited α] (d : Kd α) (φ : α → DataW H → Prop) {t e : TypeId} {fuel : Nat} {cs : List Value} {x : DataW H × List MemPlace} (ht : Try.prog.underlying t = some (.slice e)) (hsz : Try.prog.cellsOf e = d.sz)
    (hel : ∀ n cs y, n < fuel → DataW.trod enc Try.prog w base spare held n e cs = some y → ∃ p, d.K w p cs ∧ φ p y.1) (h : DataW.trod enc Try.prog w base spare held fuel t cs = some x) :
    ∃ (A : Option Addr) (l : List α) (c : Nat), cs = [.slice A l.length c] ∧ l.length ≤ c ∧ d.C w A l.length l ∧
      ((l = [] ∧ x.1 = .nil) ∨ ∃ elems rest, x.1 = .slice elems rest ∧ elems.length = l.length ∧ ∀ (i : Nat) p D, l[i]? = some p → elems[i]? = some D → φ p D) := by
  rcases DataW.trod_slice ht h with ⟨rfl, rfl⟩ | ⟨a, len, cap, elems, rest, n, hf, rfl, rfl, _, hl, hm, hlen, hel2, _, _⟩
  · exact ⟨none, [], 0, rfl, Nat.le_refl _, ⟨rfl, by simp, fun h => absurd h (by simp)⟩, .inl ⟨rfl, rfl⟩⟩
  · have hget : ∀ i, i < len → ∃ p, (∃ c, c.length = d.sz ∧ d.K w p c ∧ ∀ j u, c[j]? = some u → w.cell? (a.add (i * d.sz + j)) = some u) ∧ ∀ y, elems[i]? = some y → φ p y.1 := by
      intro i hi
      have h1 := hel2 i hi
      have hi2 : i < elems.length := by omega
      rw [List.getElem?_eq_getElem hi2] at h1
      obtain ⟨cs', hc, ht'⟩ := Option.bind_eq_some_iff.1 h1
      obtain ⟨p, hK, hφ⟩ := hel n cs' _ (by omega) ht'
      refine ⟨p, ⟨cs', d.K_len hK, hK, fun j u hj => ?_⟩, fun y hy => ?_⟩
      · obtain ⟨_, hcl, hat⟩ := World.cells?_some hc
        have hjl : j < cs'.length := (List.getElem?_eq_some_iff.1 hj).1
        have := hat j (by rw [← hcl]; exact hjl)
        rw [← Go.Deep.add_add, ← hsz, this, hj]
      · rw [List.getElem?_eq_getElem hi2] at hy
        obtain rfl := Option.some.inj hy
        exact hφ
    have hch : ∃ f : Nat → α, ∀ i, i < len → ((∃ c, c.length = d.sz ∧ d.K w (f i) c ∧ ∀ j u, c[j]? = some u → w.cell? (a.add (i * d.sz + j)) = some u) ∧ ∀ y, elems[i]? = some y → φ (f i) y.1) := by
      refine ⟨fun i => if hi : i < len then (hget i hi).choose else default, fun i hi => ?_⟩
      simp only [hi, dif_pos]
      exact (hget i hi).choose_spec
    obtain ⟨f, hfs⟩ := hch
    refine ⟨some a, (List.range len).map f, cap, by simp, by simpa using hl, ⟨by simp, by simp; unfold maxLen at hm; omega, fun _ => ⟨a, rfl, fun j p hj => ?_⟩⟩, .inr ⟨elems.map (·.1), rest.map (·.1), rfl, by simpa using hlen, fun i p D hp hD => ?_⟩⟩
    · have hj' : j < len := by
        have := (List.getElem?_eq_some_iff.1 hj).1
        simpa using this
      simp [List.getElem?_range hj'] at hj
      subst hj
      exact (hfs j hj').1
    · have hi : i < len := by
        have := (List.getElem?_eq_some_iff.1 hp).1
        simpa using this
      simp [List.getElem?_range hi] at hp
      subst hp
      rw [List.getElem?_map] at hD
      obtain ⟨y, hy, rfl⟩ := Option.map_eq_some_iff.1 hD
      exact (hfs i hi).2 y hy
instance : Inhabited S52 := ⟨z52⟩
def Act44 (p : S52) (D : DataW H) : Prop := p.f4.size ∈ D.weights Try.prog 52 ∧ p.f5.size ∈ D.weights Try.prog 52
set_option maxRecDepth 100000 in
theorem act_read {n : Nat} {cs : List Value} {y : DataW H × List MemPlace} (h : DataW.trod enc Try.prog w base spare held n 52 cs = some y) : ∃ p, k52.K w p cs ∧ Act44 p y.1 := by
  obtain ⟨xs, n', _, hy, hlen, hxl, hf⟩ := DataW.trod_struct Try.underlying52 h
  have hcl : cs.length = 6 := hlen.trans (by kernel_rfl)
  match cs, hcl with
  | [c0, c1, c2, c3, c4, c5], _ =>
    have e0 : Try.prog.cellsOf 3 = 1 := by kernel_rfl
    have e1 : Try.prog.cellsOf 9 = 1 := by kernel_rfl
    have hxl6 : xs.length = 6 := hxl
    match xs, hxl6 with
    | [y0, y1, y2, y3, y4, y5], _ =>
      have g0 : DataW.trod enc Try.prog w base spare held n' 3 (([c0, c1, c2, c3, c4, c5].drop 0).take (Try.prog.cellsOf 3)) = some y0 := hf 0 _ rfl
      have g1 : DataW.trod enc Try.prog w base spare held n' 3 (([c0, c1, c2, c3, c4, c5].drop 1).take (Try.prog.cellsOf 3)) = some y1 := hf 1 _ rfl
      have g2 : DataW.trod enc Try.prog w base spare held n' 3 (([c0, c1, c2, c3, c4, c5].drop 2).take (Try.prog.cellsOf 3)) = some y2 := hf 2 _ rfl
      have g3 : DataW.trod enc Try.prog w base spare held n' 3 (([c0, c1, c2, c3, c4, c5].drop 3).take (Try.prog.cellsOf 3)) = some y3 := hf 3 _ rfl
      have g4 : DataW.trod enc Try.prog w base spare held n' 9 (([c0, c1, c2, c3, c4, c5].drop 4).take (Try.prog.cellsOf 9)) = some y4 := hf 4 _ rfl
      have g5 : DataW.trod enc Try.prog w base spare held n' 9 (([c0, c1, c2, c3, c4, c5].drop 5).take (Try.prog.cellsOf 9)) = some y5 := hf 5 _ rfl
      rw [e0] at g0
      rw [e0] at g1
      rw [e0] at g2
      rw [e0] at g3
      rw [e1] at g4
      rw [e1] at g5
      obtain ⟨a0, ha0, hb0, _⟩ := DataW.trod_int Try.underlying3 g0
      obtain ⟨a1, ha1, hb1, _⟩ := DataW.trod_int Try.underlying3 g1
      obtain ⟨a2, ha2, hb2, _⟩ := DataW.trod_int Try.underlying3 g2
      obtain ⟨a3, ha3, hb3, _⟩ := DataW.trod_int Try.underlying3 g3
      obtain ⟨a4, ha4, hb4, _⟩ := DataW.trod_string Try.underlying9 g4
      obtain ⟨a5, ha5, hb5, _⟩ := DataW.trod_string Try.underlying9 g5
      simp at ha0 ha1 ha2 ha3 ha4 ha5
      subst ha0 ha1 ha2 ha3 ha4 ha5
      refine ⟨⟨a0, a1, a2, a3, a4, a5⟩, k52_mk w ⟨a0, a1, a2, a3, a4, a5⟩, ?_⟩
      subst hb4 hb5
      subst hy
      constructor
      · simp [DataW.weights, Try.underlying52, DataW.weightsEach]
      · simp [DataW.weights, Try.underlying52, DataW.weightsEach]
set_option maxRecDepth 100000 in
theorem acts_of {N : Nat} {cs : List Value} {x : DataW H × List MemPlace} (h : DataW.trod enc Try.prog w base spare held N 22 cs = some x) :
    ∃ (A : Option Addr) (l : List S52) (c : Nat), cs = [.slice A l.length c] ∧ l.length ≤ c ∧ k52.C w A l.length l ∧ ∀ p, p ∈ l → p.f4.size ∈ x.1.weights Try.prog 22 ∧ p.f5.size ∈ x.1.weights Try.prog 22 := by
  obtain ⟨A, l, c, hcs, hl, hC, hx⟩ := rows_of (H := H) (enc := enc) (w := w) (base := base) (spare := spare) (held := held) k52 Act44 Try.underlying22 (show Try.prog.cellsOf 52 = 6 by kernel_rfl) (fun n cs' y _ hy => act_read hy) h
  refine ⟨A, l, c, hcs, hl, hC, fun p hp => ?_⟩
  rcases hx with ⟨rfl, _⟩ | ⟨elems, rest, hx, hlen, hall⟩
  · simp at hp
  · obtain ⟨i, hi, rfl⟩ := List.getElem_of_mem hp
    have h1 := hall i _ elems[i] (List.getElem?_eq_getElem hi) (List.getElem?_eq_getElem (by omega))
    rw [hx]
    simp only [DataW.weights, Try.underlying22]
    have hm : elems[i] ∈ elems := List.getElem_mem _
    generalize elems[i] = D at h1 hm
    clear hall hlen hx
    have key : ∀ (z : Nat), z ∈ D.weights Try.prog 52 → z ∈ DataW.weightsAll Try.prog 52 elems := by
      intro z hz
      clear h1
      induction elems with
      | nil => cases hm
      | cons E r ihr =>
        simp only [DataW.weightsAll, List.mem_append]
        rcases List.mem_cons.1 hm with rfl | hm
        · exact .inl hz
        · exact .inr (ihr hm)
    exact ⟨List.mem_cons_of_mem _ (List.mem_append_left _ (key _ h1.1)), List.mem_cons_of_mem _ (List.mem_append_left _ (key _ h1.2))⟩
end
end Go.Proofs.Ytpnlbmeeihbjaaa.P
end
