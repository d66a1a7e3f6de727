/- The law NthParses (layer 4): the row and its tied card: for every input the law returns true, and the argument reads behind the call as it read before. No condition of ours. -/
import Derived.Test.YtmfnnhmlekdbjaaDoorZNP7
import Derived.Test.YtmfnnhmlekdbjaaDoorRows
import Derived.Deep.Slices
import Derived.Deep.Fields
import Derived.ChangeSame
import Derived.SizedLaws
section
set_option linter.unusedVariables false
set_option linter.unusedSimpArgs false
namespace Go.Proofs.YtmfnnhmlekdbjaaDoor.P
open Go.ChangeShapes Go.WideShapes Go.Deep
open Go.RowKit Go.Proofs.YtmfnnhmlekdbjaaDoorW.PrintWords Go.Proofs.YtmfnnhmlekdbjaaDoorW.PrintLast Go.Proofs.YtmfnnhmlekdbjaaDoorW.PrintMore
set_option linter.unusedVariables false
set_option linter.unusedSimpArgs false
section
variable {H : Type} {enc : TypeId × Value → H} {w : World} {base : Nat} {spare : Nat → Bool} {held : Bool}
theorem rows_of {α : Type} [Inhabited α] (d : Kd α) (φ : α → DataW H → Prop) {t e : TypeId} {fuel : Nat} {cs : List Value} {x : DataW H × List MemPlace} (ht : Tryd.prog.underlying t = some (.slice e)) (hsz : Tryd.prog.cellsOf e = d.sz)
    (hel : ∀ n cs y, n < fuel → DataW.trod enc Tryd.prog w base spare held n e cs = some y → ∃ p, d.K w p cs ∧ φ p y.1) (h : DataW.trod enc Tryd.prog w base spare held fuel t cs = some x) :
    ∃ (A : Option Addr) (l : List α) (c : Nat), cs = [.slice A l.length c] ∧ l.length ≤ c ∧ d.C w A l.length l ∧
      ((l = [] ∧ x.1 = .nil) ∨ ∃ elems rest, x.1 = .slice elems rest ∧ elems.length = l.length ∧ ∀ (i : Nat) p D, l[i]? = some p → elems[i]? = some D → φ p D) := by
  rcases DataW.trod_slice ht h with ⟨rfl, rfl⟩ | ⟨a, len, cap, elems, rest, n, hf, rfl, rfl, _, hl, hm, hlen, hel2, _, _⟩
  · exact ⟨none, [], 0, rfl, Nat.le_refl _, ⟨rfl, by simp, fun h => absurd h (by simp)⟩, .inl ⟨rfl, rfl⟩⟩
  · have hget : ∀ i, i < len → ∃ p, (∃ c, c.length = d.sz ∧ d.K w p c ∧ ∀ j u, c[j]? = some u → w.cell? (a.add (i * d.sz + j)) = some u) ∧ ∀ y, elems[i]? = some y → φ p y.1 := by
      intro i hi
      have h1 := hel2 i hi
      have hi2 : i < elems.length := by omega
      rw [List.getElem?_eq_getElem hi2] at h1
      obtain ⟨cs', hc, ht'⟩ := Option.bind_eq_some_iff.1 h1
      obtain ⟨p, hK, hφ⟩ := hel n cs' _ (by omega) ht'
      refine ⟨p, ⟨cs', d.K_len hK, hK, fun j u hj => ?_⟩, fun y hy => ?_⟩
      · obtain ⟨_, hcl, hat⟩ := World.cells?_some hc
        have hjl : j < cs'.length := (List.getElem?_eq_some_iff.1 hj).1
        have := hat j (by rw [← hcl]; exact hjl)
        rw [← Go.Deep.add_add, ← hsz, this, hj]
      · rw [List.getElem?_eq_getElem hi2] at hy
        obtain rfl := Option.some.inj hy
        exact hφ
    have hch : ∃ f : Nat → α, ∀ i, i < len → ((∃ c, c.length = d.sz ∧ d.K w (f i) c ∧ ∀ j u, c[j]? = some u → w.cell? (a.add (i * d.sz + j)) = some u) ∧ ∀ y, elems[i]? = some y → φ (f i) y.1) := by
      refine ⟨fun i => if hi : i < len then (hget i hi).choose else default, fun i hi => ?_⟩
      simp only [hi, dif_pos]
      exact (hget i hi).choose_spec
    obtain ⟨f, hfs⟩ := hch
    refine ⟨some a, (List.range len).map f, cap, by simp, by simpa using hl, ⟨by simp, by simp; unfold maxLen at hm; omega, fun _ => ⟨a, rfl, fun j p hj => ?_⟩⟩, .inr ⟨elems.map (·.1), rest.map (·.1), rfl, by simpa using hlen, fun i p D hp hD => ?_⟩⟩
    · have hj' : j < len := by
        have := (List.getElem?_eq_some_iff.1 hj).1
        simpa using this
      simp [List.getElem?_range hj'] at hj
      subst hj
      exact (hfs j hj').1
    · have hi : i < len := by
        have := (List.getElem?_eq_some_iff.1 hp).1
        simpa using this
      simp [List.getElem?_range hi] at hp
      subst hp
      rw [List.getElem?_map] at hD
      obtain ⟨y, hy, rfl⟩ := Option.map_eq_some_iff.1 hD
      exact (hfs i hi).2 y hy
instance : Inhabited S30 := ⟨z30⟩
instance : Inhabited S32 := ⟨z32⟩
def Tok30 (p : S30) (D : DataW H) : Prop := p.f1.size ∈ D.weights Tryd.prog 30 ∧ p.f2.size ∈ D.weights Tryd.prog 30
theorem tok_of {n : Nat} {cs : List Value} {y : DataW H × List MemPlace} (h : DataW.trod enc Tryd.prog w base spare held n 30 cs = some y) : ∃ p, k30.K w p cs ∧ Tok30 p y.1 := by
  obtain ⟨xs, n', _, hy, hlen, hxl, hf⟩ := DataW.trod_struct Tryd.underlying30 h
  have hcl : cs.length = 5 := hlen.trans (by kernel_rfl)
  match cs, hcl with
  | [c0, c1, c2, c3, c4], _ =>
    have e0 : Tryd.prog.cellsOf 3 = 1 := by kernel_rfl
    have e1 : Tryd.prog.cellsOf 9 = 1 := by kernel_rfl
    have e2 : Tryd.prog.cellsOf 4 = 1 := by kernel_rfl
    have hxl5 : xs.length = 5 := hxl
    match xs, hxl5 with
    | [y0, y1, y2, y3, y4], _ =>
      have g0 : DataW.trod enc Tryd.prog w base spare held n' 3 (([c0, c1, c2, c3, c4].drop 0).take (Tryd.prog.cellsOf 3)) = some y0 := hf 0 _ rfl
      rw [e0] at g0
      have g1 : DataW.trod enc Tryd.prog w base spare held n' 9 (([c0, c1, c2, c3, c4].drop 1).take (Tryd.prog.cellsOf 9)) = some y1 := hf 1 _ rfl
      rw [e1] at g1
      have g2 : DataW.trod enc Tryd.prog w base spare held n' 9 (([c0, c1, c2, c3, c4].drop 2).take (Tryd.prog.cellsOf 9)) = some y2 := hf 2 _ rfl
      rw [e1] at g2
      have g3 : DataW.trod enc Tryd.prog w base spare held n' 4 (([c0, c1, c2, c3, c4].drop 3).take (Tryd.prog.cellsOf 4)) = some y3 := hf 3 _ rfl
      rw [e2] at g3
      have g4 : DataW.trod enc Tryd.prog w base spare held n' 4 (([c0, c1, c2, c3, c4].drop 4).take (Tryd.prog.cellsOf 4)) = some y4 := hf 4 _ rfl
      rw [e2] at g4
      obtain ⟨a0, ha0, hb0, _⟩ := DataW.trod_int Tryd.underlying3 g0
      obtain ⟨a1, ha1, hb1, _⟩ := DataW.trod_string Tryd.underlying9 g1
      obtain ⟨a2, ha2, hb2, _⟩ := DataW.trod_string Tryd.underlying9 g2
      obtain ⟨a3, ha3, hb3⟩ := DataW.trod_bool Tryd.underlying4 g3
      obtain ⟨a4, ha4, hb4⟩ := DataW.trod_bool Tryd.underlying4 g4
      simp at ha0 ha1 ha2 ha3 ha4
      subst ha0 ha1 ha2 ha3 ha4
      refine ⟨⟨a0, a1, a2, a3, a4⟩, k30_mk w ⟨a0, a1, a2, a3, a4⟩, ?_⟩
      subst hb0 hb1 hb2 hb3 hb4
      subst hy
      constructor
      · simp [DataW.weights, Tryd.underlying30, DataW.weightsEach]
      · simp [DataW.weights, Tryd.underlying30, DataW.weightsEach]
def Val32 (p : S32) (D : DataW H) : Prop := p.f0.f1.size ∈ D.weights Tryd.prog 32 ∧ p.f0.f2.size ∈ D.weights Tryd.prog 32
theorem vals_of : ∀ (N : Nat) {cs : List Value} {x : DataW H × List MemPlace}, DataW.trod enc Tryd.prog w base spare held N 27 cs = some x →
    ∃ (A : Option Addr) (l : List S32) (c : Nat), cs = [.slice A l.length c] ∧ l.length ≤ c ∧ k32.C w A l.length l ∧ ∀ p, p ∈ l → p.f0.f1.size ∈ x.1.weights Tryd.prog 27 ∧ p.f0.f2.size ∈ x.1.weights Tryd.prog 27 := by
  intro N
  induction N using Nat.strongRecOn with
  | _ N ih =>
    intro cs x h
    obtain ⟨A, l, c, hcs, hl, hC, hx⟩ := rows_of (H := H) (enc := enc) (w := w) (base := base) (spare := spare) (held := held) k32 Val32 Tryd.underlying27 (show Tryd.prog.cellsOf 32 = 6 by kernel_rfl) (fun n cs' y hn hy => by
      obtain ⟨xs, n', hnn, hyy, hlen, hxl, hf⟩ := DataW.trod_struct Tryd.underlying32 hy
      have hcl : cs'.length = 6 := hlen.trans (by kernel_rfl)
      match cs', hcl with
      | [c0, c1, c2, c3, c4, c5], _ =>
        have hxl2 : xs.length = 2 := hxl
        match xs, hxl2 with
        | [y0, y1], _ =>
          have e0 : Tryd.prog.cellsOf 30 = 5 := by kernel_rfl
          have e1 : Tryd.prog.cellsOf 27 = 1 := by kernel_rfl
          have g0 : DataW.trod enc Tryd.prog w base spare held n' 30 (([c0, c1, c2, c3, c4, c5].drop 0).take (Tryd.prog.cellsOf 30)) = some y0 := hf 0 _ rfl
          have g1 : DataW.trod enc Tryd.prog w base spare held n' 27 (([c0, c1, c2, c3, c4, c5].drop 5).take (Tryd.prog.cellsOf 27)) = some y1 := hf 1 _ rfl
          rw [e0] at g0
          rw [e1] at g1
          obtain ⟨tk, hK, hT⟩ := tok_of g0
          obtain ⟨A5, l5, d5, hc5, hl5, hC5, _⟩ := ih n' (by omega) g1
          have hk := k30_open hK
          simp at hk hc5
          obtain ⟨rfl, rfl, rfl, rfl, rfl⟩ := hk
          subst hc5
          refine ⟨⟨tk, l5⟩, k32_mk w ⟨tk, l5⟩ hl5 hC5, ?_⟩
          subst hyy
          constructor
          · simp only [DataW.weights, Tryd.underlying32, List.map_cons, List.map_nil, DataW.weightsEach, List.mem_append]
            first | exact .inl hT.1 | exact .inr (.inl hT.1) | (simp; exact .inl hT.1)
          · simp only [DataW.weights, Tryd.underlying32, List.map_cons, List.map_nil, DataW.weightsEach, List.mem_append]
            first | exact .inl hT.2 | exact .inr (.inl hT.2) | (simp; exact .inl hT.2)) h
    refine ⟨A, l, c, hcs, hl, hC, fun p hp => ?_⟩
    rcases hx with ⟨rfl, _⟩ | ⟨elems, rest, hx, hlen, hall⟩
    · simp at hp
    · obtain ⟨i, hi, rfl⟩ := List.getElem_of_mem hp
      have h1 := hall i _ elems[i] (List.getElem?_eq_getElem hi) (List.getElem?_eq_getElem (by omega))
      rw [hx]
      have key : ∀ z : Nat, z ∈ (elems[i]'(by omega)).weights Tryd.prog 32 → z ∈ (DataW.slice elems rest).weights Tryd.prog 27 := by
        intro z hz
        simp only [DataW.weights, Tryd.underlying27]
        refine List.mem_cons_of_mem _ (List.mem_append_left _ ?_)
        have hm : elems[i]'(by omega) ∈ elems := List.getElem_mem _
        generalize elems[i]'(by omega) = D at hz hm
        clear hall hlen hx h1
        induction elems with
        | nil => cases hm
        | cons E r ihr =>
          simp only [DataW.weightsAll, List.mem_append]
          rcases List.mem_cons.1 hm with rfl | hm
          · exact .inl hz
          · exact .inr (ihr hm)
      exact ⟨key _ h1.1, key _ h1.2⟩
end
end Go.Proofs.YtmfnnhmlekdbjaaDoor.P
end
