/- WalkOnce: for every input the law returns true, and each argument reads behind the call as it read before. -/
import Derived.RangeFuncFrom
import Derived.RangeFuncCalls
import Derived.RangeFuncBound
section
set_option linter.unusedVariables false
set_option linter.unusedSimpArgs false
namespace Go
open Go.RowKit
structure IStep (B : Nat) (O : Nat → Prop) (W W' : World) : Prop where
  os : W'.os = W.os
  tape : W'.tape = W.tape
  output : W'.output = W.output
  size : W.heap.size ≤ W'.heap.size
  block : ∀ k, k < W.heap.size → ¬ O k → (B ≤ k → ∃ o : Obj, W.heap[k]? = some o ∧ o.isCells = true) → W'.heap[k]? = W.heap[k]?
def AbidesO {α : Type} (B : Nat) (J : List α → (Nat → Prop) → World → Prop) : Prop :=
  ∀ pre O O' W W', J pre O W → IStep B O W W' → (∀ k, O k → B ≤ k ∧ k < W.heap.size) → (∀ k, O' k → (O k ∨ W.heap.size ≤ k) ∧ k < W'.heap.size) → J pre O' W'
structure OStep (O : Nat → Prop) (W W' : World) : Prop where
  os : W'.os = W.os
  tape : W'.tape = W.tape
  output : W'.output = W.output
  size : W.heap.size ≤ W'.heap.size
  block : ∀ k, k < W.heap.size → ¬ O k → W'.heap[k]? = W.heap[k]?
def AbidesI {α : Type} (B : Nat) (J : List α → (Nat → Prop) → World → Prop) : Prop :=
  ∀ pre O O' W W', J pre O W → OStep O W W' → (∀ k, O k → B ≤ k ∧ k < W.heap.size) → (∀ k, O' k → (O k ∨ W.heap.size ≤ k) ∧ k < W'.heap.size) → J pre O' W'
theorem OStep.refl (O : Nat → Prop) (W : World) : OStep O W W := ⟨rfl, rfl, rfl, Nat.le_refl _, fun _ _ _ => rfl⟩
theorem OStep.of_below {O : Nat → Prop} {W W' : World} (h : Below W.heap.size W W') : OStep O W W' := ⟨h.os, h.tape, h.output, h.size, fun k hk _ => h.block k hk⟩
def SeqStopsO {α : Type} (F : Fence) (n : Nat) (P : Program) (g : Nat) (lb : Array Value) (encs : α → Array Value) (n₀ : Nat) (K : Nat → Prop) (S Sp : List α → Prop) (N : Nat) (w : World) : Prop :=
  ∀ (l : Nat) (J Jx : List α → (Nat → Prop) → World → Prop) (W : World), Below w.heap.size w W → AbidesI W.heap.size J → AbidesI W.heap.size Jx →
    (∀ pre x O W1, J pre O W1 → (∀ k, O k → W.heap.size ≤ k ∧ k < W1.heap.size) → pre.length < N → YieldAt F (n - 1) P l (encs x) W1 fun e W' =>
      (e = .returned (.bool true) ∧ J (pre ++ [x]) O W' ∧ Below n₀ W1 W' ∧ (∀ k, O k ∨ K k → W'.heap[k]? = W1.heap[k]?)) ∨ (e = .returned (.bool false) ∧ Jx (pre ++ [x]) O W' ∧ W1.heap.size ≤ W'.heap.size)) →
    J [] (fun _ => False) W →
    CallsIn F n P g (#[.func (.yield l) #[] #[]] ++ lb) W fun e W' => (∃ v, e = .returned v) ∧ ((∃ xs O, S xs ∧ J xs O W') ∨ (∃ pre O, Sp pre ∧ Jx pre O W'))
def ownPostO {α : Type} (n₀ : Nat) (K : Nat → Prop) (I : List α → (Nat → Prop) → World → Prop) (Ix : Code → List α → (Nat → Prop) → World → Prop) (xs : List α) (O : Nat → Prop) (W : World) : Exit → Act → World → Prop
  | .normal, _, W' => KeepsOthers W W' ∧ Below n₀ W W' ∧ (∀ k, O k ∨ K k → W'.heap[k]? = W.heap[k]?) ∧ I xs O W'
  | .ret, _, W' => KeepsOthers W W' ∧ Ix .ret xs O W'
  | .exit id, _, W' => KeepsOthers W W' ∧ Ix (.exit id) xs O W'
  | .goto t, _, W' => KeepsOthers W W' ∧ Ix (.goto t) xs O W'
  | .panic _, _, _ => False
  | .outgrown, _, _ => False
variable {F : Fence} {n : Nat} {P : Program}
theorem AbidesO.putObj {α : Type} {B : Nat} {I : List α → (Nat → Prop) → World → Prop} (h : AbidesO B I) {pre : List α} {O : Nat → Prop} {W : World} {l : Nat} {o : Obj} (o' : Obj) (hs : I pre O W) (hO : ∀ k, O k → B ≤ k ∧ k < W.heap.size) (hB : B ≤ l) (hl : W.heap[l]? = some o) (ho : o.isCells = false) : I pre O (W.putObj l o') :=
  h pre O O W _ hs ⟨rfl, rfl, rfl, by simp, fun k _ _ hc => World.putObj_heap_other (fun e => by
    subst e; obtain ⟨o2, h2, h3⟩ := hc hB; rw [hl] at h2; cases h2; rw [ho] at h3; cases h3)⟩ hO (fun k hk => ⟨.inl hk, by simp; exact (hO k hk).2⟩)
theorem AbidesO.alloc {α : Type} {B : Nat} {I : List α → (Nat → Prop) → World → Prop} (h : AbidesO B I) {pre : List α} {O : Nat → Prop} {W : World} (o : Obj) (hs : I pre O W) (hO : ∀ k, O k → B ≤ k ∧ k < W.heap.size) : I pre O (W.alloc o) :=
  h pre O O W _ hs ⟨rfl, rfl, rfl, by simp, fun k hk _ _ => Below.heap_alloc W o k hk⟩ hO (fun k hk => ⟨.inl hk, by have := (hO k hk).2; simp; omega⟩)
theorem wpIn_rangeFunc_ownO {α : Type} {g : Operand} {ps : Array Tmp} {assign body : Code} {Q : Exit → Act → World → Prop} {a : Act} {w : World}
    (hro : F.round = none) (h1 : 1 ≤ n) {gf : Nat} {lb : Array Value} (hg : a.eval g = .func (.func gf) #[] lb) (hFg : F.fn gf) (eg : ∀ args w, (callFunc gf args).run P w = .ok (.enter gf args) w)
    {encs : α → Array Value} {n₀ : Nat} {K : Nat → Prop} {S Sp : List α → Prop} {N : Nat} {w0 : World} (hseq : SeqStopsO F (n - 1) P gf lb encs n₀ K S Sp N w0)
    (hKk : ∀ k, K k → k < w.heap.size) (hn₀ : n₀ ≤ w.heap.size) (hb0 : Below w0.heap.size w0 w) (hps : ∀ x, (encs x).size = ps.size)
    (I : List α → (Nat → Prop) → World → Prop) (Ix : Code → List α → (Nat → Prop) → World → Prop) (hI : AbidesO w.heap.size I) (hIx : ∀ c, AbidesO w.heap.size (Ix c)) (h0 : I [] (fun _ => False) w) (a₁ : α → Act)
    (hassign : ∀ (l : Nat) (x : α) (W : World) (K2 : Act → World → Prop), K2 (a₁ x) W →
      assign.wpIn (F.inRound l) (n - 1 - 1) P (Exit.then K2 (fun _ _ _ => False)) { tmps := (ps.zip (encs x)).foldl (fun t (p, v) => t.setIfInBounds p v) a.tmps, defers := [] } W)
    (hbody : ∀ (l : Nat) (pre : List α) (x : α) (O : Nat → Prop) (W : World), I pre O W → (∀ k, O k → w.heap.size ≤ k ∧ k < W.heap.size) → pre.length < N → body.wpIn (F.inRound l) (n - 1 - 1) P (ownPostO n₀ K I Ix (pre ++ [x]) O W) (a₁ x) W)
    (hdone : ∀ (D : Nat) (xs : List α) (O : Nat → Prop) (W : World), w.heap.size ≤ D → S xs → I xs O W → (∀ k, O k → w.heap.size ≤ k ∧ k < W.heap.size) → ¬ O D → W.heap[D]? = some (.deferred (some [])) → Q .normal { a with defers := { target := .collected D, args := #[] } :: a.defers } W)
    (hstop : ∀ (D : Nat) (c : Code) (pre : List α) (O : Nat → Prop) (W : World), w.heap.size ≤ D → Sp pre → Ix c pre O W → ¬ O D → W.heap[D]? = some (.deferred (some [])) → c.wpIn F n P Q { a with defers := { target := .collected D, args := #[] } :: a.defers } W) :
    (Code.rangeFunc g ps assign body).wpIn F n P Q a w := by
  refine wpIn_rangeFunc ?_
  intro fn hfn
  rw [hro]
  obtain ⟨rec, hrec⟩ : ∃ rec : LoopState → Option Code → Loop, rec = fun st pe => { state := st, pending := pe, fn, tmps := a.tmps, params := ps, assign, body, defers := w.heap.size } := ⟨_, rfl⟩
  obtain ⟨W1, hW1⟩ : ∃ W1, (w.alloc (.deferred (some []))).alloc (.loop (rec .ready none)) = W1 := ⟨_, rfl⟩
  have hL1 : W1.heap[w.heap.size + 1]? = some (.loop (rec .ready none)) := by
    rw [← hW1]; have := World.alloc_heap_new (w.alloc (.deferred (some []))) (.loop (rec .ready none)); rwa [World.size_alloc] at this
  have hK1 : W1.heap[w.heap.size]? = some (.deferred (some [])) := by
    rw [← hW1]; exact (Below.heap_alloc _ _ _ (by simp)).trans (World.alloc_heap_new w _)
  have hsz1 : W1.heap.size = w.heap.size + 2 := by rw [← hW1]; simp
  have hI1 : I [] (fun _ => False) W1 := by rw [← hW1]; exact hI.alloc _ (hI.alloc _ h0 (fun _ h => h.elim)) (fun _ h => h.elim)
  have hb1 : Below w0.heap.size w0 W1 := by
    rw [← hW1]; exact hb0.trans ((((Below.refl _ w).alloc (Nat.le_refl _) _).alloc (by simp) _).mono hb0.size)
  refine ⟨w.heap.size + 1, [{ target := .collected w.heap.size, args := #[] }], W1, { target := .fn (.func gf) lb, args := #[.func (.yield (w.heap.size + 1)) #[] #[]] }, W1, gf,
    #[.func (.yield (w.heap.size + 1)) #[] #[]] ++ lb, W1, ?_, ?_, ?_, ?_, fun _ => h1, ?_⟩
  · rw [← hW1, hrec]; exact run_enterLoop_outer _ _ _ _ _
  · simp only [resolve, hg]
    simp [go_sem]
  · intro f' hf'; simp [Target.leads] at hf'; subst hf'; exact hFg
  · simp [invoke, go_sem, eg]
  · have hup : ∀ {O : Nat → Prop} {A B : World}, OStep O A B → IStep w.heap.size O A B := fun h => ⟨h.os, h.tape, h.output, h.size, fun k hk ho _ => h.block k hk ho⟩
    refine (hseq (w.heap.size + 1)
      (fun pre O W => I pre O W ∧ W.heap[w.heap.size + 1]? = some (.loop (rec .ready none)) ∧ W.heap[w.heap.size]? = some (.deferred (some [])) ∧ ∀ k, O k → w.heap.size + 2 ≤ k ∧ k < W.heap.size)
      (fun pre O W => ∃ c, Ix c pre O W ∧ W.heap[w.heap.size + 1]? = some (.loop (rec .done (some c))) ∧ W.heap[w.heap.size]? = some (.deferred (some [])) ∧ ∀ k, O k → w.heap.size + 2 ≤ k ∧ k < W.heap.size)
      W1 hb1
      (fun s O O' A B hs hg hO hO' => ?_) (fun s O O' A B hs hg hO hO' => ?_) ?_ ⟨hI1, hL1, hK1, fun _ h => h.elim⟩).mono ?_
    · obtain ⟨hi, hl, hk, hu⟩ := hs
      have hl0 := (Array.getElem?_eq_some_iff.1 hl).1
      exact ⟨hI s O O' A B hi (hup hg) (fun k h => ⟨by have := (hu k h).1; omega, (hu k h).2⟩) hO', (hg.block _ (by omega) (fun h => by have := (hu _ h).1; omega)).trans hl,
        (hg.block _ (by omega) (fun h => by have := (hu _ h).1; omega)).trans hk, fun k h => ⟨by rcases (hO' k h).1 with h2 | h2; exact (hu k h2).1; omega, (hO' k h).2⟩⟩
    · obtain ⟨c, hi, hl, hk, hu⟩ := hs
      have hl0 := (Array.getElem?_eq_some_iff.1 hl).1
      exact ⟨c, hIx c s O O' A B hi (hup hg) (fun k h => ⟨by have := (hu k h).1; omega, (hu k h).2⟩) hO', (hg.block _ (by omega) (fun h => by have := (hu _ h).1; omega)).trans hl,
        (hg.block _ (by omega) (fun h => by have := (hu _ h).1; omega)).trans hk, fun k h => ⟨by rcases (hO' k h).1 with h2 | h2; exact (hu k h2).1; omega, (hO' k h).2⟩⟩
    · rintro pre x O W ⟨hi, hl, hk, hu⟩ hO1 hlen
      have hu' : ∀ k, O k → w.heap.size ≤ k ∧ k < W.heap.size := fun k h => ⟨by have := (hu k h).1; omega, (hu k h).2⟩
      have hlt : w.heap.size + 1 < W.heap.size := (Array.getElem?_eq_some_iff.1 hl).1
      have hy := run_yield (P := P) (args := encs x) hl (by rw [hrec]; exact hps x)
      rw [hrec] at hy
      refine ⟨fn, _, assign, body, hy, roundIn_of_wpIn hfn (hassign _ x W _ ⟨_, run_beginRound hl (by rw [hrec]), ?_⟩)⟩
      have hl2 : (W.putObj (w.heap.size + 1) (.loop { rec .ready none with state := .busy })).heap[w.heap.size + 1]? = some (.loop { rec .ready none with state := .busy }) := World.putObj_heap_same hlt
      have hk2 : (W.putObj (w.heap.size + 1) (.loop { rec .ready none with state := .busy })).heap[w.heap.size]? = some (.deferred (some [])) := (World.putObj_heap_other (by omega)).trans hk
      have hbel : ∀ (W : World) (o o' : Obj), W.heap[w.heap.size + 1]? = some o → Below n₀ W (W.putObj (w.heap.size + 1) o') := fun W o o' h =>
        (Below.refl n₀ W).grown (grownBy_putObj' W _ o') (by have := (Array.getElem?_eq_some_iff.1 h).1; omega) (fun k e => by cases e; omega)
      refine wpIn_mono (hbody _ pre x O _ (hI.putObj _ hi hu' (by omega) hl rfl) (fun k h => ⟨(hu' k h).1, by simp; exact (hu' k h).2⟩) hlen) ?_
      have fin : ∀ (jump : Option Code) (W3 : World), KeepsOthers (W.putObj (w.heap.size + 1) (.loop { rec .ready none with state := .busy })) W3 →
          (Instr.endRound (w.heap.size + 1) jump).run P W3 = .ok (.bool jump.isNone) (W3.putObj (w.heap.size + 1) (.loop (rec (if jump.isNone then .ready else .done) jump))) ∧
          W3.heap[w.heap.size + 1]? = some (.loop { rec .ready none with state := .busy }) ∧
          (W3.putObj (w.heap.size + 1) (.loop (rec (if jump.isNone then .ready else .done) jump))).heap[w.heap.size + 1]? = some (.loop (rec (if jump.isNone then .ready else .done) jump)) ∧
          (W3.putObj (w.heap.size + 1) (.loop (rec (if jump.isNone then .ready else .done) jump))).heap[w.heap.size]? = some (.deferred (some [])) ∧
          W.heap.size ≤ W3.heap.size := fun jump W3 hk3 => by
        have hl3 := hk3.same _ _ hl2 rfl
        have := run_endRound (P := P) jump hl3
        rw [hrec] at this ⊢
        exact ⟨this, by rw [hrec] at hl3; exact hl3, World.putObj_heap_same (Array.getElem?_eq_some_iff.1 hl3).1, (World.putObj_heap_other (by omega)).trans (hk3.same _ _ hk2 rfl), by have := hk3.size; simpa using this⟩
      rintro e a3 W3 hp
      cases e with
      | normal =>
        obtain ⟨hk3, hkp3, hO3, hi3⟩ := hp
        obtain ⟨hr, hl3, hl4, hk4, hs4⟩ := fin none W3 hk3
        have hu3 : ∀ k, O k → w.heap.size ≤ k ∧ k < W3.heap.size := fun k h => ⟨(hu' k h).1, by have := (hu' k h).2; omega⟩
        refine ⟨_, _, hr, .inl ⟨rfl, ⟨hI.putObj _ hi3 hu3 (by omega) hl3 rfl, hl4, hk4, fun k h => ⟨(hu k h).1, by simp; exact (hu3 k h).2⟩⟩, ((hbel W _ _ hl).trans hkp3).trans (hbel W3 _ _ hl3), fun k h => ?_⟩⟩
        have hne : k ≠ w.heap.size + 1 := by rcases h with h | h; (have := (hu k h).1; omega); (have := hKk k h; omega)
        exact (World.putObj_heap_other hne).trans ((hO3 k h).trans (World.putObj_heap_other hne))
      | ret =>
        obtain ⟨hk3, hi3⟩ := hp
        obtain ⟨hr, hl3, hl4, hk4, hs4⟩ := fin (some .ret) W3 hk3
        have hu3 : ∀ k, O k → w.heap.size ≤ k ∧ k < W3.heap.size := fun k h => ⟨(hu' k h).1, by have := (hu' k h).2; omega⟩
        exact ⟨_, _, hr, .inr ⟨rfl, ⟨.ret, (hIx _).putObj _ hi3 hu3 (by omega) hl3 rfl, hl4, hk4, fun k h => ⟨(hu k h).1, by simp; exact (hu3 k h).2⟩⟩, by simp; exact hs4⟩⟩
      | exit id =>
        obtain ⟨hk3, hi3⟩ := hp
        obtain ⟨hr, hl3, hl4, hk4, hs4⟩ := fin (some (.exit id)) W3 hk3
        have hu3 : ∀ k, O k → w.heap.size ≤ k ∧ k < W3.heap.size := fun k h => ⟨(hu' k h).1, by have := (hu' k h).2; omega⟩
        exact ⟨_, _, hr, .inr ⟨rfl, ⟨.exit id, (hIx _).putObj _ hi3 hu3 (by omega) hl3 rfl, hl4, hk4, fun k h => ⟨(hu k h).1, by simp; exact (hu3 k h).2⟩⟩, by simp; exact hs4⟩⟩
      | goto t =>
        obtain ⟨hk3, hi3⟩ := hp
        obtain ⟨hr, hl3, hl4, hk4, hs4⟩ := fin (some (.goto t)) W3 hk3
        have hu3 : ∀ k, O k → w.heap.size ≤ k ∧ k < W3.heap.size := fun k h => ⟨(hu' k h).1, by have := (hu' k h).2; omega⟩
        exact ⟨_, _, hr, .inr ⟨rfl, ⟨.goto t, (hIx _).putObj _ hi3 hu3 (by omega) hl3 rfl, hl4, hk4, fun k h => ⟨(hu k h).1, by simp; exact (hu3 k h).2⟩⟩, by simp; exact hs4⟩⟩
      | panic ch => exact hp.elim
      | outgrown => exact hp.elim
    · rintro e W2 ⟨⟨v, rfl⟩, (⟨xs, O, hS, hi, hl, hk, hu⟩ | ⟨pre, O, hSp, c, hi, hl, hk, hu⟩)⟩
      · have hu' : ∀ k, O k → w.heap.size ≤ k ∧ k < W2.heap.size := fun k h => ⟨by have := (hu k h).1; omega, (hu k h).2⟩
        exact ⟨none, _, by have := run_endLoop (P := P) hl (by rw [hrec]; simp); rw [hrec] at this; exact this, hdone _ xs O _ (Nat.le_refl _) hS (hI.putObj _ hi hu' (by omega) hl rfl) (fun k h => ⟨(hu' k h).1, by simp; exact (hu' k h).2⟩) (fun h => by have := (hu _ h).1; omega) ((World.putObj_heap_other (by omega)).trans hk)⟩
      · have hu' : ∀ k, O k → w.heap.size ≤ k ∧ k < W2.heap.size := fun k h => ⟨by have := (hu k h).1; omega, (hu k h).2⟩
        exact ⟨some c, _, by have := run_endLoop (P := P) hl (by rw [hrec]; simp); rw [hrec] at this; exact this, hstop _ c pre O _ (Nat.le_refl _) hSp ((hIx c).putObj _ hi hu' (by omega) hl rfl) (fun h => by have := (hu _ h).1; omega) ((World.putObj_heap_other (by omega)).trans hk)⟩
end Go
end
